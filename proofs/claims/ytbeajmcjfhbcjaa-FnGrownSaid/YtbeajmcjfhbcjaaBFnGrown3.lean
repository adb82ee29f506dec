/- The statement FnGrown of the seat, out of its plain form (FnGrown_pure) and the walk of its Go function. Part 3 of 5: each Go function's walk, then the plain lemmas, then the row. No condition: it holds for every input. -/
import Derived.Test.YtbeajmcjfhbcjaaBFnGrown2
import Derived.Maps.OwnOps
import Derived.Maps.OwnSet
import Derived.Maps.Views
namespace Go.Proofs.Ytbeajmcjfhbcjaa.P
open Go.RowKit Go.Proofs.YtbeajmcjfhbcjaaW.PrintWords Go.Proofs.YtbeajmcjfhbcjaaW.PrintLast Go.Proofs.YtbeajmcjfhbcjaaW.PrintMore
attribute [local go_sem] max2_int min2_int max_two min_two max_three min_three max_four min_four   -- for this text's walks alone
set_option linter.unusedVariables false
set_option linter.unusedSimpArgs false

def chooser_next (l : List Int) (m : Int) : Option (Int × List Int) := match l with
 | [] => some (0, [])
 | v :: t => if m = 0 then none else some (Int.tmod (mx v 0) m, t)
structure DVS (w0 : World) (gc gm gw : Nat) (a0 a1 a2 : Int) (A : Option Addr) (cap : Nat) (l : List Int) (n : Int) (W : World) : Prop where
 bel : Below w0.heap.size w0 W
 bc : W.heap[gc]? = some (.cells #[.slice A l.length cap] 89 (0, 0))
 bm : W.heap[gm]? = some (.cells #[.int .i64 a0, .int .i64 a1, .int .i64 a2] 27 (0, 0))
 bn : W.heap[gw]? = some (.cells #[.int .i64 n] 3 (0, 0))
 row : Kd.C (Kd.int .i64) w0 A l.length l
 hcap : l.length ≤ cap
structure DVG (w0 : World) (gc gm gw : Nat) : Prop where
 hc : w0.heap.size ≤ gc
 hm : w0.heap.size ≤ gm
 hw : w0.heap.size ≤ gw
 n1 : gc ≠ gm
 n2 : gc ≠ gw
 n3 : gm ≠ gw
def DFr (gc gm gw : Nat) (W W' : World) : Prop := W.heap.size ≤ W'.heap.size ∧ ∀ k, k < W.heap.size → k ≠ gc → k ≠ gm → k ≠ gw → W'.heap[k]? = W.heap[k]?
theorem DFr.refl (gc gm gw : Nat) (W : World) : DFr gc gm gw W W := ⟨Nat.le_refl _, fun _ _ _ _ _ => rfl⟩
theorem DFr.trans {gc gm gw : Nat} {W1 W2 W3 : World} (h : DFr gc gm gw W1 W2) (h2 : DFr gc gm gw W2 W3) : DFr gc gm gw W1 W3 :=
 ⟨Nat.le_trans h.1 h2.1, fun k a b c d => (h2.2 k (Nat.lt_of_lt_of_le a h.1) b c d).trans (h.2 k a b c d)⟩
theorem DFr.below {gc gm gw : Nat} {W1 W2 : World} (h : Below W1.heap.size W1 W2) : DFr gc gm gw W1 W2 := ⟨h.size, fun k a _ _ _ => h.block k a⟩
section
variable {w0 W W' : World} {gc gm gw cap : Nat} {a0 a1 a2 : Int} {A : Option Addr} {l : List Int} {n : Int}
theorem DVS.below (h : DVS w0 gc gm gw a0 a1 a2 A cap l n W) (hb : Below W.heap.size W W') : DVS w0 gc gm gw a0 a1 a2 A cap l n W' :=
 ⟨h.bel.trans (hb.mono h.bel.size), blk_below h.bc hb, blk_below h.bm hb, blk_below h.bn hb, h.row, h.hcap⟩
theorem DVS.putn (h : DVS w0 gc gm gw a0 a1 a2 A cap l n W) (G : DVG w0 gc gm gw) (n' : Int) : DVS w0 gc gm gw a0 a1 a2 A cap l n' (W.setCell ⟨gw, 0, none⟩ (.int .i64 n')) ∧ DFr gc gm gw W (W.setCell ⟨gw, 0, none⟩ (.int .i64 n')) :=
 ⟨⟨h.bel.setCell G.hw _, blk_far h.bc G.n2 _, blk_far h.bm G.n3 _, blk_set h.bn 0 _, h.row, h.hcap⟩, by simp, fun k _ _ _ d => Below.heap_setCell W ⟨gw, 0, none⟩ _ k d⟩
theorem DVS.putc (h : DVS w0 gc gm gw a0 a1 a2 A cap l n W) (G : DVG w0 gc gm gw) (hp : 1 ≤ l.length) : DVS w0 gc gm gw a0 a1 a2 (if cap = 1 then A else A.map (·.add 1)) (cap - 1) (l.drop 1) n (W.setCell ⟨gc, 0, none⟩ (.slice (if cap = 1 then A else A.map (·.add 1)) (l.drop 1).length (cap - 1))) ∧ DFr gc gm gw W (W.setCell ⟨gc, 0, none⟩ (.slice (if cap = 1 then A else A.map (·.add 1)) (l.drop 1).length (cap - 1))) :=
 ⟨⟨h.bel.setCell G.hc _, blk_set h.bc 0 _, blk_far h.bm (Ne.symm G.n1) _, blk_far h.bn (Ne.symm G.n2) _, Kd.C_drop (m := 1) h.row hp h.hcap, by rw [List.length_drop]; have := h.hcap; omega⟩, by simp, fun k _ b _ _ => Below.heap_setCell W ⟨gc, 0, none⟩ _ k b⟩
end
set_option maxHeartbeats 4000000 in
set_option maxRecDepth 100000 in
theorem chooser_next.calls {w0 W : World} {gc gm gw cap : Nat} {a0 a1 a2 : Int} {A : Option Addr} {l : List Int} {n : Int} (G : DVG w0 gc gm gw) (h : DVS w0 gc gm gw a0 a1 a2 A cap l n W) (m r : Int) (l' : List Int) (hf : chooser_next l m = some (r, l')) :
  Calls Try.prog 91 #[.pointer (some ⟨gc, 0, none⟩), .int .i64 m] W fun e w' => e = .returned (.int .i64 r) ∧ (∃ A' cap', DVS w0 gc gm gw a0 a1 a2 A' cap' l' n w') ∧ DFr gc gm gw W w' := by
 have huC := Try.underlying89
 have hcc : W.cell? ⟨gc, 0, none⟩ = some (.slice A l.length cap) := (blk_cell h.bc 0).trans rfl
 have hcf := bf_ h.bc 0
 have HW := A_ h
 have HG := A_ G
 clear h G
 cases l with
 | nil =>
  obtain ⟨rfl, rfl⟩ : 0 = r ∧ [] = l' := by simpa [chooser_next] using hf
  clear hf
  go_enter Try.func91, Try.ntmps91
  go_wp2
  go_ret
  exact ⟨rfl, ⟨_, _, HW.out⟩, DFr.refl ..⟩
 | cons v t =>
  have hf2 : m ≠ 0 ∧ Int.tmod (mx v 0) m = r ∧ t = l' := by
   replace hf : (if m = 0 then none else some (Int.tmod (mx v 0) m, t)) = some (r, l') := hf
   by_cases e : m = 0
   ·rw [if_pos e] at hf; cases hf
   ·rw [if_neg e] at hf
    have := Option.some.inj hf
    exact ⟨e, congrArg Prod.fst this, congrArg Prod.snd this⟩
  obtain ⟨hm0, rfl, rfl⟩ := hf2
  clear hf
  obtain ⟨ad, e, hx⟩ := Kd.at_int HW.out.row 0 (Int.le_refl 0) (by simp only [List.length_cons]; omega)
  cases e
  have hb0 := World.block_lt_of_cell? w0 _ hx
  have hx2 := (HW.out.bel.cell hb0).trans hx
  simp only [Int.toNat_zero] at hx2
  rw [show rd (v :: t) 0 = v from rfl, show ad.add 0 = ad from by cases ad; simp [Addr.add]] at hx2
  have h1c : decide ((1 : Int) ≤ (cap : Int)) = true := decide_eq_true (by have := HW.out.hcap; simp only [List.length_cons] at this; omega)
  clear hx hb0
  have hlen : (v :: t).length = t.length + 1 := rfl
  have hmx := HW.out.row.2.1
  rcases Int.le_total v 0 with hv | hv
  all_goals by_cases hk : cap = 1
  all_goals
   have hP := HW.out.putc HG.out (by simp)
   first
    | rw [if_pos hk] at hP
    | rw [if_neg hk] at hP
   have HP := A_ hP
   clear hP
   have hcap := HW.out.hcap
   try subst hk
   go_enter Try.func91, Try.ntmps91
   go_wp2
   all_goals
    go_ret
    refine ⟨?_, ?_, ?_⟩
    ·first
      | rw [show mx v 0 = v by unfold mx; omega, Int.tmod_eq_emod_of_nonneg (by omega)]; done
      | (rw [show mx v 0 = v by unfold mx; omega, Int.tmod_eq_emod_of_nonneg (by omega)]; rfl) | (rw [show mx v 0 = 0 by unfold mx; omega, Int.zero_tmod]; rfl)
      | rw [show mx v 0 = 0 by unfold mx; omega, Int.zero_tmod]; done
    ·exact ⟨_, _, HP.out.1⟩
    ·exact HP.out.2
def dvd.T10 : Bool × List (List Nat × List Nat) := (true, [([], []), ([], []), ([1], [1]), ([2], [2]), ([], []), ([4], [4]), ([5], [5]), ([6], [6]), ([], []), ([8], [8]), ([], []), ([9, 10], [9, 10]), ([], []), ([12], [12]), ([13], [13]), ([14], [14]), ([15], [15]), ([11, 16], [11, 16]), ([], []), ([18], [18]), ([17, 19], [17, 19]), ([], []), ([20, 21], [20, 21]), ([7, 22], [7, 22]), ([3, 23, 23], [3, 23]), ([0, 0, 1, 2, 3, 4, 5, 6, 7, 8, 9, 10, 11, 12, 13, 14, 15, 16, 17, 18, 19, 20, 21, 22, 23, 24], [0]), ([25, 24, 24, 0, 1, 2, 3, 4, 5, 6, 7, 8, 9, 10, 11, 12, 13, 14, 15, 16, 17, 18, 19, 20, 21, 22, 23, 24], [24, 25])])
def dvd.B10 : List Nat := [0, 0, 2, 6, 0, 16, 48, 112, 0, 256, 0, 1792, 0, 4096, 12288, 28672, 61440, 130816, 0, 262144, 1048320, 0, 4194048, 8388592, 16777214, 33554431, 67108863]
theorem dvd.tab10 : rtab .any (opsOf Try.f140 10) = dvd.T10 := by kernel_rfl
theorem dvd.bits10 : waitsOk dvd.T10.2 dvd.B10 = true := by kernel_rfl
def dvd.T19 : Bool × List (List Nat × List Nat) := (true, [([], []), ([], []), ([1], [1]), ([2], [2]), ([], []), ([4], [4]), ([5], [5]), ([6], [6]), ([], []), ([8], [8]), ([], []), ([9, 10], [9, 10]), ([], []), ([12], [12]), ([13], [13]), ([14], [14]), ([15], [15]), ([11, 16], [11, 16]), ([], []), ([18], [18]), ([17, 19], [17, 19]), ([], []), ([20, 21], [20, 21]), ([7, 22], [7, 22]), ([3, 23, 23], [3, 23]), ([0, 0, 1, 2, 3, 4, 5, 6, 7, 8, 9, 10, 11, 12, 13, 14, 15, 16, 17, 18, 19, 20, 21, 22, 23, 24], [0]), ([25, 24, 24, 0, 1, 2, 3, 4, 5, 6, 7, 8, 9, 10, 11, 12, 13, 14, 15, 16, 17, 18, 19, 20, 21, 22, 23, 24], [24, 25])])
def dvd.B19 : List Nat := [0, 0, 2, 6, 0, 16, 48, 112, 0, 256, 0, 1792, 0, 4096, 12288, 28672, 61440, 130816, 0, 262144, 1048320, 0, 4194048, 8388592, 16777214, 33554431, 67108863]
theorem dvd.tab19 : rtab .any (opsOf Try.f140 19) = dvd.T19 := by kernel_rfl
theorem dvd.bits19 : waitsOk dvd.T19.2 dvd.B19 = true := by kernel_rfl
def dv_loop (k : Nat) (cell : Int → Int → Int) (dir pass : Int) : Nat → Nat → Int → Int → Int → Option (Int × Int × Int)
 | 0, _, a0, a1, a2 => some (a0, a1, a2)
 | d + 1, i, a0, a1, a2 => if (i : Int) = pass then dv_loop k cell dir pass d (i + 1) a0 a1 a2 else (impl_GapAt.f k a0 a1 (cell a0 (i : Int)) dir).bind fun g => (impl_with.f a0 a1 a2 g false).bind fun m => dv_loop k cell dir pass d (i + 1) m.1 m.2.1 m.2.2
def dv_f : Nat → Int → Int → Int → Int → Int → Int → Int → List Int → Int → Option ((Int × Int × Int) × List Int × Int)
 | 0, _, _, _, _, _, _, _, _, _ => none
 | k + 1, a0, a1, a2, x, y, wd, hi, l, n => if wd = 1 then some ((a0, a1, a2), l, n) else if hi = 1 then some ((a0, a1, a2), l, n) else if hi ≥ wd then (if 0 ≤ wd ∧ wd ≤ 1000 then ((chooser_next l (wrap64 (hi - 1))).bind fun p => (chooser_next p.2 wd).bind fun q => (dv_loop k (fun a i => wrap64 (wrap64 (wrap64 (wrap64 (y + p.1) * a) + x) + i)) 2 q.1 wd.toNat 0 a0 a1 a2).bind fun m => (dv_f k m.1 m.2.1 m.2.2 x y wd (wrap64 (p.1 + 1)) q.2 (wrap64 (n + 1))).bind fun r => dv_f k r.1.1 r.1.2.1 r.1.2.2 x (wrap64 (wrap64 (y + p.1) + 1)) wd (wrap64 (wrap64 (hi - p.1) - 1)) r.2.1 r.2.2) else none) else (if 0 ≤ hi ∧ hi ≤ 1000 then ((chooser_next l (wrap64 (wd - 1))).bind fun p => (chooser_next p.2 hi).bind fun q => (dv_loop k (fun a i => wrap64 (wrap64 (wrap64 (wrap64 (y + i) * a) + x) + p.1)) 1 q.1 hi.toNat 0 a0 a1 a2).bind fun m => (dv_f k m.1 m.2.1 m.2.2 x y (wrap64 (p.1 + 1)) hi q.2 (wrap64 (n + 1))).bind fun r => dv_f k r.1.1 r.1.2.1 r.1.2.2 (wrap64 (wrap64 (x + p.1) + 1)) y (wrap64 (wrap64 (wd - p.1) - 1)) hi r.2.1 r.2.2) else none)
theorem dv_loop_at {k : Nat} {cell : Int → Int → Int} {dir pass : Int} {d i : Nat} {a0 a1 a2 : Int} {r : Int × Int × Int} (H : dv_loop k cell dir pass (d + 1) i a0 a1 a2 = some r) : ((i : Int) = pass ∧ dv_loop k cell dir pass d (i + 1) a0 a1 a2 = some r) ∨ ((i : Int) ≠ pass ∧ ∃ g m1 m2 m3, impl_GapAt.f k a0 a1 (cell a0 (i : Int)) dir = some g ∧ impl_with.f a0 a1 a2 g false = some (m1, m2, m3) ∧ dv_loop k cell dir pass d (i + 1) m1 m2 m3 = some r) := by
 unfold dv_loop at H
 by_cases e : (i : Int) = pass
 ·rw [if_pos e] at H; exact .inl ⟨e, H⟩
 ·rw [if_neg e] at H
  obtain ⟨g, hg, H⟩ := Option.bind_eq_some_iff.1 H
  obtain ⟨⟨m1, m2, m3⟩, hm, H⟩ := Option.bind_eq_some_iff.1 H
  exact .inr ⟨e, g, m1, m2, m3, hg, hm, H⟩
section
variable {w0 W W' : World} {gc gm gw cap : Nat} {a0 a1 a2 : Int} {A : Option Addr} {l : List Int} {n : Int}
theorem DVS.putm (h : DVS w0 gc gm gw a0 a1 a2 A cap l n W) (G : DVG w0 gc gm gw) {b0 b1 b2 : Int} (hw : W'.heap[gm]? = some (.cells #[.int .i64 b0, .int .i64 b1, .int .i64 b2] 27 (0, 0))) (hs : W'.heap.size = W.heap.size) (hk : ∀ k, k ≠ gm → W'.heap[k]? = W.heap[k]?) (hb : Below w0.heap.size w0 W') : DVS w0 gc gm gw b0 b1 b2 A cap l n W' ∧ DFr gc gm gw W W' :=
 ⟨⟨hb, (hk _ G.n1).trans h.bc, hw, (hk _ (Ne.symm G.n3)).trans h.bn, h.row, h.hcap⟩, by omega, fun k _ _ c _ => hk k c⟩
theorem DVS.put3 (h : DVS w0 gc gm gw a0 a1 a2 A cap l n W) (G : DVG w0 gc gm gw) (t1 t2 t3 : Int) : DVS w0 gc gm gw t1 t2 t3 A cap l n (((W.setCell ⟨gm, 0, none⟩ (.int .i64 t1)).setCell ⟨gm, 1, none⟩ (.int .i64 t2)).setCell ⟨gm, 2, none⟩ (.int .i64 t3)) ∧ DFr gc gm gw W (((W.setCell ⟨gm, 0, none⟩ (.int .i64 t1)).setCell ⟨gm, 1, none⟩ (.int .i64 t2)).setCell ⟨gm, 2, none⟩ (.int .i64 t3)) :=
 h.putm G (blk_set (blk_set (blk_set h.bm 0 _) 1 _) 2 _) (by simp) (fun k hk => ((Below.heap_setCell _ ⟨gm, 2, none⟩ _ k hk).trans (Below.heap_setCell _ ⟨gm, 1, none⟩ _ k hk)).trans (Below.heap_setCell _ ⟨gm, 0, none⟩ _ k hk)) (((h.bel.setCell G.hm _).setCell G.hm _).setCell G.hm _)
theorem DFr.blk {gc gm gw : Nat} {W W' : World} {g : Nat} {o : Obj} (h : DFr gc gm gw W W') (hb : W.heap[g]? = some o) (h1 : g ≠ gc) (h2 : g ≠ gm) (h3 : g ≠ gw) : W'.heap[g]? = some o := (h.2 g (blk_lt hb) h1 h2 h3).trans hb
end
set_option maxHeartbeats 8000000 in
set_option maxRecDepth 100000 in
theorem dv_calls {w0 : World} {gc gm gw : Nat} (G : DVG w0 gc gm gw) : ∀ (k : Nat) (W : World) (a0 a1 a2 : Int) (A : Option Addr) (cap : Nat) (l : List Int) (n x y wd hi : Int) (r : (Int × Int × Int) × List Int × Int), DVS w0 gc gm gw a0 a1 a2 A cap l n W → dv_f k a0 a1 a2 x y wd hi l n = some r →
  Calls Try.prog 140 #[.pointer (some ⟨gc, 0, none⟩), .pointer (some ⟨gm, 0, none⟩), .agg #[.int .i64 x, .int .i64 y, .int .i64 wd, .int .i64 hi], .pointer (some ⟨gw, 0, none⟩)] W fun e w' => e = .returned (.tuple #[]) ∧ (∃ A' cap', DVS w0 gc gm gw r.1.1 r.1.2.1 r.1.2.2 A' cap' r.2.1 r.2.2 w') ∧ DFr gc gm gw W w' := by
 intro k
 induction k with
 | zero => intro W a0 a1 a2 A cap l n x y wd hi r h hf; simp [dv_f] at hf
 | succ k IH =>
  intro W a0 a1 a2 A cap l n x y wd hi r h hf
  have huR := Try.underlying123
  have huM := Try.underlying27
  have huG := Try.underlying25
  have hgc := blk_lt h.bc
  have hgm := blk_lt h.bm
  have hgw := blk_lt h.bn
  have HG := A_ G
  have HW := A_ h
  have HI := A_ IH
  clear G h IH
  unfold dv_f at hf
  by_cases e1 : wd = 1
  ·rw [if_pos e1] at hf
   obtain rfl := Option.some.inj hf
   subst e1
   have c1 : ((1 : Int) == 1) = true := rfl
   go_enter Try.func140, Try.ntmps140
   go_wp2
   ((try simp only [Exit.inBlock, Exit.then]); refine bodyPost_ret (results_none rfl _ _ _) rfl ?_)
   have hb := below_alloc (Below.refl W.heap.size W) (.cells #[.int .i64 x, .int .i64 y, .int .i64 1, .int .i64 hi] 123)
   exact ⟨rfl, ⟨_, _, HW.out.below hb⟩, DFr.below hb⟩
  ·rw [if_neg e1] at hf
   have c1 : (wd == 1) = false := beq_eq_false_iff_ne.mpr e1
   by_cases e2 : hi = 1
   ·rw [if_pos e2] at hf
    obtain rfl := Option.some.inj hf
    subst e2
    have c2 : ((1 : Int) == 1) = true := rfl
    go_enter Try.func140, Try.ntmps140
    go_wp2
    ((try simp only [Exit.inBlock, Exit.then]); refine bodyPost_ret (results_none rfl _ _ _) rfl ?_)
    have hb := below_alloc (Below.refl W.heap.size W) (.cells #[.int .i64 x, .int .i64 y, .int .i64 wd, .int .i64 1] 123)
    exact ⟨rfl, ⟨_, _, HW.out.below hb⟩, DFr.below hb⟩
   ·rw [if_neg e2] at hf
    have c2 : (hi == 1) = false := beq_eq_false_iff_ne.mpr e2
    by_cases e3 : hi ≥ wd
    ·rw [if_pos e3] at hf
     have c3 : decide (hi ≥ wd) = true := decide_eq_true e3
     by_cases e4 : 0 ≤ wd ∧ wd ≤ 1000
     ·rw [if_pos e4] at hf
      obtain ⟨⟨p, l1⟩, hp, hf⟩ := Option.bind_eq_some_iff.1 hf
      obtain ⟨⟨q, l2⟩, hq, hf⟩ := Option.bind_eq_some_iff.1 hf
      obtain ⟨⟨m0, m1, m2⟩, hm, hf⟩ := Option.bind_eq_some_iff.1 hf
      obtain ⟨⟨⟨r0, r1, r2⟩, l3, n3⟩, hr, hf⟩ := Option.bind_eq_some_iff.1 hf
      dsimp only at hq hm hr hf
      have HP := A_ hp
      have HQ := A_ hq
      have HM := A_ hm
      have HR := A_ hr
      have HF := A_ hf
      obtain ⟨WD, rfl⟩ := Int.eq_ofNat_of_zero_le e4.1
      clear hp hq hm hr hf
      go_enter Try.func140, Try.ntmps140
      go_wp2_with (first | ((with_reducible refine gate_dst (N := 6) rfl ?_); refine box_event ?hg (N := 6) ?hd (cs := #[.int .i64 x, .int .i64 y, .int .i64 (WD : Int), .int .i64 hi]) (t := 123) ?hr ?_; (case hd => rfl); (case hg => rfl); (case hr => first | (go_simp; done) | (go_simp; rfl)); intro gb hgb w1 hbox hb; have HB1 := A_ hbox; have HD1 := A_ (HW.out.below hb); have HF1 := A_ (DFr.below (gc := gc) (gm := gm) (gw := gw) hb); have GB := A_ (show gb ≠ gc ∧ gb ≠ gm ∧ gb ≠ gw by rw [hgb]; omega); have hbx : w1.cell? ⟨gb, 0, none⟩ = some (.int .i64 x) := (blk_cell HB1.out 0).trans rfl; have hby : w1.cell? ⟨gb, 1, none⟩ = some (.int .i64 y) := (blk_cell HB1.out 1).trans rfl; have hbw : w1.cell? ⟨gb, 2, none⟩ = some (.int .i64 (WD : Int)) := (blk_cell HB1.out 2).trans rfl; have hbh : w1.cell? ⟨gb, 3, none⟩ = some (.int .i64 hi) := (blk_cell HB1.out 3).trans rfl; have hcn : w1.cell? ⟨gw, 0, none⟩ = some (.int .i64 n) := (blk_cell HD1.out.bn 0).trans rfl; have hfn := bf_ HD1.out.bn 0; clear hb hbox hgb) | ((with_reducible refine gate_store (t := 3) (p := 26) rfl ?_); refine store_event (t := 3) (p := 26) (v := ?vo_s) (w1 := (w1.setCell ⟨gw, 0, none⟩ (.int .i64 (wrap64 (n + 1))))) ?hg ?ho ?hn ?hr ?_; (case ho => rfl); (case hg => rfl); (case hn => rfl); (case hr => first | (go_simp; done) | (go_simp; rfl)); intro w2 hw; have HQQ := HD1.out.putn HG.out (wrap64 (n + 1)); rw [← hw] at HQQ; have HD2 := A_ HQQ.1; have HF2 := A_ (HF1.out.trans HQQ.2); have HB2 := A_ (HQQ.2.blk HB1.out GB.out.1 GB.out.2.1 GB.out.2.2); clear hw HQQ hbx hby hbw hbh hcn hfn HB1; have hbx : w2.cell? ⟨gb, 0, none⟩ = some (.int .i64 x) := (blk_cell HB2.out 0).trans rfl; have hby : w2.cell? ⟨gb, 1, none⟩ = some (.int .i64 y) := (blk_cell HB2.out 1).trans rfl; have hbw : w2.cell? ⟨gb, 2, none⟩ = some (.int .i64 (WD : Int)) := (blk_cell HB2.out 2).trans rfl; have hbh : w2.cell? ⟨gb, 3, none⟩ = some (.int .i64 hi) := (blk_cell HB2.out 3).trans rfl) | ((with_reducible refine gate_callee (f := 91) rfl ?_); refine gl_ 36 Try.func91 #[.pointer (some ⟨gc, 0, none⟩), .int .i64 (wrap64 (hi - 1))] ?_; refine (chooser_next.calls HG.out HD2.out (wrap64 (hi - 1)) p l1 HP.out).mono ?_; rintro e w3 ⟨rfl, ⟨A3, cap3, hd⟩, hfr⟩; refine ⟨_, rfl, ?_⟩; have HD3 := A_ hd; have HF3 := A_ (HF2.out.trans hfr); have HB3 := A_ (hfr.blk HB2.out GB.out.1 GB.out.2.1 GB.out.2.2); clear hd hfr hbx hby hbw hbh; have hbx : w3.cell? ⟨gb, 0, none⟩ = some (.int .i64 x) := (blk_cell HB3.out 0).trans rfl; have hby : w3.cell? ⟨gb, 1, none⟩ = some (.int .i64 y) := (blk_cell HB3.out 1).trans rfl; have hbw : w3.cell? ⟨gb, 2, none⟩ = some (.int .i64 (WD : Int)) := (blk_cell HB3.out 2).trans rfl; have hbh : w3.cell? ⟨gb, 3, none⟩ = some (.int .i64 hi) := (blk_cell HB3.out 3).trans rfl) | ((with_reducible refine gate_callee (f := 91) rfl ?_); refine gl_ 40 Try.func91 #[.pointer (some ⟨gc, 0, none⟩), .int .i64 (WD : Int)] ?_; refine (chooser_next.calls HG.out HD3.out (WD : Int) q l2 HQ.out).mono ?_; rintro e w4 ⟨rfl, ⟨A4, cap4, hd⟩, hfr⟩; refine ⟨_, rfl, ?_⟩; have HD4 := A_ hd; have HF4 := A_ (HF3.out.trans hfr); have HB4 := A_ (hfr.blk HB3.out GB.out.1 GB.out.2.1 GB.out.2.2); clear hd hfr hbx hby hbw hbh; have hbx : w4.cell? ⟨gb, 0, none⟩ = some (.int .i64 x) := (blk_cell HB4.out 0).trans rfl; have hby : w4.cell? ⟨gb, 1, none⟩ = some (.int .i64 y) := (blk_cell HB4.out 1).trans rfl; have hbw : w4.cell? ⟨gb, 2, none⟩ = some (.int .i64 (WD : Int)) := (blk_cell HB4.out 2).trans rfl; have hbh : w4.cell? ⟨gb, 3, none⟩ = some (.int .i64 hi) := (blk_cell HB4.out 3).trans rfl))
      clear hbx hby hbw hbh
      go_loopg [10] WD (fun gg v10 wr => ∃ (i : Nat) (b0 b1 b2 : Int), i ≤ WD ∧ WD - i ≤ gg ∧ v10 = .int .i64 i ∧ Aside0 (dv_loop k (fun a i => wrap64 (wrap64 (wrap64 (wrap64 (y + p) * a) + x) + i)) 2 q (WD - i) i b0 b1 b2 = some (m0, m1, m2)) ∧ Aside0 (DVS w0 gc gm gw b0 b1 b2 A4 cap4 l2 (wrap64 (n + 1)) wr) ∧ Aside0 (DFr gc gm gw W wr) ∧ Aside0 (wr.heap[gb]? = some (.cells #[.int .i64 x, .int .i64 y, .int .i64 (WD : Int), .int .i64 hi] 123 (0, 0))))
      case atStart => exact ⟨0, a0, a1, a2, Nat.zero_le _, by omega, rfl, ⟨by have := HM.out; rwa [Int.toNat_natCast] at this⟩, HD4, HF4, HB4⟩
      case round =>
       clear HD4 HF4 HB4 HM
       obtain ⟨i, b0, b1, b2, hi1, hg, rfl, HM, HD5, HF5, HB5⟩ := hrel
       have hbx : wr.cell? ⟨gb, 0, none⟩ = some (.int .i64 x) := (blk_cell HB5.out 0).trans rfl
       have hby : wr.cell? ⟨gb, 1, none⟩ = some (.int .i64 y) := (blk_cell HB5.out 1).trans rfl
       have hbw : wr.cell? ⟨gb, 2, none⟩ = some (.int .i64 (WD : Int)) := (blk_cell HB5.out 2).trans rfl
       have hbh : wr.cell? ⟨gb, 3, none⟩ = some (.int .i64 hi) := (blk_cell HB5.out 3).trans rfl
       by_cases hlt : i < WD
       ·have hltz : (i : Int) < (WD : Int) := by omega
        have hltd : decide ((i : Int) < (WD : Int)) = true := decide_eq_true hltz
        obtain ⟨d, hd⟩ : ∃ d, WD - i = d + 1 := ⟨WD - i - 1, by omega⟩
        rcases dv_loop_at (by rw [← hd]; exact HM.out : dv_loop k _ 2 q (d + 1) i b0 b1 b2 = some (m0, m1, m2)) with ⟨hpq, hnext⟩ | ⟨hpq, g, t1, t2, t3, hg1, hg2, hnext⟩
        ·have hbn : ((i : Int) != q) = false := bne_eq_false_iff_eq.mpr hpq
         have HN := A_ hnext
         clear hnext hpq HM
         go_wp2
         go_roundg (WD - (i + 1))
         case measure => omega
         case rel => exact ⟨i + 1, b0, b1, b2, by omega, by omega, by go_num, ⟨by rw [show WD - (i + 1) = d by omega]; exact HN.out⟩, HD5, HF5, HB5⟩
        ·have hbn : ((i : Int) != q) = true := bne_iff_ne.mpr hpq
         have HN := A_ hnext
         have HG1 := A_ hg1
         have HG2 := A_ hg2
         clear hnext hpq HM hg1 hg2
         go_wp2
         have HD6 := A_ (HD5.out.below (below_drew1 (Below.refl _ _)))
         have HF6 := A_ (HF5.out.trans (DFr.below (below_drew1 (Below.refl _ _))))
         have HB6 := A_ (blk_drew HB5.out)
         clear HD5 HF5 HB5 hbx hby hbw hbh
         refine start_ (n := 27) (S := fun w' => w'.cell? ⟨gm, 0, none⟩ = some (.int .i64 b0) ∧ w'.cell? ⟨gm, 1, none⟩ = some (.int .i64 b1) ∧ w'.cell? ⟨gm, 2, none⟩ = some (.int .i64 b2) ∧ w'.cell? ⟨gb, 0, none⟩ = some (.int .i64 x) ∧ w'.cell? ⟨gb, 1, none⟩ = some (.int .i64 y)) (ds := [26]) #[false, false, false, false, false, false, false, false, false, false, false, false, false, false, false, false, false, false, false, false, false, false, false, false, false, false, false] (by kernel_rfl) rfl rfl ⟨(blk_cell HD6.out.bm 0).trans rfl, (blk_cell HD6.out.bm 1).trans rfl, (blk_cell HD6.out.bm 2).trans rfl, (blk_cell HB6.out 0).trans rfl, (blk_cell HB6.out 1).trans rfl⟩ (fun hHeld => ?_)
         refine with_tabW dvd.tab10 dvd.bits10 (fun HT_ HW_ => ?_)
         generalize wr.drew = w6 at HD6 HB6 HF6 hHeld ⊢
         refine pv_ 0 50 HT_ ?_; refine pv_ 1 51 HT_ ?_; refine pv_ 2 52 HT_ ?_; refine tv_ 3 53 rfl HT_ HW_ hHeld (by rintro w' ⟨s0, s1, s2, s3, s4⟩; go_simp; with_reducible rfl) ?_
         refine pv_ 4 54 HT_ ?_; refine pv_ 5 55 HT_ ?_; refine pv_ 6 56 HT_ ?_; refine tv_ 7 57 rfl HT_ HW_ hHeld (by rintro w' ⟨s0, s1, s2, s3, s4⟩; go_simp; with_reducible rfl) ?_
         refine pv_ 8 58 HT_ ?_; refine tv_ 9 59 rfl HT_ HW_ hHeld (by rintro w' ⟨s0, s1, s2, s3, s4⟩; go_simp; with_reducible rfl) ?_
         refine pv_ 10 60 HT_ ?_; refine pv_ 11 61 HT_ ?_; refine pv_ 12 62 HT_ ?_; refine pv_ 13 63 HT_ ?_; refine pv_ 14 64 HT_ ?_; refine pv_ 15 65 HT_ ?_; refine tv_ 16 66 rfl HT_ HW_ hHeld (by rintro w' ⟨s0, s1, s2, s3, s4⟩; go_simp; with_reducible rfl) ?_
         refine pv_ 17 67 HT_ ?_; refine pv_ 18 68 HT_ ?_; refine tv_ 19 69 rfl HT_ HW_ hHeld (by rintro w' ⟨s0, s1, s2, s3, s4⟩; go_simp; with_reducible rfl) ?_
         refine pv_ 20 70 HT_ ?_; refine pv_ 21 71 HT_ ?_; refine pv_ 22 72 HT_ ?_
         refine on_ 23 (some 73) rfl rfl HT_ (by kernel_rfl) (by decide) (fun K hK => ?_)
         refine gs_ Try.func123 #[.agg #[.int .i64 b0, .int .i64 b1], .int .i64 (wrap64 (wrap64 (wrap64 (wrap64 (y + p) * b0) + x) + (i : Int))), .int .i64 2] ?_
         refine (impl_GapAt.calls k b0 b1 (wrap64 (wrap64 (wrap64 (wrap64 (y + p) * b0) + x) + (i : Int))) 2 g _ HG1.out).mono ?_
         rintro e w7 ⟨rfl, hb⟩
         refine ⟨_, rfl, ?_⟩
         have HD7 := A_ (HD6.out.below hb)
         have HF7 := A_ (HF6.out.trans (DFr.below hb))
         have HB7 := A_ (blk_below HB6.out hb)
         clear hb hHeld HD6 HF6 HB6
         refine hK.out _ _ ⟨(blk_cell HD7.out.bm 0).trans rfl, (blk_cell HD7.out.bm 1).trans rfl, (blk_cell HD7.out.bm 2).trans rfl, (blk_cell HB7.out 0).trans rfl, (blk_cell HB7.out 1).trans rfl⟩ (fun hHeld => ?_)
         clear hK K
         refine norm_ (a' := ?_) ?_ ?_; rotate_left; (show Act.put _ (some 73) _ = _; simp only [P6_]; rfl)
         refine on_ 24 (some 74) rfl rfl HT_ (by kernel_rfl) (by decide) (fun K hK => ?_)
         refine gs_ Try.func92 #[.agg #[.int .i64 b0, .int .i64 b1, .int .i64 b2], .int .i64 g, .bool false] ?_
         refine (impl_with.calls b0 b1 b2 g false t1 t2 t3 _ HG2.out).mono ?_
         rintro e w8 ⟨rfl, hb⟩
         refine ⟨_, rfl, ?_⟩
         have HD8 := A_ (HD7.out.below hb)
         have HF8 := A_ (HF7.out.trans (DFr.below hb))
         have HB8 := A_ (blk_below HB7.out hb)
         clear hb hHeld HD7 HF7 HB7
         refine hK.out _ _ ⟨(blk_cell HD8.out.bm 0).trans rfl, (blk_cell HD8.out.bm 1).trans rfl, (blk_cell HD8.out.bm 2).trans rfl, (blk_cell HB8.out 0).trans rfl, (blk_cell HB8.out 1).trans rfl⟩ (fun hHeld => ?_)
         clear hK K
         refine norm_ (a' := ?_) ?_ ?_; rotate_left; (show Act.put _ (some 74) _ = _; simp only [P6_]; rfl)
         refine pv_ 25 75 HT_ ?_
         have hz0 := bf_ HD8.out.bm 0
         have hz1 := bf_ HD8.out.bm 1
         have hz2 := bf_ HD8.out.bm 2
         refine last_ (i := 26) (N := none) #[true, true, true, true, true, true, true, true, true, true, true, true, true, true, true, true, true, true, true, true, true, true, true, true, true, true, true] rfl rfl (one_of HT_.out (by kernel_rfl)) (by decide) (fun K hK => ?_)
         refine skip_ (w1 := ?_) (by rfl) rfl ?_ ?_
         rotate_left
         ·go_simp
          rfl
         refine hK.out _ _ ?_
         clear hK K
         refine done_ (done_of HT_.out (by kernel_rfl)) ?_
         try go_wp2
         have HPM := HD8.out.put3 HG.out t1 t2 t3
         have HD9 := A_ HPM.1
         have HF9 := A_ (HF8.out.trans HPM.2)
         have HB9 := A_ (HPM.2.blk HB8.out GB.out.1 GB.out.2.1 GB.out.2.2)
         clear HPM
         go_roundg (WD - (i + 1))
         case measure => omega
         case rel => exact ⟨i + 1, t1, t2, t3, by omega, by omega, by go_num, ⟨by rw [show WD - (i + 1) = d by omega]; exact HN.out⟩, HD9, HF9, HB9⟩
       ·have hltz : ¬ (i : Int) < (WD : Int) := by omega
        have hltd : decide ((i : Int) < (WD : Int)) = false := decide_eq_false hltz
        have hmm := HM.out
        rw [show WD - i = 0 by omega] at hmm
        unfold dv_loop at hmm
        have hmm := Option.some.inj hmm
        obtain ⟨rfl, rfl, rfl⟩ : b0 = m0 ∧ b1 = m1 ∧ b2 = m2 := by simpa using hmm
        clear hmm HM
        go_wp2_with (first | ((with_reducible refine gate_dst (N := 88) rfl ?_); refine gl_ 88 Try.func140 #[.pointer (some ⟨gc, 0, none⟩), .pointer (some ⟨gm, 0, none⟩), .agg #[.int .i64 x, .int .i64 y, .int .i64 (WD : Int), .int .i64 (wrap64 (p + 1))], .pointer (some ⟨gw, 0, none⟩)] ?_; refine (HI.out _ _ _ _ _ _ _ _ _ _ _ _ _ HD5.out HR.out).mono ?_; rintro e w10 ⟨rfl, ⟨A10, cap10, hd⟩, hfr⟩; refine ⟨_, rfl, ?_⟩; have HD10 := A_ hd; have HF10 := A_ (HF5.out.trans hfr); have HB10 := A_ (hfr.blk HB5.out GB.out.1 GB.out.2.1 GB.out.2.2); clear hd hfr; (try clear hbx hby hbw hbh); have hbx : w10.cell? ⟨gb, 0, none⟩ = some (.int .i64 x) := (blk_cell HB10.out 0).trans rfl; have hby : w10.cell? ⟨gb, 1, none⟩ = some (.int .i64 y) := (blk_cell HB10.out 1).trans rfl; have hbw : w10.cell? ⟨gb, 2, none⟩ = some (.int .i64 (WD : Int)) := (blk_cell HB10.out 2).trans rfl; have hbh : w10.cell? ⟨gb, 3, none⟩ = some (.int .i64 hi) := (blk_cell HB10.out 3).trans rfl) | ((with_reducible refine gate_dst (N := 107) rfl ?_); refine gl_ 107 Try.func140 #[.pointer (some ⟨gc, 0, none⟩), .pointer (some ⟨gm, 0, none⟩), .agg #[.int .i64 x, .int .i64 (wrap64 (wrap64 (y + p) + 1)), .int .i64 (WD : Int), .int .i64 (wrap64 (wrap64 (hi - p) - 1))], .pointer (some ⟨gw, 0, none⟩)] ?_; refine (HI.out _ _ _ _ _ _ _ _ _ _ _ _ _ HD10.out HF.out).mono ?_; rintro e w11 ⟨rfl, ⟨A11, cap11, hd⟩, hfr⟩; refine ⟨_, rfl, ?_⟩; have HD11 := A_ hd; have HF11 := A_ (HF10.out.trans hfr); have HB11 := A_ (hfr.blk HB10.out GB.out.1 GB.out.2.1 GB.out.2.2); clear hd hfr; (try clear hbx hby hbw hbh); have hbx : w11.cell? ⟨gb, 0, none⟩ = some (.int .i64 x) := (blk_cell HB11.out 0).trans rfl; have hby : w11.cell? ⟨gb, 1, none⟩ = some (.int .i64 y) := (blk_cell HB11.out 1).trans rfl; have hbw : w11.cell? ⟨gb, 2, none⟩ = some (.int .i64 (WD : Int)) := (blk_cell HB11.out 2).trans rfl; have hbh : w11.cell? ⟨gb, 3, none⟩ = some (.int .i64 hi) := (blk_cell HB11.out 3).trans rfl))
        ((try simp only [Exit.inBlock, Exit.then]); refine bodyPost_ret (results_none rfl _ _ _) rfl ?_)
        exact ⟨rfl, ⟨_, _, HD11.out⟩, HF11.out⟩
     ·rw [if_neg e4] at hf; cases hf
    ·rw [if_neg e3] at hf
     have c3 : decide (hi ≥ wd) = false := decide_eq_false e3
     by_cases e4 : 0 ≤ hi ∧ hi ≤ 1000
     ·rw [if_pos e4] at hf
      obtain ⟨⟨p, l1⟩, hp, hf⟩ := Option.bind_eq_some_iff.1 hf
      obtain ⟨⟨q, l2⟩, hq, hf⟩ := Option.bind_eq_some_iff.1 hf
      obtain ⟨⟨m0, m1, m2⟩, hm, hf⟩ := Option.bind_eq_some_iff.1 hf
      obtain ⟨⟨⟨r0, r1, r2⟩, l3, n3⟩, hr, hf⟩ := Option.bind_eq_some_iff.1 hf
      dsimp only at hq hm hr hf
      have HP := A_ hp
      have HQ := A_ hq
      have HM := A_ hm
      have HR := A_ hr
      have HF := A_ hf
      obtain ⟨WD, rfl⟩ := Int.eq_ofNat_of_zero_le e4.1
      clear hp hq hm hr hf
      go_enter Try.func140, Try.ntmps140
      go_wp2_with (first | ((with_reducible refine gate_dst (N := 6) rfl ?_); refine box_event ?hg (N := 6) ?hd (cs := #[.int .i64 x, .int .i64 y, .int .i64 wd, .int .i64 (WD : Int)]) (t := 123) ?hr ?_; (case hd => rfl); (case hg => rfl); (case hr => first | (go_simp; done) | (go_simp; rfl)); intro gb hgb w1 hbox hb; have HB1 := A_ hbox; have HD1 := A_ (HW.out.below hb); have HF1 := A_ (DFr.below (gc := gc) (gm := gm) (gw := gw) hb); have GB := A_ (show gb ≠ gc ∧ gb ≠ gm ∧ gb ≠ gw by rw [hgb]; omega); have hbx : w1.cell? ⟨gb, 0, none⟩ = some (.int .i64 x) := (blk_cell HB1.out 0).trans rfl; have hby : w1.cell? ⟨gb, 1, none⟩ = some (.int .i64 y) := (blk_cell HB1.out 1).trans rfl; have hbw : w1.cell? ⟨gb, 2, none⟩ = some (.int .i64 wd) := (blk_cell HB1.out 2).trans rfl; have hbh : w1.cell? ⟨gb, 3, none⟩ = some (.int .i64 (WD : Int)) := (blk_cell HB1.out 3).trans rfl; have hcn : w1.cell? ⟨gw, 0, none⟩ = some (.int .i64 n) := (blk_cell HD1.out.bn 0).trans rfl; have hfn := bf_ HD1.out.bn 0; clear hb hbox hgb) | ((with_reducible refine gate_store (t := 3) (p := 26) rfl ?_); refine store_event (t := 3) (p := 26) (v := ?vo_s) (w1 := (w1.setCell ⟨gw, 0, none⟩ (.int .i64 (wrap64 (n + 1))))) ?hg ?ho ?hn ?hr ?_; (case ho => rfl); (case hg => rfl); (case hn => rfl); (case hr => first | (go_simp; done) | (go_simp; rfl)); intro w2 hw; have HQQ := HD1.out.putn HG.out (wrap64 (n + 1)); rw [← hw] at HQQ; have HD2 := A_ HQQ.1; have HF2 := A_ (HF1.out.trans HQQ.2); have HB2 := A_ (HQQ.2.blk HB1.out GB.out.1 GB.out.2.1 GB.out.2.2); clear hw HQQ hbx hby hbw hbh hcn hfn HB1; have hbx : w2.cell? ⟨gb, 0, none⟩ = some (.int .i64 x) := (blk_cell HB2.out 0).trans rfl; have hby : w2.cell? ⟨gb, 1, none⟩ = some (.int .i64 y) := (blk_cell HB2.out 1).trans rfl; have hbw : w2.cell? ⟨gb, 2, none⟩ = some (.int .i64 wd) := (blk_cell HB2.out 2).trans rfl; have hbh : w2.cell? ⟨gb, 3, none⟩ = some (.int .i64 (WD : Int)) := (blk_cell HB2.out 3).trans rfl) | ((with_reducible refine gate_callee (f := 91) rfl ?_); refine gl_ 112 Try.func91 #[.pointer (some ⟨gc, 0, none⟩), .int .i64 (wrap64 (wd - 1))] ?_; refine (chooser_next.calls HG.out HD2.out (wrap64 (wd - 1)) p l1 HP.out).mono ?_; rintro e w3 ⟨rfl, ⟨A3, cap3, hd⟩, hfr⟩; refine ⟨_, rfl, ?_⟩; have HD3 := A_ hd; have HF3 := A_ (HF2.out.trans hfr); have HB3 := A_ (hfr.blk HB2.out GB.out.1 GB.out.2.1 GB.out.2.2); clear hd hfr hbx hby hbw hbh; have hbx : w3.cell? ⟨gb, 0, none⟩ = some (.int .i64 x) := (blk_cell HB3.out 0).trans rfl; have hby : w3.cell? ⟨gb, 1, none⟩ = some (.int .i64 y) := (blk_cell HB3.out 1).trans rfl; have hbw : w3.cell? ⟨gb, 2, none⟩ = some (.int .i64 wd) := (blk_cell HB3.out 2).trans rfl; have hbh : w3.cell? ⟨gb, 3, none⟩ = some (.int .i64 (WD : Int)) := (blk_cell HB3.out 3).trans rfl) | ((with_reducible refine gate_callee (f := 91) rfl ?_); refine gl_ 116 Try.func91 #[.pointer (some ⟨gc, 0, none⟩), .int .i64 (WD : Int)] ?_; refine (chooser_next.calls HG.out HD3.out (WD : Int) q l2 HQ.out).mono ?_; rintro e w4 ⟨rfl, ⟨A4, cap4, hd⟩, hfr⟩; refine ⟨_, rfl, ?_⟩; have HD4 := A_ hd; have HF4 := A_ (HF3.out.trans hfr); have HB4 := A_ (hfr.blk HB3.out GB.out.1 GB.out.2.1 GB.out.2.2); clear hd hfr hbx hby hbw hbh; have hbx : w4.cell? ⟨gb, 0, none⟩ = some (.int .i64 x) := (blk_cell HB4.out 0).trans rfl; have hby : w4.cell? ⟨gb, 1, none⟩ = some (.int .i64 y) := (blk_cell HB4.out 1).trans rfl; have hbw : w4.cell? ⟨gb, 2, none⟩ = some (.int .i64 wd) := (blk_cell HB4.out 2).trans rfl; have hbh : w4.cell? ⟨gb, 3, none⟩ = some (.int .i64 (WD : Int)) := (blk_cell HB4.out 3).trans rfl))
      clear hbx hby hbw hbh
      go_loopg [13] WD (fun gg v13 wr => ∃ (i : Nat) (b0 b1 b2 : Int), i ≤ WD ∧ WD - i ≤ gg ∧ v13 = .int .i64 i ∧ Aside0 (dv_loop k (fun a i => wrap64 (wrap64 (wrap64 (wrap64 (y + i) * a) + x) + p)) 1 q (WD - i) i b0 b1 b2 = some (m0, m1, m2)) ∧ Aside0 (DVS w0 gc gm gw b0 b1 b2 A4 cap4 l2 (wrap64 (n + 1)) wr) ∧ Aside0 (DFr gc gm gw W wr) ∧ Aside0 (wr.heap[gb]? = some (.cells #[.int .i64 x, .int .i64 y, .int .i64 wd, .int .i64 (WD : Int)] 123 (0, 0))))
      case atStart => exact ⟨0, a0, a1, a2, Nat.zero_le _, by omega, rfl, ⟨by have := HM.out; rwa [Int.toNat_natCast] at this⟩, HD4, HF4, HB4⟩
      case round =>
       clear HD4 HF4 HB4 HM
       obtain ⟨i, b0, b1, b2, hi1, hg, rfl, HM, HD5, HF5, HB5⟩ := hrel
       have hbx : wr.cell? ⟨gb, 0, none⟩ = some (.int .i64 x) := (blk_cell HB5.out 0).trans rfl
       have hby : wr.cell? ⟨gb, 1, none⟩ = some (.int .i64 y) := (blk_cell HB5.out 1).trans rfl
       have hbw : wr.cell? ⟨gb, 2, none⟩ = some (.int .i64 wd) := (blk_cell HB5.out 2).trans rfl
       have hbh : wr.cell? ⟨gb, 3, none⟩ = some (.int .i64 (WD : Int)) := (blk_cell HB5.out 3).trans rfl
       by_cases hlt : i < WD
       ·have hltz : (i : Int) < (WD : Int) := by omega
        have hltd : decide ((i : Int) < (WD : Int)) = true := decide_eq_true hltz
        obtain ⟨d, hd⟩ : ∃ d, WD - i = d + 1 := ⟨WD - i - 1, by omega⟩
        rcases dv_loop_at (by rw [← hd]; exact HM.out : dv_loop k _ 1 q (d + 1) i b0 b1 b2 = some (m0, m1, m2)) with ⟨hpq, hnext⟩ | ⟨hpq, g, t1, t2, t3, hg1, hg2, hnext⟩
        ·have hbn : ((i : Int) != q) = false := bne_eq_false_iff_eq.mpr hpq
         have HN := A_ hnext
         clear hnext hpq HM
         go_wp2
         go_roundg (WD - (i + 1))
         case measure => omega
         case rel => exact ⟨i + 1, b0, b1, b2, by omega, by omega, by go_num, ⟨by rw [show WD - (i + 1) = d by omega]; exact HN.out⟩, HD5, HF5, HB5⟩
        ·have hbn : ((i : Int) != q) = true := bne_iff_ne.mpr hpq
         have HN := A_ hnext
         have HG1 := A_ hg1
         have HG2 := A_ hg2
         clear hnext hpq HM hg1 hg2
         go_wp2
         have HD6 := A_ (HD5.out.below (below_drew1 (Below.refl _ _)))
         have HF6 := A_ (HF5.out.trans (DFr.below (below_drew1 (Below.refl _ _))))
         have HB6 := A_ (blk_drew HB5.out)
         clear HD5 HF5 HB5 hbx hby hbw hbh
         refine start_ (n := 27) (S := fun w' => w'.cell? ⟨gm, 0, none⟩ = some (.int .i64 b0) ∧ w'.cell? ⟨gm, 1, none⟩ = some (.int .i64 b1) ∧ w'.cell? ⟨gm, 2, none⟩ = some (.int .i64 b2) ∧ w'.cell? ⟨gb, 0, none⟩ = some (.int .i64 x) ∧ w'.cell? ⟨gb, 1, none⟩ = some (.int .i64 y)) (ds := [26]) #[false, false, false, false, false, false, false, false, false, false, false, false, false, false, false, false, false, false, false, false, false, false, false, false, false, false, false] (by kernel_rfl) rfl rfl ⟨(blk_cell HD6.out.bm 0).trans rfl, (blk_cell HD6.out.bm 1).trans rfl, (blk_cell HD6.out.bm 2).trans rfl, (blk_cell HB6.out 0).trans rfl, (blk_cell HB6.out 1).trans rfl⟩ (fun hHeld => ?_)
         refine with_tabW dvd.tab19 dvd.bits19 (fun HT_ HW_ => ?_)
         generalize wr.drew = w6 at HD6 HB6 HF6 hHeld ⊢
         refine pv_ 0 126 HT_ ?_; refine pv_ 1 127 HT_ ?_; refine pv_ 2 128 HT_ ?_; refine tv_ 3 129 rfl HT_ HW_ hHeld (by rintro w' ⟨s0, s1, s2, s3, s4⟩; go_simp; with_reducible rfl) ?_
         refine pv_ 4 130 HT_ ?_; refine pv_ 5 131 HT_ ?_; refine pv_ 6 132 HT_ ?_; refine tv_ 7 133 rfl HT_ HW_ hHeld (by rintro w' ⟨s0, s1, s2, s3, s4⟩; go_simp; with_reducible rfl) ?_
         refine pv_ 8 134 HT_ ?_; refine tv_ 9 135 rfl HT_ HW_ hHeld (by rintro w' ⟨s0, s1, s2, s3, s4⟩; go_simp; with_reducible rfl) ?_
         refine pv_ 10 136 HT_ ?_; refine pv_ 11 137 HT_ ?_; refine pv_ 12 138 HT_ ?_; refine pv_ 13 139 HT_ ?_; refine pv_ 14 140 HT_ ?_; refine pv_ 15 141 HT_ ?_; refine tv_ 16 142 rfl HT_ HW_ hHeld (by rintro w' ⟨s0, s1, s2, s3, s4⟩; go_simp; with_reducible rfl) ?_
         refine pv_ 17 143 HT_ ?_; refine pv_ 18 144 HT_ ?_; refine tv_ 19 145 rfl HT_ HW_ hHeld (by rintro w' ⟨s0, s1, s2, s3, s4⟩; go_simp; with_reducible rfl) ?_
         refine pv_ 20 146 HT_ ?_; refine pv_ 21 147 HT_ ?_; refine pv_ 22 148 HT_ ?_
         refine on_ 23 (some 149) rfl rfl HT_ (by kernel_rfl) (by decide) (fun K hK => ?_)
         refine gs_ Try.func123 #[.agg #[.int .i64 b0, .int .i64 b1], .int .i64 (wrap64 (wrap64 (wrap64 (wrap64 (y + (i : Int)) * b0) + x) + p)), .int .i64 1] ?_
         refine (impl_GapAt.calls k b0 b1 (wrap64 (wrap64 (wrap64 (wrap64 (y + (i : Int)) * b0) + x) + p)) 1 g _ HG1.out).mono ?_
         rintro e w7 ⟨rfl, hb⟩
         refine ⟨_, rfl, ?_⟩
         have HD7 := A_ (HD6.out.below hb)
         have HF7 := A_ (HF6.out.trans (DFr.below hb))
         have HB7 := A_ (blk_below HB6.out hb)
         clear hb hHeld HD6 HF6 HB6
         refine hK.out _ _ ⟨(blk_cell HD7.out.bm 0).trans rfl, (blk_cell HD7.out.bm 1).trans rfl, (blk_cell HD7.out.bm 2).trans rfl, (blk_cell HB7.out 0).trans rfl, (blk_cell HB7.out 1).trans rfl⟩ (fun hHeld => ?_)
         clear hK K
         refine norm_ (a' := ?_) ?_ ?_; rotate_left; (show Act.put _ (some 149) _ = _; simp only [P6_]; rfl)
         refine on_ 24 (some 150) rfl rfl HT_ (by kernel_rfl) (by decide) (fun K hK => ?_)
         refine gs_ Try.func92 #[.agg #[.int .i64 b0, .int .i64 b1, .int .i64 b2], .int .i64 g, .bool false] ?_
         refine (impl_with.calls b0 b1 b2 g false t1 t2 t3 _ HG2.out).mono ?_
         rintro e w8 ⟨rfl, hb⟩
         refine ⟨_, rfl, ?_⟩
         have HD8 := A_ (HD7.out.below hb)
         have HF8 := A_ (HF7.out.trans (DFr.below hb))
         have HB8 := A_ (blk_below HB7.out hb)
         clear hb hHeld HD7 HF7 HB7
         refine hK.out _ _ ⟨(blk_cell HD8.out.bm 0).trans rfl, (blk_cell HD8.out.bm 1).trans rfl, (blk_cell HD8.out.bm 2).trans rfl, (blk_cell HB8.out 0).trans rfl, (blk_cell HB8.out 1).trans rfl⟩ (fun hHeld => ?_)
         clear hK K
         refine norm_ (a' := ?_) ?_ ?_; rotate_left; (show Act.put _ (some 150) _ = _; simp only [P6_]; rfl)
         refine pv_ 25 151 HT_ ?_
         have hz0 := bf_ HD8.out.bm 0
         have hz1 := bf_ HD8.out.bm 1
         have hz2 := bf_ HD8.out.bm 2
         refine last_ (i := 26) (N := none) #[true, true, true, true, true, true, true, true, true, true, true, true, true, true, true, true, true, true, true, true, true, true, true, true, true, true, true] rfl rfl (one_of HT_.out (by kernel_rfl)) (by decide) (fun K hK => ?_)
         refine skip_ (w1 := ?_) (by rfl) rfl ?_ ?_
         rotate_left
         ·go_simp
          rfl
         refine hK.out _ _ ?_
         clear hK K
         refine done_ (done_of HT_.out (by kernel_rfl)) ?_
         try go_wp2
         have HPM := HD8.out.put3 HG.out t1 t2 t3
         have HD9 := A_ HPM.1
         have HF9 := A_ (HF8.out.trans HPM.2)
         have HB9 := A_ (HPM.2.blk HB8.out GB.out.1 GB.out.2.1 GB.out.2.2)
         clear HPM
         go_roundg (WD - (i + 1))
         case measure => omega
         case rel => exact ⟨i + 1, t1, t2, t3, by omega, by omega, by go_num, ⟨by rw [show WD - (i + 1) = d by omega]; exact HN.out⟩, HD9, HF9, HB9⟩
       ·have hltz : ¬ (i : Int) < (WD : Int) := by omega
        have hltd : decide ((i : Int) < (WD : Int)) = false := decide_eq_false hltz
        have hmm := HM.out
        rw [show WD - i = 0 by omega] at hmm
        unfold dv_loop at hmm
        have hmm := Option.some.inj hmm
        obtain ⟨rfl, rfl, rfl⟩ : b0 = m0 ∧ b1 = m1 ∧ b2 = m2 := by simpa using hmm
        clear hmm HM
        go_wp2_with (first | ((with_reducible refine gate_dst (N := 164) rfl ?_); refine gl_ 164 Try.func140 #[.pointer (some ⟨gc, 0, none⟩), .pointer (some ⟨gm, 0, none⟩), .agg #[.int .i64 x, .int .i64 y, .int .i64 (wrap64 (p + 1)), .int .i64 (WD : Int)], .pointer (some ⟨gw, 0, none⟩)] ?_; refine (HI.out _ _ _ _ _ _ _ _ _ _ _ _ _ HD5.out HR.out).mono ?_; rintro e w10 ⟨rfl, ⟨A10, cap10, hd⟩, hfr⟩; refine ⟨_, rfl, ?_⟩; have HD10 := A_ hd; have HF10 := A_ (HF5.out.trans hfr); have HB10 := A_ (hfr.blk HB5.out GB.out.1 GB.out.2.1 GB.out.2.2); clear hd hfr; (try clear hbx hby hbw hbh); have hbx : w10.cell? ⟨gb, 0, none⟩ = some (.int .i64 x) := (blk_cell HB10.out 0).trans rfl; have hby : w10.cell? ⟨gb, 1, none⟩ = some (.int .i64 y) := (blk_cell HB10.out 1).trans rfl; have hbw : w10.cell? ⟨gb, 2, none⟩ = some (.int .i64 wd) := (blk_cell HB10.out 2).trans rfl; have hbh : w10.cell? ⟨gb, 3, none⟩ = some (.int .i64 (WD : Int)) := (blk_cell HB10.out 3).trans rfl) | ((with_reducible refine gate_dst (N := 183) rfl ?_); refine gl_ 183 Try.func140 #[.pointer (some ⟨gc, 0, none⟩), .pointer (some ⟨gm, 0, none⟩), .agg #[.int .i64 (wrap64 (wrap64 (x + p) + 1)), .int .i64 y, .int .i64 (wrap64 (wrap64 (wd - p) - 1)), .int .i64 (WD : Int)], .pointer (some ⟨gw, 0, none⟩)] ?_; refine (HI.out _ _ _ _ _ _ _ _ _ _ _ _ _ HD10.out HF.out).mono ?_; rintro e w11 ⟨rfl, ⟨A11, cap11, hd⟩, hfr⟩; refine ⟨_, rfl, ?_⟩; have HD11 := A_ hd; have HF11 := A_ (HF10.out.trans hfr); have HB11 := A_ (hfr.blk HB10.out GB.out.1 GB.out.2.1 GB.out.2.2); clear hd hfr; (try clear hbx hby hbw hbh); have hbx : w11.cell? ⟨gb, 0, none⟩ = some (.int .i64 x) := (blk_cell HB11.out 0).trans rfl; have hby : w11.cell? ⟨gb, 1, none⟩ = some (.int .i64 y) := (blk_cell HB11.out 1).trans rfl; have hbw : w11.cell? ⟨gb, 2, none⟩ = some (.int .i64 wd) := (blk_cell HB11.out 2).trans rfl; have hbh : w11.cell? ⟨gb, 3, none⟩ = some (.int .i64 (WD : Int)) := (blk_cell HB11.out 3).trans rfl))
        go_end0
        exact ⟨rfl, ⟨_, _, HD11.out⟩, HF11.out⟩
     ·rw [if_neg e4] at hf; cases hf
def dvd99.T5 : Bool × List (List Nat × List Nat) := (true, [([], []), ([], []), ([0, 0], [0]), ([1, 2, 0, 1, 2], [1])])
def dvd99.B5 : List Nat := [0, 0, 1, 7]
theorem dvd99.tab5 : rtab .any (opsOf Try.f99 5) = dvd99.T5 := by kernel_rfl
theorem dvd99.bits5 : waitsOk dvd99.T5.2 dvd99.B5 = true := by kernel_rfl
def impl_divided.f (k : Nat) (a0_0 a0_1 : Int) (l1 : List Int) : Option (Int × Int × Int × Int) := (impl_GridOk.f a0_0 a0_1).bind fun t => (if t = true then ((impl_FullMaze.f a0_0 a0_1).bind fun m => (dv_f k m.1 m.2.1 m.2.2 0 0 a0_0 a0_1 l1 0).bind fun r => some (r.1.1, r.1.2.1, r.1.2.2, r.2.2)) else some (0, 0, 0, 0))
set_option maxHeartbeats 8000000 in
set_option maxRecDepth 100000 in
theorem impl_divided.calls (k : Nat) (a0_0 a0_1 : Int) (A1 : Option Addr) (c1 : Nat) (l1 : List Int) (r1 r2 r3 r4 : Int) (w : World) (hr1 : Kd.C (Kd.int .i64) w A1 l1.length l1) (hc1 : l1.length ≤ c1) (h : impl_divided.f k a0_0 a0_1 l1 = some (r1, r2, r3, r4)) :
  Calls Try.prog 99 #[.agg #[.int .i64 a0_0, .int .i64 a0_1], .slice A1 l1.length c1] w fun e w' => e = .returned (.tuple #[.agg #[.int .i64 r1, .int .i64 r2, .int .i64 r3], .int .i64 r4]) ∧ Below w.heap.size w w' := by
 have huM := Try.underlying27
 have huG := Try.underlying25
 have huC := Try.underlying89
 have huR := Try.underlying123
 obtain ⟨t, ht, H⟩ := Option.bind_eq_some_iff.1 h
 have HG := A_ ht
 have HR1 := A_ hr1
 clear h ht hr1
 cases t with
 | false =>
  obtain ⟨rfl, rfl, rfl, rfl⟩ : 0 = r1 ∧ 0 = r2 ∧ 0 = r3 ∧ 0 = r4 := by simpa using Option.some.inj H
  clear H
  go_enter Try.func99, Try.ntmps99
  go_wp2_with (first | ((with_reducible refine gate_dst (N := 2) rfl ?_); refine box_event ?hg2 (N := 2) ?hd2 (cs := #[.int .i64 a0_0, .int .i64 a0_1]) (t := 25) ?hr2 ?_; (case hd2 => rfl); (case hg2 => rfl); (case hr2 => first | (go_simp; done) | (go_simp; rfl)); intro gb hgb w1 hbox hb; have HBa := A_ hb; have KBa := A_ hbox; have GBs := A_ (show gb = w.heap.size from hgb); clear hb hbox hgb) | ((with_reducible refine gate_dst (N := 4) rfl ?_); refine box_event ?hg4 (N := 4) ?hd4 (cs := #[.int .i64 0, .int .i64 0, .int .i64 0]) (t := 27) ?hr4 ?_; (case hd4 => rfl); (case hg4 => rfl); (case hr4 => first | (go_simp; done) | (go_simp; rfl)); intro gr hgr w2 hbox hb; have HBb := A_ (HBa.out.trans (hb.mono HBa.out.size)); have KBb := A_ (blk_below KBa.out hb); have KRb := A_ hbox; have NR := A_ (show gb < gr from by rw [hgr]; exact blk_lt KBa.out); have GRb := A_ (show w.heap.size ≤ gr from by rw [hgr]; exact HBa.out.size); have hg0 : w2.cell? ⟨gb, 0, none⟩ = some (.int .i64 a0_0) := (blk_cell KBb.out 0).trans rfl; have hg1 : w2.cell? ⟨gb, 1, none⟩ = some (.int .i64 a0_1) := (blk_cell KBb.out 1).trans rfl; clear HBa KBa hb hbox hgr) | ((with_reducible refine gate_callee (f := 82) rfl ?_); refine gl_ 10 Try.func82 #[.agg #[.int .i64 a0_0, .int .i64 a0_1]] ?_; refine (impl_GridOk.calls a0_0 a0_1 false _ HG.out).mono ?_; rintro e w3 ⟨rfl, hb⟩; refine ⟨_, rfl, ?_⟩; have HBc := A_ (HBb.out.trans (hb.mono HBb.out.size)); have KBc := A_ (blk_below KBb.out hb); have KRc := A_ (blk_below KRb.out hb); clear hg0 hg1; have hg0 : w3.cell? ⟨gb, 0, none⟩ = some (.int .i64 a0_0) := (blk_cell KBc.out 0).trans rfl; have hg1 : w3.cell? ⟨gb, 1, none⟩ = some (.int .i64 a0_1) := (blk_cell KBc.out 1).trans rfl; have hfa := bf_ KRc.out 0; have hfb := bf_ KRc.out 1; have hfc := bf_ KRc.out 2; have hca := (blk_cell KRc.out 0).trans rfl; have hcb := (blk_cell KRc.out 1).trans rfl; have hcc := (blk_cell KRc.out 2).trans rfl; clear HBb KBb KRb hb))
  have KRz := blk_set (blk_set (blk_set KRc.out 0 (.int .i64 0)) 1 (.int .i64 0)) 2 (.int .i64 0)
  have HBz := ((HBc.out.setCell (p := ⟨gr, 0, none⟩) GRb.out (.int .i64 0)).setCell (p := ⟨gr, 1, none⟩) GRb.out (.int .i64 0)).setCell (p := ⟨gr, 2, none⟩) GRb.out (.int .i64 0)
  ((try simp only [Exit.inBlock, Exit.then]); refine bodyPost_ret (results_ct rfl _ _ gr 27 #[.int .i64 0, .int .i64 0, .int .i64 0] (0, 0) _ rfl KRz Try.underlying27 rfl (by kernel_rfl)) rfl ?_)
  exact ⟨rfl, HBz⟩
 | true =>
  rw [if_pos rfl] at H
  obtain ⟨⟨f1, f2, f3⟩, hf, H⟩ := Option.bind_eq_some_iff.1 H
  obtain ⟨⟨⟨m0, m1, m2⟩, l2, n2⟩, hd, H⟩ := Option.bind_eq_some_iff.1 H
  dsimp only at hd H
  obtain ⟨rfl, rfl, rfl, rfl⟩ : m0 = r1 ∧ m1 = r2 ∧ m2 = r3 ∧ n2 = r4 := by simpa using Option.some.inj H
  have HF := A_ hf
  have HD := A_ hd
  clear hf hd H
  go_enter Try.func99, Try.ntmps99
  go_wp2_with (first | ((with_reducible refine gate_dst (N := 2) rfl ?_); refine box_event ?hg2 (N := 2) ?hd2 (cs := #[.int .i64 a0_0, .int .i64 a0_1]) (t := 25) ?hr2 ?_; (case hd2 => rfl); (case hg2 => rfl); (case hr2 => first | (go_simp; done) | (go_simp; rfl)); intro gb hgb w1 hbox hb; have HBa := A_ hb; have KBa := A_ hbox; have GBs := A_ (show gb = w.heap.size from hgb); clear hb hbox hgb) | ((with_reducible refine gate_dst (N := 4) rfl ?_); refine box_event ?hg4 (N := 4) ?hd4 (cs := #[.int .i64 0, .int .i64 0, .int .i64 0]) (t := 27) ?hr4 ?_; (case hd4 => rfl); (case hg4 => rfl); (case hr4 => first | (go_simp; done) | (go_simp; rfl)); intro gr hgr w2 hbox hb; have HBb := A_ (HBa.out.trans (hb.mono HBa.out.size)); have KBb := A_ (blk_below KBa.out hb); have KRb := A_ hbox; have NR := A_ (show gb < gr from by rw [hgr]; exact blk_lt KBa.out); have GRb := A_ (show w.heap.size ≤ gr from by rw [hgr]; exact HBa.out.size); have hg0 : w2.cell? ⟨gb, 0, none⟩ = some (.int .i64 a0_0) := (blk_cell KBb.out 0).trans rfl; have hg1 : w2.cell? ⟨gb, 1, none⟩ = some (.int .i64 a0_1) := (blk_cell KBb.out 1).trans rfl; clear HBa KBa hb hbox hgr) | ((with_reducible refine gate_callee (f := 82) rfl ?_); refine gl_ 10 Try.func82 #[.agg #[.int .i64 a0_0, .int .i64 a0_1]] ?_; refine (impl_GridOk.calls a0_0 a0_1 true _ HG.out).mono ?_; rintro e w3 ⟨rfl, hb⟩; refine ⟨_, rfl, ?_⟩; have HBc := A_ (HBb.out.trans (hb.mono HBb.out.size)); have KBc := A_ (blk_below KBb.out hb); have KRc := A_ (blk_below KRb.out hb); clear hg0 hg1; have hg0 : w3.cell? ⟨gb, 0, none⟩ = some (.int .i64 a0_0) := (blk_cell KBc.out 0).trans rfl; have hg1 : w3.cell? ⟨gb, 1, none⟩ = some (.int .i64 a0_1) := (blk_cell KBc.out 1).trans rfl; clear HBb KBb KRb hb) | ((with_reducible refine gate_callee (f := 47) rfl ?_); refine gl_ 14 Try.func47 #[.agg #[.int .i64 a0_0, .int .i64 a0_1]] ?_; refine (impl_FullMaze.calls a0_0 a0_1 f1 f2 f3 _ HF.out).mono ?_; rintro e w4 ⟨rfl, hb⟩; refine ⟨_, rfl, ?_⟩; have HBd := A_ (HBc.out.trans (hb.mono HBc.out.size)); have KBd := A_ (blk_below KBc.out hb); have KRd := A_ (blk_below KRc.out hb); clear hg0 hg1 HBc KBc KRc hb) | ((with_reducible refine gate_dst (N := 17) rfl ?_); refine box_event ?hg17 (N := 17) ?hd17 (cs := #[.slice A1 l1.length c1]) (t := 89) ?hr17 ?_; (case hd17 => rfl); (case hg17 => rfl); (case hr17 => first | (go_simp; done) | (go_simp; rfl)); intro gc hgc w5 hbox hb; have HBe := A_ (HBd.out.trans (hb.mono HBd.out.size)); have KBe := A_ (blk_below KBd.out hb); have KRe := A_ (blk_below KRd.out hb); have KCe := A_ hbox; have NC := A_ (show gr < gc from by rw [hgc]; exact blk_lt KRd.out); clear HBd KBd KRd hb hbox hgc) | ((with_reducible refine gate_dst (N := 6) rfl ?_); refine box_event ?hg6 (N := 6) ?hd6 (cs := #[.int .i64 0, .int .i64 0, .int .i64 0]) (t := 27) ?hr6 ?_; (case hd6 => rfl); (case hg6 => rfl); (case hr6 => first | (go_simp; done) | (go_simp; rfl)); intro gm hgm w6 hbox hb; have HBf := A_ (HBe.out.trans (hb.mono HBe.out.size)); have KBf := A_ (blk_below KBe.out hb); have KRf := A_ (blk_below KRe.out hb); have KCf := A_ (blk_below KCe.out hb); have KMf := A_ hbox; have NM := A_ (show gc < gm from by rw [hgm]; exact blk_lt KCe.out); clear HBe KBe KRe KCe hb hbox hgm) | ((with_reducible refine gate_dst (N := 7) rfl ?_); refine box_event ?hg7 (N := 7) ?hd7 (cs := #[.int .i64 0]) (t := 3) ?hr7 ?_; (case hd7 => rfl); (case hg7 => rfl); (case hr7 => first | (go_simp; done) | (go_simp; rfl)); intro gw hgw w7 hbox hb; have HBg := A_ (HBf.out.trans (hb.mono HBf.out.size)); have KBg := A_ (blk_below KBf.out hb); have KRg := A_ (blk_below KRf.out hb); have KCg := A_ (blk_below KCf.out hb); have KMg := A_ (blk_below KMf.out hb); have KWg := A_ hbox; have NW := A_ (show gm < gw from by rw [hgw]; exact blk_lt KMf.out); have hfa := bf_ KMg.out 0; have hfb := bf_ KMg.out 1; have hfc := bf_ KMg.out 2; have hca := (blk_cell KMg.out 0); have hcb := (blk_cell KMg.out 1); have hcc := (blk_cell KMg.out 2); clear HBf KBf KRf KCf KMf hb hbox hgw) | ((with_reducible refine gate_store (t := 27) (p := 6) rfl ?_); refine store_event (t := 27) (p := 6) (v := ?vo_m) (w1 := (((w7.setCell ⟨gm, 0, none⟩ (.int .i64 f1)).setCell ⟨gm, 1, none⟩ (.int .i64 f2)).setCell ⟨gm, 2, none⟩ (.int .i64 f3))) ?hgm6 ?hom6 ?hnm6 ?hrm6 ?_; (case hom6 => rfl); (case hgm6 => rfl); (case hnm6 => rfl); (case hrm6 => first | (go_simp; done) | (go_simp; rfl)); intro w8 hw; have HDG := A_ (show DVG w gc gm gw from ⟨by have := GBs.out; have := NR.out; have := NC.out; omega, by have := GBs.out; have := NR.out; have := NC.out; have := NM.out; omega, by have := GBs.out; have := NR.out; have := NC.out; have := NM.out; have := NW.out; omega, by have := NM.out; omega, by have := NM.out; have := NW.out; omega, by have := NW.out; omega⟩); have HQQ := DVS.put3 (show DVS w gc gm gw 0 0 0 A1 c1 l1 0 w7 from ⟨HBg.out, KCg.out, KMg.out, KWg.out, HR1.out, hc1⟩) HDG.out f1 f2 f3; rw [← hw] at HQQ; have HV8 := A_ HQQ.1; have KB8 := A_ (HQQ.2.blk KBg.out (by have := NR.out; have := NC.out; omega) (by have := NR.out; have := NC.out; have := NM.out; omega) (by have := NR.out; have := NC.out; have := NM.out; have := NW.out; omega)); have KR8 := A_ (HQQ.2.blk KRg.out (by have := NC.out; omega) (by have := NC.out; have := NM.out; omega) (by have := NC.out; have := NM.out; have := NW.out; omega)); have hfw := bf_ HV8.out.bn 0; have hcw := blk_cell HV8.out.bn 0; clear hw HQQ hfa hfb hfc hca hcb hcc HBg KBg KRg KCg KMg KWg) | ((with_reducible refine gate_store (t := 3) (p := 7) rfl ?_); refine store_event (t := 3) (p := 7) (v := ?vo_w) (w1 := (w8.setCell ⟨gw, 0, none⟩ (.int .i64 0))) ?hgm7 ?hom7 ?hnm7 ?hrm7 ?_; (case hom7 => rfl); (case hgm7 => rfl); (case hnm7 => rfl); (case hrm7 => first | (go_simp; done) | (go_simp; rfl)); intro w9 hw; have HQQ := HV8.out.putn HDG.out 0; rw [← hw] at HQQ; have HV9 := A_ HQQ.1; have KB9 := A_ (HQQ.2.blk KB8.out (by have := NR.out; have := NC.out; omega) (by have := NR.out; have := NC.out; have := NM.out; omega) (by have := NR.out; have := NC.out; have := NM.out; have := NW.out; omega)); have KR9 := A_ (HQQ.2.blk KR8.out (by have := NC.out; omega) (by have := NC.out; have := NM.out; omega) (by have := NC.out; have := NM.out; have := NW.out; omega)); have hg0 : w9.cell? ⟨gb, 0, none⟩ = some (.int .i64 a0_0) := (blk_cell KB9.out 0).trans rfl; have hg1 : w9.cell? ⟨gb, 1, none⟩ = some (.int .i64 a0_1) := (blk_cell KB9.out 1).trans rfl; clear hw HQQ hfw hcw HV8 KB8 KR8) | ((with_reducible refine gate_dst (N := 24) rfl ?_); refine gl_ 24 Try.func140 #[.pointer (some ⟨gc, 0, none⟩), .pointer (some ⟨gm, 0, none⟩), .agg #[.int .i64 0, .int .i64 0, .int .i64 a0_0, .int .i64 a0_1], .pointer (some ⟨gw, 0, none⟩)] ?_; refine (dv_calls HDG.out _ _ _ _ _ _ _ _ _ _ _ _ _ _ HV9.out HD.out).mono ?_; rintro e w10 ⟨rfl, ⟨A', cap', hd⟩, hfr⟩; refine ⟨_, rfl, ?_⟩; have HV10 := A_ hd; have KR10 := A_ (hfr.blk KR9.out (by have := NC.out; omega) (by have := NC.out; have := NM.out; omega) (by have := NC.out; have := NM.out; have := NW.out; omega)); clear hd hfr hg0 hg1 HV9 KB9 KR9))
  have HV11 := A_ (HV10.out.below (below_drew1 (Below.refl _ _)))
  have KR11 := A_ (blk_drew KR10.out)
  have NRM := A_ (show gr ≠ gm by have := NC.out; have := NM.out; omega)
  have NRW := A_ (show gr ≠ gw by have := NC.out; have := NM.out; have := NW.out; omega)
  refine start_ (n := 4) (S := fun w' => w'.cell? ⟨gm, 0, none⟩ = some (.int .i64 m0) ∧ w'.cell? ⟨gm, 1, none⟩ = some (.int .i64 m1) ∧ w'.cell? ⟨gm, 2, none⟩ = some (.int .i64 m2) ∧ w'.cell? ⟨gw, 0, none⟩ = some (.int .i64 n2)) (ds := []) #[false, false, false, false] (by kernel_rfl) rfl rfl ⟨(blk_cell HV11.out.bm 0).trans rfl, (blk_cell HV11.out.bm 1).trans rfl, (blk_cell HV11.out.bm 2).trans rfl, (blk_cell HV11.out.bn 0).trans rfl⟩ (fun hHeld => ?_)
  refine with_tabW dvd99.tab5 dvd99.bits5 (fun HT_ HW_ => ?_)
  generalize w10.drew = w11 at HV11 KR11 hHeld ⊢; refine tv_ 0 25 rfl HT_ HW_ hHeld (by rintro w' ⟨s0, s1, s2, s3⟩; go_simp; with_reducible rfl) ?_
  refine tv_ 1 26 rfl HT_ HW_ hHeld (by rintro w' ⟨s0, s1, s2, s3⟩; go_simp; with_reducible rfl) ?_
  have hk0 := (blk_cell KR11.out 0).trans rfl
  have hk1 := (blk_cell KR11.out 1).trans rfl
  have hk2 := (blk_cell KR11.out 2).trans rfl
  have hz0 := bf_ KR11.out 0
  have hz1 := bf_ KR11.out 1
  have hz2 := bf_ KR11.out 2
  have KM12 := A_ (blk_far (p := ⟨gr, 2, none⟩) (blk_far (p := ⟨gr, 1, none⟩) (blk_far (p := ⟨gr, 0, none⟩) HV11.out.bm (Ne.symm NRM.out) (.int .i64 m0)) (Ne.symm NRM.out) (.int .i64 m1)) (Ne.symm NRM.out) (.int .i64 m2))
  have KW12 := A_ (blk_far (p := ⟨gr, 2, none⟩) (blk_far (p := ⟨gr, 1, none⟩) (blk_far (p := ⟨gr, 0, none⟩) HV11.out.bn (Ne.symm NRW.out) (.int .i64 m0)) (Ne.symm NRW.out) (.int .i64 m1)) (Ne.symm NRW.out) (.int .i64 m2))
  have KR12 := A_ (blk_set (blk_set (blk_set KR11.out 0 (.int .i64 m0)) 1 (.int .i64 m1)) 2 (.int .i64 m2))
  have HB12 := A_ (((HV11.out.bel.setCell (p := ⟨gr, 0, none⟩) GRb.out (.int .i64 m0)).setCell (p := ⟨gr, 1, none⟩) GRb.out (.int .i64 m1)).setCell (p := ⟨gr, 2, none⟩) GRb.out (.int .i64 m2))
  refine one_ (i := 2) (N := none) #[true, true, true, false] rfl rfl (one_of HT_.out (by kernel_rfl)) (by decide) (fun K hK => ?_)
  refine skip_ (w1 := ?_) (by rfl) rfl ?_ ?_
  rotate_left
  ·go_simp
   rfl
  refine hK.out _ _ ⟨(blk_cell KM12.out 0).trans rfl, (blk_cell KM12.out 1).trans rfl, (blk_cell KM12.out 2).trans rfl, (blk_cell KW12.out 0).trans rfl⟩ (fun hHeld => ?_)
  clear hK K; refine pv_ 3 5 HT_ ?_
  refine done_ (done_of HT_.out (by kernel_rfl)) ?_
  try go_wp2
  ((try simp only [Exit.inBlock, Exit.then]); refine bodyPost_ret (results_ct rfl _ _ gr 27 #[.int .i64 m0, .int .i64 m1, .int .i64 m2] (0, 0) _ rfl KR12.out Try.underlying27 rfl (by kernel_rfl)) rfl ?_)
  exact ⟨rfl, HB12.out⟩

end Go.Proofs.Ytbeajmcjfhbcjaa.P
namespace Go.Proofs.Ytbeajmcjfhbcjaa.P
open Go.RowKit Go.Proofs.YtbeajmcjfhbcjaaW.PrintWords Go.Proofs.YtbeajmcjfhbcjaaW.PrintLast Go.Proofs.YtbeajmcjfhbcjaaW.PrintMore
attribute [local go_sem] max2_int min2_int max_two min_two max_three min_three max_four min_four   -- for this text's walks alone
set_option linter.unusedVariables false
set_option linter.unusedSimpArgs false

section
open Go.Maps
theorem own_tight {P : Program} {k : TypeId} {R : Value → Option (DataW Unit × List MemPlace)} {w : World} {b n : Nat} {D : DataW Unit} (h : w.ownsMap P k R b n D) : w.ownsMap P k R b (Maps.size D) D := by
 obtain ⟨es, clock, hb, F, hs, rfl⟩ := h
 exact ⟨es, clock, hb, F, by simp [Maps.size, length_sorted], rfl⟩
theorem plainElem_bool_inv {P : Program} {e : TypeId} (he : P.underlying e = some .bool) {v : Value} {z : DataW Unit × List MemPlace} (h : plainElem P e v = some z) : ∃ x, v = .bool x ∧ z = (.lit (.bool x), []) := by
 unfold plainElem at h
 rw [he] at h
 cases v <;> simp at h
 exact ⟨_, rfl, h.symm⟩
structure MI (P : Program) (k e : TypeId) (b : Nat) (p : Int → Bool) (s : Nat) (w : World) : Prop where
 ex : ∃ D : DataW Unit, w.ownsMap P k (plainElem P e) b s D ∧ Tidy D ∧ (∀ x : Int, D.atKey (.int .i64 x) (.lit (.bool false)) = .lit (.bool (p x))) ∧ (∀ x : Int, has D (.int .i64 x) = p x) ∧ Maps.size D = s
section
variable {P : Program} {k e t : TypeId} {b s : Nat} {p : Int → Bool} {w : World}
theorem MI.lt (h : MI P k e b p s w) : b < w.heap.size := let ⟨_, o, _⟩ := h.ex; o.lt
theorem MI.same {w' : World} (h : MI P k e b p s w) (hb : w'.heap[b]? = w.heap[b]?) : MI P k e b p s w' := by
 obtain ⟨D, ⟨es, clock, h1, F, hs, hD⟩, r⟩ := h.ex
 exact ⟨D, ⟨es, clock, hb.trans h1, F, hs, hD⟩, r⟩
theorem MI.below {w' : World} (h : MI P k e b p s w) (hb : Below w.heap.size w w') : MI P k e b p s w' := h.same (hb.block b h.lt)
theorem MI.setCell (h : MI P k e b p s w) {a : Addr} (ha : b ≠ a.block) (u : Value) : MI P k e b p s (w.setCell a u) := h.same (Below.heap_setCell w a u b ha)
theorem MI.made (w : World) (P : Program) (k e : TypeId) : MI P k e w.heap.size (fun _ => false) 0 (w.alloc (.map #[] 0)) :=
 ⟨.map [], World.ownsMap_made _ _ _ _, tidy_empty, fun _ => rfl, fun _ => rfl, rfl⟩
theorem MI.look (hk : P.underlying k = some (.int .i64)) (he : P.underlying e = some .bool) (ht : P.underlying t = some (.map k e)) (hz : (zeroValue e).run P w = .ok (.bool false) w) (h : MI P k e b p s w) {x : Int} (hx : (Lit.int .i64 x).wf = true) :
  (Instr.lookup t (.map (some b)) (.int .i64 x) false).run P w = .ok (.bool (p x)) w := by
 obtain ⟨D, ho, _, ha, _, _⟩ := h.ex
 obtain ⟨v, ps, hrun, hv⟩ := ho.lookup (int_keyed hk) ht hz (plainElem_bool he false) (keyOf_int_mk hk hx)
 obtain ⟨c, rfl, hc⟩ := plainElem_bool_inv he hv
 rw [ha x] at hc
 injection hc with hc _
 injection hc with hc
 injection hc with hc
 rw [hrun, hc]
theorem MI.len (ht : P.underlying t = some (.map k e)) (h : MI P k e b p s w) (ty : TypeId) : (Builtin.len_ #[t] ty #[.map (some b)]).run P w = .ok (.int .i64 s) w := by
 obtain ⟨D, ho, _, _, _, rfl⟩ := h.ex
 exact ho.len ht ty
theorem MI.put (hk : P.underlying k = some (.int .i64)) (he : P.underlying e = some .bool) (ht : P.underlying t = some (.map k e)) (h : MI P k e b p s w) (hs : s < maxLen) {x : Int} (hx : (Lit.int .i64 x).wf = true) :
  ∃ w', (Instr.mapUpdate t (.map (some b)) (.int .i64 x) (.bool true)).run P w = .ok () w' ∧ MI P k e b (fun y => if y = x then true else p y) (if p x then s else s + 1) w' ∧ w.grownBy w' (some b) := by
 obtain ⟨D, ho, hT, ha, hh, hsz⟩ := h.ex
 obtain ⟨w', hrun, ho', hg⟩ := ho.update (int_keyed hk) ht hs (keyOf_int_mk hk hx) (plainElem_bool he true)
 have hsz' := size_put (k := (Lit.int .i64 x)) hT (.lit (.bool true))
 rw [hh x, hsz] at hsz'
 refine ⟨w', hrun, ⟨D.put (.int .i64 x) (.lit (.bool true)), ?_, hT.put (k := .int .i64 x) (by exact trivial) _, fun y => ?_, fun y => ?_, hsz'⟩, hg⟩
 ·have := own_tight ho'
  rw [hsz'] at this
  exact this
 ·by_cases h' : y = x
  ·subst h'
   rw [if_pos rfl]
   exact atKey_put_same (k := .int .i64 y) hT.isMap (by exact trivial) _ _
  ·rw [if_neg h', atKey_put_other (fun q => h' (by injection q)), ha y]
 ·by_cases h' : y = x
  ·subst h'
   rw [if_pos rfl]
   exact has_put_same (k := .int .i64 y) hT.isMap (by exact trivial) _
  ·rw [if_neg h', has_put_other (fun q => h' (by injection q)), hh y]
end
section
variable {P : Program} {k e t : TypeId} {b s : Nat} {p : Int → Bool} {W : World} {ops : Array Oper} {rest : List Oper} {o : Oper} {a : Act} {Q : Exit → Act → World → Prop}
theorem map_event (k e : TypeId) (hgd : o.guard = none) {N : Tmp} (_hd : o.dst = some N) (hrun : (execOp a.eval o).run P W = .ok (.value (.map (some W.heap.size))) (W.alloc (.map #[] 0)))
  (h : ∀ g, g = W.heap.size → ∀ w1, MI P k e g (fun _ => false) 0 w1 → Below W.heap.size W w1 → wpList P ops Q rest (a.put o.dst (.map (some g))) w1) : wpList P ops Q (o :: rest) a W :=
 Kd.event_run hgd hrun (h _ rfl _ (MI.made _ _ _ _) (below_alloc (Below.refl _ _) _))
theorem mi_run (hg : o.guard = none) (hN : o.dst = none) {y : Int} (hrun : ∀ w', (Instr.mapUpdate t (.map (some b)) (.int .i64 y) (.bool true)).run P W = .ok () w' → (execOp a.eval o).run P W = .ok .skip w')
  (hk : P.underlying k = some (.int .i64)) (he : P.underlying e = some .bool) (ht : P.underlying t = some (.map k e)) (H : MI P k e b p s W) (hs : s < maxLen) (hy : (Lit.int .i64 y).wf = true)
  (h : ∀ w', MI P k e b (fun z => if z = y then true else p z) (if p y then s else s + 1) w' → W.grownBy w' (some b) → wpList P ops Q rest a w') : wpList P ops Q (o :: rest) a W := by
 obtain ⟨w', hr, r1, r2⟩ := H.put hk he ht hs hy
 refine wpList_plain hg fun K hK => ?_
 unfold Oper.wp
 rw [hrun w' hr]
 show K (a.put o.dst undef) w'
 rw [hN]
 exact hK _ _ (h _ r1 r2)
theorem mi_put (hg : o.guard = none) (hN : o.dst = none) (m x v : Operand) (hop : o.op = .mapUpdate t m x v) {y : Int} (hm : a.eval m = .map (some b)) (hx : a.eval x = .int .i64 y) (hv : a.eval v = .bool true)
  (hk : P.underlying k = some (.int .i64)) (he : P.underlying e = some .bool) (ht : P.underlying t = some (.map k e)) (H : MI P k e b p s W) (hs : s < maxLen) (hy : (Lit.int .i64 y).wf = true)
  (h : ∀ w', MI P k e b (fun z => if z = y then true else p z) (if p y then s else s + 1) w' → W.grownBy w' (some b) → wpList P ops Q rest a w') : wpList P ops Q (o :: rest) a W :=
 mi_run hg hN (y := y) (fun w' hr => by unfold execOp; simp [hop, hm, hx, hv, hr, Result.andThen]) hk he ht H hs hy h
theorem mi_ins (hg : o.guard = none) (hN : o.dst = none) (m x v : Operand) (hop : o.op = .insert t m x v) {y : Int} (hm : a.eval m = .map (some b)) (hx : a.eval x = .int .i64 y) (hv : a.eval v = .bool true)
  (hk : P.underlying k = some (.int .i64)) (he : P.underlying e = some .bool) (ht : P.underlying t = some (.map k e)) (H : MI P k e b p s W) (hs : s < maxLen) (hy : (Lit.int .i64 y).wf = true)
  (h : ∀ w', MI P k e b (fun z => if z = y then true else p z) (if p y then s else s + 1) w' → W.grownBy w' (some b) → wpList P ops Q rest a w') : wpList P ops Q (o :: rest) a W :=
 mi_run hg hN (y := y) (fun w' hr => by unfold execOp; simp [hop, hm, hx, hv, hr, Result.andThen]) hk he ht H hs hy h
theorem mi_look (hg : o.guard = none) (m x : Operand) (hop : o.op = .lookup t m x false) {y : Int} (hm : a.eval m = .map (some b)) (hx : a.eval x = .int .i64 y)
  (hk : P.underlying k = some (.int .i64)) (he : P.underlying e = some .bool) (ht : P.underlying t = some (.map k e)) (hz : (zeroValue e).run P W = .ok (.bool false) W) (H : MI P k e b p s W) (hy : (Lit.int .i64 y).wf = true)
  (h : wpList P ops Q rest (a.put o.dst (.bool (p y))) W) : wpList P ops Q (o :: rest) a W :=
 Kd.event_run hg (by unfold execOp; simp [hop, hm, hx, H.look hk he ht hz hy, Result.andThen]) h
theorem mi_len (hg : o.guard = none) (m : Operand) (hop : o.op = .call { callee := .builtin .len, args := #[m], argTypes := #[t] }) (hm : a.eval m = .map (some b)) (ht : P.underlying t = some (.map k e)) (H : MI P k e b p s W)
  (h : wpList P ops Q rest (a.put o.dst (.int .i64 s)) W) : wpList P ops Q (o :: rest) a W :=
 Kd.event_run hg (by unfold execOp; simp [hop, resolve, invoke, builtin, hm, H.len ht o.type, Result.andThen]) h
end
end
structure CHS (w0 : World) (gc : Nat) (A : Option Addr) (cap : Nat) (l : List Int) (W : World) : Prop where
 bel : Below w0.heap.size w0 W
 hc : w0.heap.size ≤ gc
 bc : W.heap[gc]? = some (.cells #[.slice A l.length cap] 89 (0, 0))
 row : Kd.C (Kd.int .i64) w0 A l.length l
 hcap : l.length ≤ cap
def CFr (gc : Nat) (W W' : World) : Prop := W'.heap.size = W.heap.size ∧ ∀ k, k ≠ gc → W'.heap[k]? = W.heap[k]?
theorem CFr.refl (gc : Nat) (W : World) : CFr gc W W := ⟨rfl, fun _ _ => rfl⟩
theorem CHS.put {w0 W : World} {gc cap : Nat} {A : Option Addr} {l : List Int} (h : CHS w0 gc A cap l W) (hp : 1 ≤ l.length) : CHS w0 gc (if cap = 1 then A else A.map (·.add 1)) (cap - 1) (l.drop 1) (W.setCell ⟨gc, 0, none⟩ (.slice (if cap = 1 then A else A.map (·.add 1)) (l.drop 1).length (cap - 1))) ∧ CFr gc W (W.setCell ⟨gc, 0, none⟩ (.slice (if cap = 1 then A else A.map (·.add 1)) (l.drop 1).length (cap - 1))) :=
 ⟨⟨h.bel.setCell h.hc _, h.hc, blk_set h.bc 0 _, Kd.C_drop (m := 1) h.row hp h.hcap, by rw [List.length_drop]; have := h.hcap; omega⟩, by simp, fun k b => Below.heap_setCell W ⟨gc, 0, none⟩ _ k b⟩
set_option maxHeartbeats 4000000 in
set_option maxRecDepth 100000 in
theorem chooser_nextG.calls {w0 W : World} {gc cap : Nat} {A : Option Addr} {l : List Int} (h : CHS w0 gc A cap l W) (m r : Int) (l' : List Int) (hf : chooser_next l m = some (r, l')) :
  Calls Try.prog 91 #[.pointer (some ⟨gc, 0, none⟩), .int .i64 m] W fun e w' => e = .returned (.int .i64 r) ∧ (∃ A' cap', CHS w0 gc A' cap' l' w') ∧ CFr gc W w' := by
 have huC := Try.underlying89
 have hcc : W.cell? ⟨gc, 0, none⟩ = some (.slice A l.length cap) := (blk_cell h.bc 0).trans rfl
 have hcf := bf_ h.bc 0
 have HW := A_ h
 clear h
 cases l with
 | nil =>
  obtain ⟨rfl, rfl⟩ : 0 = r ∧ [] = l' := by simpa [chooser_next] using hf
  clear hf
  go_enter Try.func91, Try.ntmps91
  go_wp2
  go_ret
  exact ⟨rfl, ⟨_, _, HW.out⟩, CFr.refl ..⟩
 | cons v t =>
  have hf2 : m ≠ 0 ∧ Int.tmod (mx v 0) m = r ∧ t = l' := by
   replace hf : (if m = 0 then none else some (Int.tmod (mx v 0) m, t)) = some (r, l') := hf
   by_cases e : m = 0
   ·rw [if_pos e] at hf; cases hf
   ·rw [if_neg e] at hf
    have := Option.some.inj hf
    exact ⟨e, congrArg Prod.fst this, congrArg Prod.snd this⟩
  obtain ⟨hm0, rfl, rfl⟩ := hf2
  clear hf
  obtain ⟨ad, e, hx⟩ := Kd.at_int HW.out.row 0 (Int.le_refl 0) (by simp only [List.length_cons]; omega)
  cases e
  have hb0 := World.block_lt_of_cell? w0 _ hx
  have hx2 := (HW.out.bel.cell hb0).trans hx
  simp only [Int.toNat_zero] at hx2
  rw [show rd (v :: t) 0 = v from rfl, show ad.add 0 = ad from by cases ad; simp [Addr.add]] at hx2
  have h1c : decide ((1 : Int) ≤ (cap : Int)) = true := decide_eq_true (by have := HW.out.hcap; simp only [List.length_cons] at this; omega)
  clear hx hb0
  have hlen : (v :: t).length = t.length + 1 := rfl
  have hmx := HW.out.row.2.1
  rcases Int.le_total v 0 with hv | hv
  all_goals by_cases hk : cap = 1
  all_goals
   have hP := HW.out.put (by simp)
   first
    | rw [if_pos hk] at hP
    | rw [if_neg hk] at hP
   have HP := A_ hP
   clear hP
   have hcap := HW.out.hcap
   try subst hk
   go_enter Try.func91, Try.ntmps91
   go_wp2
   all_goals
    go_ret
    refine ⟨?_, ?_, ?_⟩
    ·first
      | rw [show mx v 0 = v by unfold mx; omega, Int.tmod_eq_emod_of_nonneg (by omega)]; done
      | (rw [show mx v 0 = v by unfold mx; omega, Int.tmod_eq_emod_of_nonneg (by omega)]; rfl) | (rw [show mx v 0 = 0 by unfold mx; omega, Int.zero_tmod]; rfl)
      | rw [show mx v 0 = 0 by unfold mx; omega, Int.zero_tmod]; done
    ·exact ⟨_, _, HP.out.1⟩
    ·exact HP.out.2
structure GWS (w0 : World) (gb gr gp gc gm : Nat) (g0 g1 a0 a1 a2 : Int) (A : Option Addr) (cap : Nat) (l : List Int) (p : Int → Bool) (s : Nat) (W : World) : Prop where
 ch : CHS w0 gc A cap l W
 bb : W.heap[gb]? = some (.cells #[.int .i64 g0, .int .i64 g1] 25 (0, 0))
 br : W.heap[gr]? = some (.cells #[.int .i64 0, .int .i64 0, .int .i64 0] 27 (0, 0))
 bm : W.heap[gm]? = some (.cells #[.int .i64 a0, .int .i64 a1, .int .i64 a2] 27 (0, 0))
 bp : MI Try.prog 3 4 gp p s W
structure GWG (w0 : World) (gb gr gp gc gm : Nat) : Prop where
 h0 : w0.heap.size ≤ gb
 h1 : gb < gr
 h2 : gr < gp
 h3 : gp < gc
 h4 : gc < gm
section
variable {w0 W W' : World} {gb gr gp gc gm cap s : Nat} {g0 g1 a0 a1 a2 : Int} {A : Option Addr} {l : List Int} {p : Int → Bool}
theorem GWS.below (h : GWS w0 gb gr gp gc gm g0 g1 a0 a1 a2 A cap l p s W) (hb : Below W.heap.size W W') : GWS w0 gb gr gp gc gm g0 g1 a0 a1 a2 A cap l p s W' :=
 ⟨⟨h.ch.bel.trans (hb.mono h.ch.bel.size), h.ch.hc, blk_below h.ch.bc hb, h.ch.row, h.ch.hcap⟩, blk_below h.bb hb, blk_below h.br hb, blk_below h.bm hb, h.bp.below hb⟩
theorem GWS.grown (h : GWS w0 gb gr gp gc gm g0 g1 a0 a1 a2 A cap l p s W) {row : Option Nat} (hg : W.grownBy W' row) (hb : Below w0.heap.size w0 W') (hr : ∀ k, row = some k → ∃ cells, W.heap[k]? = some (.cells cells 3 (0, 0))) : GWS w0 gb gr gp gc gm g0 g1 a0 a1 a2 A cap l p s W' := by
 have ne : ∀ {g : Nat} {o : Obj}, W.heap[g]? = some o → (∀ cells, o ≠ .cells cells 3 (0, 0)) → some g ≠ row := by
  intro g o ho hno e
  obtain ⟨cells, hc⟩ := hr g e.symm
  rw [ho] at hc
  exact hno cells (Option.some.inj hc)
 obtain ⟨D, ⟨es, clock, h1, F, hs, hD⟩, r⟩ := h.bp.ex
 have q1 := ne h.ch.bc (fun cells e => by injection e with _ e; cases e)
 have q2 := ne h.bb (fun cells e => by injection e with _ e; cases e)
 have q3 := ne h.br (fun cells e => by injection e with _ e; cases e)
 have q4 := ne h.bm (fun cells e => by injection e with _ e; cases e)
 have q5 := ne h1 (fun cells e => by cases e)
 exact ⟨⟨hb, h.ch.hc, blk_grown h.ch.bc hg q1, h.ch.row, h.ch.hcap⟩, blk_grown h.bb hg q2, blk_grown h.br hg q3, blk_grown h.bm hg q4, h.bp.same (hg.block gp h.bp.lt q5)⟩
theorem GWS.putm (h : GWS w0 gb gr gp gc gm g0 g1 a0 a1 a2 A cap l p s W) (G : GWG w0 gb gr gp gc gm) (t1 t2 t3 : Int) : GWS w0 gb gr gp gc gm g0 g1 t1 t2 t3 A cap l p s (((W.setCell ⟨gm, 0, none⟩ (.int .i64 t1)).setCell ⟨gm, 1, none⟩ (.int .i64 t2)).setCell ⟨gm, 2, none⟩ (.int .i64 t3)) := by
 have e1 := G.h1
 have e2 := G.h2
 have e3 := G.h3
 have e4 := G.h4
 have e0 := G.h0
 have hk : ∀ k, k ≠ gm → (((W.setCell ⟨gm, 0, none⟩ (.int .i64 t1)).setCell ⟨gm, 1, none⟩ (.int .i64 t2)).setCell ⟨gm, 2, none⟩ (.int .i64 t3)).heap[k]? = W.heap[k]? := fun k hk => ((Below.heap_setCell _ ⟨gm, 2, none⟩ _ k hk).trans (Below.heap_setCell _ ⟨gm, 1, none⟩ _ k hk)).trans (Below.heap_setCell _ ⟨gm, 0, none⟩ _ k hk)
 exact ⟨⟨((h.ch.bel.setCell (by show w0.heap.size ≤ gm; omega) _).setCell (by show w0.heap.size ≤ gm; omega) _).setCell (by show w0.heap.size ≤ gm; omega) _, h.ch.hc, (hk gc (by omega)).trans h.ch.bc, h.ch.row, h.ch.hcap⟩, (hk gb (by omega)).trans h.bb, (hk gr (by omega)).trans h.br, blk_set (blk_set (blk_set h.bm 0 _) 1 _) 2 _, h.bp.same (hk gp (by omega))⟩
theorem GWS.putp (h : GWS w0 gb gr gp gc gm g0 g1 a0 a1 a2 A cap l p s W) (G : GWG w0 gb gr gp gc gm) {p' : Int → Bool} {s' : Nat} (hM : MI Try.prog 3 4 gp p' s' W') (hg : W.grownBy W' (some gp)) : GWS w0 gb gr gp gc gm g0 g1 a0 a1 a2 A cap l p' s' W' := by
 have e1 := G.h1
 have e2 := G.h2
 have e3 := G.h3
 have e4 := G.h4
 have e0 := G.h0
 have ne : ∀ k, k ≠ gp → some k ≠ some gp := fun k hk e => hk (Option.some.inj e)
 exact ⟨⟨h.ch.bel.grown hg h.ch.bel.size (fun k hk => by cases hk; omega), h.ch.hc, blk_grown h.ch.bc hg (ne _ (by omega)), h.ch.row, h.ch.hcap⟩, blk_grown h.bb hg (ne _ (by omega)), blk_grown h.br hg (ne _ (by omega)), blk_grown h.bm hg (ne _ (by omega)), hM⟩
theorem GWS.putc (h : GWS w0 gb gr gp gc gm g0 g1 a0 a1 a2 A cap l p s W) (G : GWG w0 gb gr gp gc gm) {A' : Option Addr} {cap' : Nat} {l' : List Int} (hc : CHS w0 gc A' cap' l' W') (hf : CFr gc W W') : GWS w0 gb gr gp gc gm g0 g1 a0 a1 a2 A' cap' l' p s W' := by
 have e1 := G.h1
 have e2 := G.h2
 have e3 := G.h3
 have e4 := G.h4
 exact ⟨hc, (hf.2 gb (by omega)).trans h.bb, (hf.2 gr (by omega)).trans h.br, (hf.2 gm (by omega)).trans h.bm, h.bp.same (hf.2 gp (by omega))⟩
theorem CFr.cell {gc : Nat} {W W' : World} (hf : CFr gc W W') {q : Addr} (hq : q.block ≠ gc) : W'.cell? q = W.cell? q := by
 unfold World.cell?
 rw [hf.2 q.block hq]
end
def gm_ok (a b : Int) : Prop := 0 ≤ a ∧ a ≤ 1000 ∧ 0 ≤ b ∧ b ≤ 1000
instance (a b : Int) : Decidable (gm_ok a b) := by unfold gm_ok; infer_instance
theorem wf_small {y : Int} (h0 : 0 ≤ y) (h1 : y ≤ 1000) : (Lit.int .i64 y).wf = true := by
 have e1 : IntKind.i64.min = -9223372036854775808 := by decide
 have e2 : IntKind.i64.max = 9223372036854775807 := by decide
 have a : decide (IntKind.i64.min ≤ y) = true := decide_eq_true (by omega)
 have b : decide (y ≤ IntKind.i64.max) = true := decide_eq_true (by omega)
 show (decide (IntKind.i64.min ≤ y) && decide (y ≤ IntKind.i64.max)) = true
 rw [a, b]; rfl
def pAdd (p : Int → Bool) (y : Int) : Int → Bool := fun z => if z = y then true else p z
def sAdd (p : Int → Bool) (s : Nat) (y : Int) : Nat := if p y then s else s + 1
theorem sAdd_le (p : Int → Bool) (s : Nat) (y : Int) : sAdd p s y ≤ s + 1 := by unfold sAdd; split <;> omega
def gm_in (a0 a1 : Int) (p : Int → Bool) : Nat → Nat → List Int → Option (List Int)
 | 0, _, l => some l
 | d + 1, i, l => (impl_EndsOf.f a0 a1 (i : Int)).bind fun e => if gm_ok e.1 e.2 then gm_in a0 a1 p d (i + 1) (if (p e.1 != p e.2) = true then l ++ [(i : Int)] else l) else none
def gm_f (a0 a1 : Int) (V G : Nat) : Nat → Int → Int → Int → (Int → Bool) → Nat → List Int → Option (Int × Int × Int)
 | 0, _, _, _, _, _, _ => none
 | k + 1, m0, m1, m2, p, s, l => if s < V then (gm_in a0 a1 p G 0 []).bind fun gs => (chooser_next l gs.length).bind fun q => if 0 ≤ q.1 ∧ q.1 < gs.length then (impl_EndsOf.f a0 a1 (rd gs q.1)).bind fun e => if gm_ok e.1 e.2 then (impl_with.f m0 m1 m2 (rd gs q.1) true).bind fun m => gm_f a0 a1 V G k m.1 m.2.1 m.2.2 (pAdd (pAdd p e.1) e.2) (sAdd (pAdd p e.1) (sAdd p s e.1) e.2) q.2 else none else none else some (m0, m1, m2)
def impl_GrowMaze.f (k : Nat) (a0_0 a0_1 : Int) (l1 : List Int) : Option (Int × Int × Int) := (impl_GridOk.f a0_0 a0_1).bind fun t => if t = true then (impl_CountCells.f a0_0 a0_1).bind fun V => (impl_CountGaps.f a0_0 a0_1).bind fun G => if 0 ≤ V ∧ V ≤ 1000 ∧ 0 ≤ G ∧ G ≤ 1000 then gm_f a0_0 a0_1 V.toNat G.toNat k a0_0 a0_1 0 (pAdd (fun _ => false) 0) 1 l1 else none else some (0, 0, 0)
set_option maxHeartbeats 8000000 in
set_option maxRecDepth 100000 in
theorem impl_GrowMaze.calls (k : Nat) (a0_0 a0_1 : Int) (A1 : Option Addr) (c1 : Nat) (l1 : List Int) (r1 r2 r3 : Int) (w : World) (hr1 : Kd.C (Kd.int .i64) w A1 l1.length l1) (hc1 : l1.length ≤ c1) (h : impl_GrowMaze.f k a0_0 a0_1 l1 = some (r1, r2, r3)) :
  Calls Try.prog 31 #[.agg #[.int .i64 a0_0, .int .i64 a0_1], .slice A1 l1.length c1] w fun e w' => e = .returned (.agg #[.int .i64 r1, .int .i64 r2, .int .i64 r3]) ∧ Below w.heap.size w w' := by
 have huM := Try.underlying27
 have huG := Try.underlying25
 have huC := Try.underlying89
 have HU3 := A_ Try.underlying3
 have HU4 := A_ Try.underlying4
 have HUM := A_ Try.underlying86
 have HZ4 : Aside0 (∀ W : World, (zeroValue 4).run Try.prog W = .ok (.bool false) W) := ⟨fun W => by kernel_rfl⟩
 obtain ⟨t, ht, H⟩ := Option.bind_eq_some_iff.1 h
 have HG := A_ ht
 have HR1 := A_ hr1
 clear h ht hr1
 cases t with
 | false =>
  obtain ⟨rfl, rfl, rfl⟩ : 0 = r1 ∧ 0 = r2 ∧ 0 = r3 := by simpa using Option.some.inj H
  clear H
  go_enter Try.func31, Try.ntmps31
  go_wp2_with (first | ((with_reducible refine gate_dst (N := 2) rfl ?_); refine box_event ?hg2 (N := 2) ?hd2 (cs := #[.int .i64 a0_0, .int .i64 a0_1]) (t := 25) ?hr2 ?_; (case hd2 => rfl); (case hg2 => rfl); (case hr2 => first | (go_simp; done) | (go_simp; rfl)); intro gb hgb w1 hbox hb; have HBa := A_ (hb); have KBa := A_ (hbox); have G0 := A_ (show w.heap.size ≤ gb from by rw [hgb]; exact Nat.le_refl _); clear hb hbox hgb) | ((with_reducible refine gate_dst (N := 4) rfl ?_); refine box_event ?hg4 (N := 4) ?hd4 (cs := #[.int .i64 0, .int .i64 0, .int .i64 0]) (t := 27) ?hr4 ?_; (case hd4 => rfl); (case hg4 => rfl); (case hr4 => first | (go_simp; done) | (go_simp; rfl)); intro gr hgr w2 hbox hb; have HBb := A_ (HBa.out.trans (hb.mono HBa.out.size)); have KBb := A_ (blk_below KBa.out hb); have KRb := A_ (hbox); have G1 := A_ (show gb < gr from by rw [hgr]; exact blk_lt KBa.out); have hg0 : w2.cell? ⟨gb, 0, none⟩ = some (.int .i64 a0_0) := (blk_cell KBb.out 0).trans rfl; have hg1 : w2.cell? ⟨gb, 1, none⟩ = some (.int .i64 a0_1) := (blk_cell KBb.out 1).trans rfl; clear HBa KBa hb hbox hgr) | ((with_reducible refine gate_dst (N := 16) rfl ?_); refine gl_ 16 Try.func82 #[.agg #[.int .i64 a0_0, .int .i64 a0_1]] ?_; refine (impl_GridOk.calls a0_0 a0_1 false _ HG.out).mono ?_; rintro e w3 ⟨rfl, hb⟩; refine ⟨_, rfl, ?_⟩; have HBc := A_ (HBb.out.trans (hb.mono HBb.out.size)); have KBc := A_ (blk_below KBb.out hb); have KRc := A_ (blk_below KRb.out hb); clear hg0 hg1 hb HBb KBb KRb; have hr0 := (blk_cell KRc.out 0).trans rfl; have hr1 := (blk_cell KRc.out 1).trans rfl; have hr2 := (blk_cell KRc.out 2).trans rfl; have hs0 := bf_ KRc.out 0; have hs1 := bf_ KRc.out 1; have hs2 := bf_ KRc.out 2))
  have KRz := blk_set (blk_set (blk_set KRc.out 0 (.int .i64 0)) 1 (.int .i64 0)) 2 (.int .i64 0)
  have GRz : w.heap.size ≤ gr := by have := G0.out; have := G1.out; omega
  have HBz := ((HBc.out.setCell (p := ⟨gr, 0, none⟩) GRz (.int .i64 0)).setCell (p := ⟨gr, 1, none⟩) GRz (.int .i64 0)).setCell (p := ⟨gr, 2, none⟩) GRz (.int .i64 0)
  ((try simp only [Exit.inBlock, Exit.then]); refine bodyPost_ret (results_cell_row rfl _ _ gr 27 #[.int .i64 0, .int .i64 0, .int .i64 0] (0, 0) _ rfl KRz Try.underlying27 rfl (by kernel_rfl)) rfl ?_)
  exact ⟨rfl, HBz⟩
 | true =>
  rw [if_pos rfl] at H
  obtain ⟨V, hV, H⟩ := Option.bind_eq_some_iff.1 H
  obtain ⟨G, hG, H⟩ := Option.bind_eq_some_iff.1 H
  by_cases hVG : 0 ≤ V ∧ V ≤ 1000 ∧ 0 ≤ G ∧ G ≤ 1000
  rotate_left
  ·rw [if_neg hVG] at H; cases H
  rw [if_pos hVG] at H
  obtain ⟨hV0, hV1, hG0, hG1⟩ := hVG
  obtain ⟨V, rfl⟩ : ∃ n : Nat, V = (n : Int) := ⟨V.toNat, by omega⟩
  obtain ⟨G, rfl⟩ : ∃ n : Nat, G = (n : Int) := ⟨G.toNat, by omega⟩
  rw [Int.toNat_natCast, Int.toNat_natCast] at H
  have HV := A_ hV
  have HGn := A_ hG
  have LV := A_ (show V ≤ 1000 by omega)
  have LG := A_ (show G ≤ 1000 by omega)
  have HH := A_ H
  clear hV hG H hV0 hV1 hG0 hG1
  go_enter Try.func31, Try.ntmps31
  go_wp2_with (first | ((with_reducible refine gate_dst (N := 2) rfl ?_); refine box_event ?hg2 (N := 2) ?hd2 (cs := #[.int .i64 a0_0, .int .i64 a0_1]) (t := 25) ?hr2 ?_; (case hd2 => rfl); (case hg2 => rfl); (case hr2 => first | (go_simp; done) | (go_simp; rfl)); intro gb hgb w1 hbox hb; have HBa := A_ (hb); have KBa := A_ (hbox); have G0 := A_ (show w.heap.size ≤ gb from by rw [hgb]; exact Nat.le_refl _); clear hb hbox hgb) | ((with_reducible refine gate_dst (N := 4) rfl ?_); refine box_event ?hg4 (N := 4) ?hd4 (cs := #[.int .i64 0, .int .i64 0, .int .i64 0]) (t := 27) ?hr4 ?_; (case hd4 => rfl); (case hg4 => rfl); (case hr4 => first | (go_simp; done) | (go_simp; rfl)); intro gr hgr w2 hbox hb; have HBb := A_ (HBa.out.trans (hb.mono HBa.out.size)); have KBb := A_ (blk_below KBa.out hb); have KRb := A_ (hbox); have G1 := A_ (show gb < gr from by rw [hgr]; exact blk_lt KBa.out); have hg0 : w2.cell? ⟨gb, 0, none⟩ = some (.int .i64 a0_0) := (blk_cell KBb.out 0).trans rfl; have hg1 : w2.cell? ⟨gb, 1, none⟩ = some (.int .i64 a0_1) := (blk_cell KBb.out 1).trans rfl; clear HBa KBa hb hbox hgr) | ((with_reducible refine gate_dst (N := 16) rfl ?_); refine gl_ 16 Try.func82 #[.agg #[.int .i64 a0_0, .int .i64 a0_1]] ?_; refine (impl_GridOk.calls a0_0 a0_1 true _ HG.out).mono ?_; rintro e w3 ⟨rfl, hb⟩; refine ⟨_, rfl, ?_⟩; have HBc := A_ (HBb.out.trans (hb.mono HBb.out.size)); have KBc := A_ (blk_below KBb.out hb); have KRc := A_ (blk_below KRb.out hb); clear hg0 hg1 hb HBb KBb KRb; have hg0 : w3.cell? ⟨gb, 0, none⟩ = some (.int .i64 a0_0) := (blk_cell KBc.out 0).trans rfl; have hg1 : w3.cell? ⟨gb, 1, none⟩ = some (.int .i64 a0_1) := (blk_cell KBc.out 1).trans rfl) | ((with_reducible refine gate_dst (N := 21) rfl ?_); refine map_event 3 4 ?hg21 (N := 21) ?hd21 ?hr21 ?_; (case hd21 => rfl); (case hg21 => rfl); (case hr21 => first | rfl | (go_simp; done) | (go_simp; rfl)); intro gp hgp w4 hM hb; have HBd := A_ (HBc.out.trans (hb.mono HBc.out.size)); have KBd := A_ (blk_below KBc.out hb); have KRd := A_ (blk_below KRc.out hb); have HMd := A_ (hM); have G2 := A_ (show gr < gp from by rw [hgp]; exact blk_lt KRc.out); clear hb hM hgp hg0 hg1 HBc KBc KRc) | ((with_reducible refine gate_ (.insert 86 (.tmp 21) (.const (.int .i64 0)) (.const (.bool true))) rfl ?_); refine mi_ins (y := 0) rfl rfl _ _ _ rfl rfl rfl rfl HU3.out HU4.out HUM.out HMd.out (by decide) (wf_small (by decide) (by decide)) ?_; intro w5 hM hgw; have HBe := A_ (HBd.out.grown hgw HBd.out.size (fun k hk => by cases hk; have := G0.out; have := G1.out; have := G2.out; omega)); have KBe := A_ (blk_grown KBd.out hgw (fun e => by have := Option.some.inj e; have := G1.out; have := G2.out; omega)); have KRe := A_ (blk_grown KRd.out hgw (fun e => by have := Option.some.inj e; have := G2.out; omega)); have HMe := A_ (show MI Try.prog 3 4 gp (pAdd (fun _ => false) 0) 1 w5 from hM); clear hM hgw HBd KBd KRd HMd) | ((with_reducible refine gate_dst (N := 25) rfl ?_); refine box_event ?hg25 (N := 25) ?hd25 (cs := #[.slice A1 l1.length c1]) (t := 89) ?hr25 ?_; (case hd25 => rfl); (case hg25 => rfl); (case hr25 => first | (go_simp; done) | (go_simp; rfl)); intro gc hgc w6 hbox hb; have HBf := A_ (HBe.out.trans (hb.mono HBe.out.size)); have KBf := A_ (blk_below KBe.out hb); have KRf := A_ (blk_below KRe.out hb); have HMf := A_ (HMe.out.below hb); have KCf := A_ (hbox); have G3 := A_ (show gp < gc from by rw [hgc]; exact HMe.out.lt); clear HBe KBe KRe HMe hb hbox hgc) | ((with_reducible refine gate_dst (N := 5) rfl ?_); refine box_event ?hg5 (N := 5) ?hd5 (cs := #[.int .i64 0, .int .i64 0, .int .i64 0]) (t := 27) ?hr5 ?_; (case hd5 => rfl); (case hg5 => rfl); (case hr5 => first | (go_simp; done) | (go_simp; rfl)); intro gm hgm w7 hbox hb; have G4 := A_ (show gc < gm from by rw [hgm]; exact blk_lt KCf.out); have HG7 := A_ (show GWG w gb gr gp gc gm from ⟨G0.out, G1.out, G2.out, G3.out, G4.out⟩); have HS7 := A_ (show GWS w gb gr gp gc gm a0_0 a0_1 0 0 0 A1 c1 l1 (pAdd (fun _ => false) 0) 1 w7 from ⟨⟨HBf.out.trans (hb.mono HBf.out.size), by have := G0.out; have := G1.out; have := G2.out; have := G3.out; omega, blk_below KCf.out hb, HR1.out, hc1⟩, blk_below KBf.out hb, blk_below KRf.out hb, hbox, HMf.out.below hb⟩); have hm0 := (blk_cell HS7.out.bm 0).trans rfl; have hm1 := (blk_cell HS7.out.bm 1).trans rfl; have hm2 := (blk_cell HS7.out.bm 2).trans rfl; have hn0 := bf_ HS7.out.bm 0; have hn1 := bf_ HS7.out.bm 1; have hn2 := bf_ HS7.out.bm 2; clear HBf KBf KRf HMf KCf G0 G1 G2 G3 G4 hb hbox hgm) | ((with_reducible refine gate_store (t := 27) (p := 5) rfl ?_); refine store_event (t := 27) (p := 5) (v := ?vo_m) (w1 := (((w7.setCell ⟨gm, 0, none⟩ (.int .i64 a0_0)).setCell ⟨gm, 1, none⟩ (.int .i64 a0_1)).setCell ⟨gm, 2, none⟩ (.int .i64 0))) ?hgm5 ?hom5 ?hnm5 ?hrm5 ?_; (case hom5 => rfl); (case hgm5 => rfl); (case hnm5 => rfl); (case hrm5 => first | (go_simp; done) | (go_simp; rfl)); intro w8 hw; have hq := HS7.out.putm HG7.out (a0_0) (a0_1) (0); rw [← hw] at hq; have HS8 := A_ hq; clear hq hw hm0 hm1 hm2 hn0 hn1 hn2 HS7))
  go_loopg [] k (fun kq wr => ∃ (m0 m1 m2 : Int) (p : Int → Bool) (s : Nat) (A : Option Addr) (cap : Nat) (l : List Int), Aside0 (gm_f a0_0 a0_1 V G kq m0 m1 m2 p s l = some (r1, r2, r3)) ∧ Aside0 (GWS w gb gr gp gc gm a0_0 a0_1 m0 m1 m2 A cap l p s wr))
  case atStart => exact ⟨_, _, _, _, _, _, _, _, HH, HS8⟩
  case round =>
   clear HH HS8
   obtain ⟨m0, m1, m2, p, s, A, cap, l, HA, HS⟩ := hrel
   cases gk with
   | zero => exact absurd HA.out (by simp [gm_f])
   | succ k1 =>
    have H := HA.out
    clear HA
    rw [gm_f] at H
    by_cases hs : s < V
    ·rw [if_pos hs] at H
     obtain ⟨gs, hgs, H⟩ := Option.bind_eq_some_iff.1 H
     obtain ⟨⟨q, l'⟩, hq, H⟩ := Option.bind_eq_some_iff.1 H
     dsimp only at H
     by_cases hqq : 0 ≤ q ∧ q < (gs.length : Int)
     rotate_left
     ·rw [if_neg hqq] at H; cases H
     rw [if_pos hqq] at H
     obtain ⟨⟨e1, e2⟩, he, H⟩ := Option.bind_eq_some_iff.1 H
     dsimp only at H
     by_cases hok : gm_ok e1 e2
     rotate_left
     ·rw [if_neg hok] at H; cases H
     rw [if_pos hok] at H
     obtain ⟨⟨n0, n1, n2⟩, hm, H⟩ := Option.bind_eq_some_iff.1 H
     dsimp only at H
     have HGS := A_ hgs
     have HQ := A_ hq
     have HE0 := A_ he
     have HW := A_ hm
     have HH := A_ H
     have HQQ := A_ hqq
     have WF1 := A_ (wf_small hok.1 hok.2.1)
     have WF2 := A_ (wf_small hok.2.2.1 hok.2.2.2)
     have HSL := A_ (show s < maxLen by have := LV.out; unfold maxLen; omega)
     have HSL2 := A_ (show s + 1 < maxLen by have := LV.out; unfold maxLen; omega)
     have hsd : decide ((s : Int) < (V : Int)) = true := decide_eq_true (by omega)
     have hsd2 : decide (s < V) = true := decide_eq_true hs
     clear hgs hq he hm H hqq hok
     have hg0 : wr.cell? ⟨gb, 0, none⟩ = some (.int .i64 a0_0) := (blk_cell HS.out.bb 0).trans rfl
     have hg1 : wr.cell? ⟨gb, 1, none⟩ = some (.int .i64 a0_1) := (blk_cell HS.out.bb 1).trans rfl
     go_wp2_with (first | ((with_reducible refine gate_dst (N := 27) rfl ?_); refine mi_len rfl (.tmp 26) rfl rfl HUM.out HS.out.bp ?_) | ((with_reducible refine gate_dst (N := 29) rfl ?_); refine gl_ 29 Try.func68 #[.agg #[.int .i64 a0_0, .int .i64 a0_1]] ?_; refine (impl_CountCells.calls a0_0 a0_1 (V : Int) _ HV.out).mono ?_; rintro e w9 ⟨rfl, hb⟩; refine ⟨_, rfl, ?_⟩; have HS9 := A_ (HS.out.below hb); clear hb hg0 hg1 HS))
     go_loopg [8, 9] (G + 1) (fun gg v8 v9 wi => ∃ (i : Nat) (ls : List Int), i ≤ G ∧ G - i + 1 ≤ gg ∧ v9 = .int .i64 i ∧ Aside0 (gm_in a0_0 a0_1 p (G - i) i ls = some gs) ∧ Aside0 (ls.length ≤ i) ∧ Aside0 (Kd.R (Kd.int .i64) 3 wi w.heap.size (fun _ => True) v8 ls) ∧ Aside0 (GWS w gb gr gp gc gm a0_0 a0_1 m0 m1 m2 A cap l p s wi))
     case atStart => exact ⟨0, [], Nat.zero_le _, by omega, rfl, HGS, ⟨Nat.le_refl _⟩, ⟨Kd.R_nil _ _ _ _ _⟩, HS9⟩
     case round =>
      clear HS9 HGS
      obtain ⟨i, ls, hi, hgg, rfl, HI, HLl, HO, HS⟩ := hrel
      have hg0 : wr.cell? ⟨gb, 0, none⟩ = some (.int .i64 a0_0) := (blk_cell HS.out.bb 0).trans rfl
      have hg1 : wr.cell? ⟨gb, 1, none⟩ = some (.int .i64 a0_1) := (blk_cell HS.out.bb 1).trans rfl
      by_cases hlt : i < G
      ·have hltd : decide ((i : Int) < (G : Int)) = true := decide_eq_true (by omega)
       have hltd2 : decide (i < G) = true := decide_eq_true hlt
       have H := HI.out
       clear HI HE0
       rw [show G - i = (G - (i + 1)) + 1 by omega, gm_in] at H
       obtain ⟨⟨e1, e2⟩, he, H⟩ := Option.bind_eq_some_iff.1 H
       dsimp only at H
       by_cases hok : gm_ok e1 e2
       rotate_left
       ·rw [if_neg hok] at H; cases H
       rw [if_pos hok] at H
       have HE := A_ he
       have WE1 := A_ (wf_small hok.1 hok.2.1)
       have WE2 := A_ (wf_small hok.2.2.1 hok.2.2.2)
       have LGi := A_ (show i ≤ 1000 by have := LG.out; omega)
       clear he hok
       cases hpq : (p e1 != p e2) with
       | true =>
        rw [hpq, if_pos rfl] at H
        have hpq2 : (p e1 == p e2) = false := by simpa [bne] using hpq
        have hib : (i : Int) ≤ 1000 := by have := LGi.out; omega
        have HI := A_ H
        clear H
        go_wp2_with (first | ((with_reducible refine gate_dst (N := 33) rfl ?_); refine gl_ 33 Try.func74 #[.agg #[.int .i64 a0_0, .int .i64 a0_1]] ?_; refine (impl_CountGaps.calls a0_0 a0_1 (G : Int) _ HGn.out).mono ?_; rintro e w10 ⟨rfl, hb⟩; refine ⟨_, rfl, ?_⟩; have HS10 := A_ (HS.out.below hb); have HO10 := A_ (Kd.R_below HO.out hb); clear hb hg0 hg1 HS HO; have hg0 : w10.cell? ⟨gb, 0, none⟩ = some (.int .i64 a0_0) := (blk_cell HS10.out.bb 0).trans rfl; have hg1 : w10.cell? ⟨gb, 1, none⟩ = some (.int .i64 a0_1) := (blk_cell HS10.out.bb 1).trans rfl) | ((with_reducible refine gate_dst (N := 40) rfl ?_); refine gl_ 40 Try.func90 #[.agg #[.int .i64 a0_0, .int .i64 a0_1], .int .i64 (i : Int)] ?_; refine (impl_EndsOf.calls a0_0 a0_1 (i : Int) e1 e2 _ HE.out).mono ?_; rintro e w11 ⟨rfl, hb⟩; refine ⟨_, rfl, ?_⟩; have HS11 := A_ (HS10.out.below hb); have HO11 := A_ (Kd.R_below HO10.out hb); clear hb hg0 hg1 HS10 HO10; have hg0 : w11.cell? ⟨gb, 0, none⟩ = some (.int .i64 a0_0) := (blk_cell HS11.out.bb 0).trans rfl; have hg1 : w11.cell? ⟨gb, 1, none⟩ = some (.int .i64 a0_1) := (blk_cell HS11.out.bb 1).trans rfl) | ((with_reducible refine gate_dst (N := 45) rfl ?_); refine mi_look (y := e1) rfl (.tmp 43) (.tmp 44) rfl rfl rfl HU3.out HU4.out HUM.out (HZ4.out _) HS11.out.bp WE1.out ?_) | ((with_reducible refine gate_dst (N := 48) rfl ?_); refine mi_look (y := e2) rfl (.tmp 46) (.tmp 47) rfl rfl rfl HU3.out HU4.out HUM.out (HZ4.out _) HS11.out.bp WE2.out ?_) | ((with_reducible refine gate_builtin (b := .append) (xs := #[.tmp 50, .tmp 52]) rfl ?_); at_builtin; refine Kd.R_append (Kd.int .i64) (w0 := w) w.heap.size rfl (.tmp 50) (.tmp 52) 39 3 (.int .i64 0) 8 rfl Try.underlying39 info3 rfl (by decide) (by omega) u8 ls (i : Int) [.int .i64 (i : Int)] (fun _ => True) (fun _ => False) rfl rfl ?aP (fun _ hk => hk.elim) ?aF ?aO ?aB ?aS ?aL ?_; (case aP => exact rfl); (case aB => exact HS11.out.ch.bel); (case aF => exact (fun _ _ => trivial)); (case aO => exact HO11.out); (case aS => exact HS11.out.ch.bel.size); (case aL => have := HLl.out; have := LGi.out; omega); intro v12 w12 ho hb hgw hat; have HS12 := A_ (HS11.out.grown hgw hb (Kd.R_typed HO11.out)); have HO12 := A_ (ho); clear ho hb hgw hat hg0 hg1 HS11 HO11))
        go_roundg (G - (i + 1) + 1)
        case measure => omega
        case rel => exact ⟨i + 1, ls ++ [(i : Int)], by omega, by omega, by go_num, HI, ⟨by rw [List.length_append]; have := HLl.out; simp only [List.length_cons, List.length_nil]; omega⟩, HO12, HS12⟩
       | false =>
        rw [hpq, if_neg (by decide)] at H
        have hpq2 : (p e1 == p e2) = true := by simpa [bne] using hpq
        have hib : (i : Int) ≤ 1000 := by have := LGi.out; omega
        have HI := A_ H
        clear H
        go_wp2_with (first | ((with_reducible refine gate_dst (N := 33) rfl ?_); refine gl_ 33 Try.func74 #[.agg #[.int .i64 a0_0, .int .i64 a0_1]] ?_; refine (impl_CountGaps.calls a0_0 a0_1 (G : Int) _ HGn.out).mono ?_; rintro e w10 ⟨rfl, hb⟩; refine ⟨_, rfl, ?_⟩; have HS10 := A_ (HS.out.below hb); have HO10 := A_ (Kd.R_below HO.out hb); clear hb hg0 hg1 HS HO; have hg0 : w10.cell? ⟨gb, 0, none⟩ = some (.int .i64 a0_0) := (blk_cell HS10.out.bb 0).trans rfl; have hg1 : w10.cell? ⟨gb, 1, none⟩ = some (.int .i64 a0_1) := (blk_cell HS10.out.bb 1).trans rfl) | ((with_reducible refine gate_dst (N := 40) rfl ?_); refine gl_ 40 Try.func90 #[.agg #[.int .i64 a0_0, .int .i64 a0_1], .int .i64 (i : Int)] ?_; refine (impl_EndsOf.calls a0_0 a0_1 (i : Int) e1 e2 _ HE.out).mono ?_; rintro e w11 ⟨rfl, hb⟩; refine ⟨_, rfl, ?_⟩; have HS11 := A_ (HS10.out.below hb); have HO11 := A_ (Kd.R_below HO10.out hb); clear hb hg0 hg1 HS10 HO10; have hg0 : w11.cell? ⟨gb, 0, none⟩ = some (.int .i64 a0_0) := (blk_cell HS11.out.bb 0).trans rfl; have hg1 : w11.cell? ⟨gb, 1, none⟩ = some (.int .i64 a0_1) := (blk_cell HS11.out.bb 1).trans rfl) | ((with_reducible refine gate_dst (N := 45) rfl ?_); refine mi_look (y := e1) rfl (.tmp 43) (.tmp 44) rfl rfl rfl HU3.out HU4.out HUM.out (HZ4.out _) HS11.out.bp WE1.out ?_) | ((with_reducible refine gate_dst (N := 48) rfl ?_); refine mi_look (y := e2) rfl (.tmp 46) (.tmp 47) rfl rfl rfl HU3.out HU4.out HUM.out (HZ4.out _) HS11.out.bp WE2.out ?_))
        go_roundg (G - (i + 1) + 1)
        case measure => omega
        case rel => exact ⟨i + 1, ls, by omega, by omega, by go_num, HI, ⟨by have := HLl.out; omega⟩, HO11, HS11⟩
      ·have hltd : decide ((i : Int) < (G : Int)) = false := decide_eq_false (by omega)
       have hltd2 : decide (i < G) = false := decide_eq_false hlt
       have H := HI.out
       clear HI
       rw [show G - i = 0 by omega, gm_in] at H
       obtain rfl := Option.some.inj H
       clear H
       obtain ⟨A8, c8, rfl⟩ := Kd.R_slice HO.out
       have HE := HE0
       clear HE0
       obtain ⟨ad, e, hx⟩ := Kd.at_int (Kd.R_reads' HO.out).2.2 q HQQ.out.1 HQQ.out.2
       cases e
       have HNE := A_ (show (ad.add q.toNat).block ≠ gc from fun e => Kd.R_ne HO.out HS.out.ch.bc (by decide) (by rw [← e]; simp only [Value.ownBlock]; unfold Addr.add; split <;> rfl))
       have hq0 : decide (0 ≤ q) = true := decide_eq_true HQQ.out.1
       have hq1 : decide (q < (ls.length : Int)) = true := decide_eq_true HQQ.out.2
       have hq2 : 0 ≤ q := HQQ.out.1
       have hq3 : q < (ls.length : Int) := HQQ.out.2
       go_wp2_with (first | ((with_reducible refine gate_dst (N := 33) rfl ?_); refine gl_ 33 Try.func74 #[.agg #[.int .i64 a0_0, .int .i64 a0_1]] ?_; refine (impl_CountGaps.calls a0_0 a0_1 (G : Int) _ HGn.out).mono ?_; rintro e w10 ⟨rfl, hb⟩; refine ⟨_, rfl, ?_⟩; have HS10 := A_ (HS.out.below hb); have HO10 := A_ (Kd.R_below HO.out hb); have hx1 := (hb.cell (World.block_lt_of_cell? _ _ hx)).trans hx; clear hx hb hg0 hg1 HS HO; have hg0 : w10.cell? ⟨gb, 0, none⟩ = some (.int .i64 a0_0) := (blk_cell HS10.out.bb 0).trans rfl; have hg1 : w10.cell? ⟨gb, 1, none⟩ = some (.int .i64 a0_1) := (blk_cell HS10.out.bb 1).trans rfl) | ((with_reducible refine gate_dst (N := 58) rfl ?_); refine gl_ 58 Try.func91 #[.pointer (some ⟨gc, 0, none⟩), .int .i64 (ls.length : Int)] ?_; refine (chooser_nextG.calls HS10.out.ch (ls.length : Int) q l' HQ.out).mono ?_; rintro e w11 ⟨rfl, ⟨A', cap', hch⟩, hfr⟩; refine ⟨_, rfl, ?_⟩; have HS11 := A_ (HS10.out.putc HG7.out hch hfr); have hx2 := (hfr.cell (q := ad.add q.toNat) HNE.out).trans hx1; clear hch hfr hx1 hg0 hg1 HS10 HO10; have hg0 : w11.cell? ⟨gb, 0, none⟩ = some (.int .i64 a0_0) := (blk_cell HS11.out.bb 0).trans rfl; have hg1 : w11.cell? ⟨gb, 1, none⟩ = some (.int .i64 a0_1) := (blk_cell HS11.out.bb 1).trans rfl) | ((with_reducible refine gate_dst (N := 64) rfl ?_); refine gl_ 64 Try.func90 #[.agg #[.int .i64 a0_0, .int .i64 a0_1], .int .i64 (rd ls q)] ?_; refine (impl_EndsOf.calls a0_0 a0_1 (rd ls q) e1 e2 _ HE.out).mono ?_; rintro e w12 ⟨rfl, hb⟩; refine ⟨_, rfl, ?_⟩; have HS12 := A_ (HS11.out.below hb); clear hb hx2 hg0 hg1 HS11; have hm0 := (blk_cell HS12.out.bm 0).trans rfl; have hm1 := (blk_cell HS12.out.bm 1).trans rfl; have hm2 := (blk_cell HS12.out.bm 2).trans rfl; have hn0 := bf_ HS12.out.bm 0; have hn1 := bf_ HS12.out.bm 1; have hn2 := bf_ HS12.out.bm 2) | ((with_reducible refine gate_dst (N := 73) rfl ?_); refine gl_ 73 Try.func92 #[.agg #[.int .i64 m0, .int .i64 m1, .int .i64 m2], .int .i64 (rd ls q), .bool true] ?_; refine (impl_with.calls m0 m1 m2 (rd ls q) true n0 n1 n2 _ HW.out).mono ?_; rintro e w13 ⟨rfl, hb⟩; refine ⟨_, rfl, ?_⟩; have HS13 := A_ (HS12.out.below hb); clear hb HS12 hm0 hm1 hm2 hn0 hn1 hn2; have hm0 := (blk_cell HS13.out.bm 0).trans rfl; have hm1 := (blk_cell HS13.out.bm 1).trans rfl; have hm2 := (blk_cell HS13.out.bm 2).trans rfl; have hn0 := bf_ HS13.out.bm 0; have hn1 := bf_ HS13.out.bm 1; have hn2 := bf_ HS13.out.bm 2) | ((with_reducible refine gate_store (t := 27) (p := 5) rfl ?_); refine store_event (t := 27) (p := 5) (v := ?vo_mb) (w1 := (((w13.setCell ⟨gm, 0, none⟩ (.int .i64 n0)).setCell ⟨gm, 1, none⟩ (.int .i64 n1)).setCell ⟨gm, 2, none⟩ (.int .i64 n2))) ?hgm5b ?hom5b ?hnm5b ?hrm5b ?_; (case hom5b => rfl); (case hgm5b => rfl); (case hnm5b => rfl); (case hrm5b => first | (go_simp; done) | (go_simp; rfl)); intro w14 hw; have hq := HS13.out.putm HG7.out (n0) (n1) (n2); rw [← hw] at hq; have HS14 := A_ hq; clear hq hw hm0 hm1 hm2 hn0 hn1 hn2 HS13) | ((with_reducible refine gate_ (.mapUpdate 86 (.tmp 67) (.tmp 68) (.const (.bool true))) rfl ?_); refine mi_put (y := e1) rfl rfl _ _ _ rfl rfl rfl rfl HU3.out HU4.out HUM.out HS14.out.bp HSL.out WF1.out ?_; intro w15 hM hgw; have HS15 := A_ (GWS.putp HS14.out HG7.out (p' := pAdd p e1) (s' := sAdd p s e1) hM hgw); clear hM hgw HS14) | ((with_reducible refine gate_ (.mapUpdate 86 (.tmp 69) (.tmp 70) (.const (.bool true))) rfl ?_); refine mi_put (y := e2) rfl rfl _ _ _ rfl rfl rfl rfl HU3.out HU4.out HUM.out HS15.out.bp (Nat.lt_of_le_of_lt (sAdd_le p s e1) HSL2.out) WF2.out ?_; intro w16 hM hgw; have HS16 := A_ (GWS.putp HS15.out HG7.out (p' := pAdd (pAdd p e1) e2) (s' := sAdd (pAdd p e1) (sAdd p s e1) e2) hM hgw); clear hM hgw HS15))
       go_roundg k1
       case measure => omega
       case rel => exact ⟨_, _, _, _, _, _, _, _, HH, HS16⟩
    ·rw [if_neg hs] at H
     obtain ⟨rfl, rfl, rfl⟩ : m0 = r1 ∧ m1 = r2 ∧ m2 = r3 := by simpa using Option.some.inj H
     clear H
     have hsd : decide ((s : Int) < (V : Int)) = false := decide_eq_false (by omega)
     have hsd2 : decide (s < V) = false := decide_eq_false hs
     have hg0 : wr.cell? ⟨gb, 0, none⟩ = some (.int .i64 a0_0) := (blk_cell HS.out.bb 0).trans rfl
     have hg1 : wr.cell? ⟨gb, 1, none⟩ = some (.int .i64 a0_1) := (blk_cell HS.out.bb 1).trans rfl
     go_wp2_with (first | ((with_reducible refine gate_dst (N := 27) rfl ?_); refine mi_len rfl (.tmp 26) rfl rfl HUM.out HS.out.bp ?_) | ((with_reducible refine gate_dst (N := 29) rfl ?_); refine gl_ 29 Try.func68 #[.agg #[.int .i64 a0_0, .int .i64 a0_1]] ?_; refine (impl_CountCells.calls a0_0 a0_1 (V : Int) _ HV.out).mono ?_; rintro e w9 ⟨rfl, hb⟩; refine ⟨_, rfl, ?_⟩; have HS9 := A_ (HS.out.below hb); clear hb hg0 hg1 HS; have hm0 := (blk_cell HS9.out.bm 0).trans rfl; have hm1 := (blk_cell HS9.out.bm 1).trans rfl; have hm2 := (blk_cell HS9.out.bm 2).trans rfl; have hn0 := bf_ HS9.out.bm 0; have hn1 := bf_ HS9.out.bm 1; have hn2 := bf_ HS9.out.bm 2; have hr0 := (blk_cell HS9.out.br 0).trans rfl; have hr1 := (blk_cell HS9.out.br 1).trans rfl; have hr2 := (blk_cell HS9.out.br 2).trans rfl; have hs0 := bf_ HS9.out.br 0; have hs1 := bf_ HS9.out.br 1; have hs2 := bf_ HS9.out.br 2))
     have KRz := blk_set (blk_set (blk_set HS9.out.br 0 (.int .i64 m0)) 1 (.int .i64 m1)) 2 (.int .i64 m2)
     have GRz : w.heap.size ≤ gr := by have := HG7.out.h0; have := HG7.out.h1; omega
     have HBz := ((HS9.out.ch.bel.setCell (p := ⟨gr, 0, none⟩) GRz (.int .i64 m0)).setCell (p := ⟨gr, 1, none⟩) GRz (.int .i64 m1)).setCell (p := ⟨gr, 2, none⟩) GRz (.int .i64 m2)
     ((try simp only [Exit.inBlock, Exit.then]); refine bodyPost_ret (results_cell_row rfl _ _ gr 27 #[.int .i64 m0, .int .i64 m1, .int .i64 m2] (0, 0) _ rfl KRz Try.underlying27 rfl (by kernel_rfl)) rfl ?_)
     exact ⟨rfl, HBz⟩

end Go.Proofs.Ytbeajmcjfhbcjaa.P
namespace Go.Proofs.Ytbeajmcjfhbcjaa.P
open Go.RowKit Go.Proofs.YtbeajmcjfhbcjaaW.PrintWords Go.Proofs.YtbeajmcjfhbcjaaW.PrintLast Go.Proofs.YtbeajmcjfhbcjaaW.PrintMore
attribute [local go_sem] max2_int min2_int max_two min_two max_three min_three max_four min_four   -- for this text's walks alone
set_option linter.unusedVariables false
set_option linter.unusedSimpArgs false

def impl_CountRooms.f (k : Nat) (a0_0 : Int) (a0_1 : Int) : Option (Int) := (impl_divided.f k a0_0 a0_1 ([] : List Int)).bind fun bt102 => (some bt102.2.2.2)
set_option maxHeartbeats 8000000 in
set_option maxRecDepth 100000 in
theorem impl_CountRooms.calls (k : Nat) (a0_0 : Int) (a0_1 : Int) (r : Int) (w : World) (h : impl_CountRooms.f k a0_0 a0_1 = some r) :
  Calls Try.prog 38 #[.agg #[.int .i64 a0_0, .int .i64 a0_1]] w fun e w' => e = .returned (.int .i64 r) ∧ Below w.heap.size w w' := by
 have hu25 := Try.underlying25
 have hu27 := Try.underlying27
 have HB := A_ (Below.refl w.heap.size w)
 have H : ((impl_divided.f k a0_0 a0_1 ([] : List Int)).bind fun bt102 => (some bt102.2.2.2)) = some r := h
 clear h
 obtain ⟨⟨t102, t103, t104, t105⟩, A20, H⟩ := oB_ H
 (try dsimp only at H); have A2 := A_ A20; clear A20
 obtain rfl := Option.some.inj H
 go_enter Try.func38, Try.ntmps38
 go_wp2_with (first | ((with_reducible refine gate_dst (N := 1) rfl ?_); refine box_event ?hg (N := 1) ?hd (cs := #[.int .i64 a0_0, .int .i64 a0_1]) (t := 25) ?hr ?_; (case hd => rfl); (case hg => rfl); (case hr => first | (go_simp; done) | (go_simp; rfl)); intro gb101 hg w3 hbox hb; have n0_ := A_ (below_step (by repeat first | exact HB.1 | apply bA_ | apply bB_ | apply bC_) hb); have n1_ := A_ (hbox); have n2_ := A_ ((by rw [hg]; exact (below_size (by repeat first | exact HB.1 | apply bA_ | apply bB_ | apply bC_)) : w.heap.size ≤ gb101)); have n3_ := n2_; clear HB; have HB := n0_; have BK101 := n1_; have GW101 := n2_; have GE101 := n3_; clear n0_ n1_ n2_ n3_ hb hbox hg; obtain ⟨hcz4_0, hcz4_1⟩ := kk2_ BK101.1; have hfz4_0 := bf_ BK101.out 0; have hfz4_1 := bf_ BK101.out 1) | ((with_reducible refine gate_callee (f := 99) rfl ?_); refine gl_ 7 Try.func99 #[.agg #[.int .i64 a0_0, .int .i64 a0_1], .slice none 0 0] ?_; (refine (impl_divided.calls k a0_0 a0_1 _ _ ([] : List Int) t102 t103 t104 t105 _ ?side1 ?side2 A2.out).mono ?_); (case side1 => exact Kd.C_nil _ _); (case side2 => exact Nat.le_refl _); rintro e w5 ⟨rfl, hb⟩; refine ⟨_, rfl, ?_⟩; have n0_ := A_ (blk_below (g := gb101) (o := .cells #[.int .i64 a0_0, .int .i64 a0_1] 25 (0, 0)) (by (with_reducible repeat first | refine cA_ ?_ _ | refine cB_ ?_ | refine cC_ ?_ _); exact BK101.1) hb); have n1_ := A_ (below_step (by repeat first | exact HB.1 | apply bA_ | apply bB_ | apply bC_ | refine below_set ?_ GE101.out) hb); clear BK101 HB; have BK101 := n0_; have HB := n1_; clear n0_ n1_; (try clear hb); (try clear hk)) | ((with_reducible refine gate_dst (N := 3) rfl ?_); refine box_event ?hg (N := 3) ?hd (cs := #[.int .i64 0, .int .i64 0, .int .i64 0]) (t := 27) ?hr ?_; (case hd => rfl); (case hg => rfl); (case hr => first | (go_simp; done) | (go_simp; rfl)); intro gb106 hg w6 hbox hb; have n0_ := A_ (blk_below (g := gb101) (o := .cells #[.int .i64 a0_0, .int .i64 a0_1] 25 (0, 0)) (by (with_reducible repeat first | refine cA_ ?_ _ | refine cB_ ?_ | refine cC_ ?_ _); exact BK101.1) hb); have n1_ := A_ (below_step (by repeat first | exact HB.1 | apply bA_ | apply bB_ | apply bC_ | refine below_set ?_ GE101.out) hb); have n2_ := A_ (hbox); have n3_ := A_ ((by rw [hg]; exact (below_size (by repeat first | exact HB.1 | apply bA_ | apply bB_ | apply bC_ | refine below_set ?_ GE101.out)) : w.heap.size ≤ gb106)); have n4_ := n3_; have n5_ := A_ ((by rw [hg]; exact Nat.ne_of_lt (blk_lt (g := gb101) (o := .cells #[.int .i64 a0_0, .int .i64 a0_1] 25 (0, 0)) (by (with_reducible repeat first | refine cA_ ?_ _ | refine cB_ ?_ | refine cC_ ?_ _); exact BK101.1)) : gb101 ≠ gb106)); have n6_ := A_ ((by rw [hg]; exact Nat.ne_of_gt (blk_lt (g := gb101) (o := .cells #[.int .i64 a0_0, .int .i64 a0_1] 25 (0, 0)) (by (with_reducible repeat first | refine cA_ ?_ _ | refine cB_ ?_ | refine cC_ ?_ _); exact BK101.1)) : gb106 ≠ gb101)); clear BK101 HB; have BK101 := n0_; have HB := n1_; have BK106 := n2_; have GW106 := n3_; have GE106 := n4_; have NB101_106 := n5_; have NB106_101 := n6_; clear n0_ n1_ n2_ n3_ n4_ n5_ n6_ hb hbox hg; have hnb7 := NB106_101.out; have hnc7 := NB101_106.out; obtain ⟨hcz8_0, hcz8_1, hcz8_2⟩ := kk3_ BK106.1; have hfz8_0 := bf_ BK106.out 0; have hfz8_1 := bf_ BK106.out 1; have hfz8_2 := bf_ BK106.out 2))
 go_ret
 exact ⟨by first | rfl | (simp [errW_none, errW_some] <;> rfl) | (simp [*, errW_none, errW_some] <;> rfl), by repeat (first | (with_reducible first | exact HB.out | apply below_alloc | apply pw_below_drewN | apply below_drew1 | refine below_set ?_ GE101.out | refine below_set ?_ GE106.out) | exact HB.out)⟩

def impl_DivideMaze.f (k : Nat) (a0_0 : Int) (a0_1 : Int) (l1 : List Int) : Option (Int × Int × Int) := (impl_divided.f k a0_0 a0_1 l1).bind fun bt103 => (some (bt103.1, bt103.2.1, bt103.2.2.1))
set_option maxHeartbeats 8000000 in
set_option maxRecDepth 100000 in
theorem impl_DivideMaze.calls (k : Nat) (a0_0 : Int) (a0_1 : Int) (A1 : Option Addr) (c1 : Nat) (l1 : List Int) (r1 : Int) (r2 : Int) (r3 : Int) (w : World) (hr1 : Kd.C (Kd.int .i64) w A1 l1.length l1) (hc1 : l1.length ≤ c1) (h : impl_DivideMaze.f k a0_0 a0_1 l1 = some (r1, r2, r3)) :
  Calls Try.prog 43 #[.agg #[.int .i64 a0_0, .int .i64 a0_1], .slice A1 l1.length c1] w fun e w' => e = .returned (.agg #[.int .i64 r1, .int .i64 r2, .int .i64 r3]) ∧ Below w.heap.size w w' := by
 have hu25 := Try.underlying25
 have hu27 := Try.underlying27
 have HR1 := A_ hr1
 have HC1 := A_ hc1
 clear hr1 hc1
 have HB := A_ (Below.refl w.heap.size w)
 have H : ((impl_divided.f k a0_0 a0_1 l1).bind fun bt103 => (some (bt103.1, bt103.2.1, bt103.2.2.1))) = some (r1, r2, r3) := h
 clear h
 obtain ⟨⟨t103, t104, t105, t106⟩, A30, H⟩ := oB_ H
 (try dsimp only at H); have A3 := A_ A30; clear A30
 simp only [Option.some.injEq, Prod.mk.injEq] at H
 obtain ⟨rfl, rfl, rfl⟩ := H
 go_enter Try.func43, Try.ntmps43
 go_wp2_with (first | ((with_reducible refine gate_dst (N := 2) rfl ?_); refine box_event ?hg (N := 2) ?hd (cs := #[.int .i64 a0_0, .int .i64 a0_1]) (t := 25) ?hr ?_; (case hd => rfl); (case hg => rfl); (case hr => first | (go_simp; done) | (go_simp; rfl)); intro gb101 hg w4 hbox hb; have n0_ := A_ (below_step (by repeat first | exact HB.1 | apply bA_ | apply bB_ | apply bC_) hb); have n1_ := A_ (hbox); have n2_ := A_ ((by rw [hg]; exact (below_size (by repeat first | exact HB.1 | apply bA_ | apply bB_ | apply bC_)) : w.heap.size ≤ gb101)); have n3_ := n2_; clear HB; have HB := n0_; have BK101 := n1_; have GW101 := n2_; have GE101 := n3_; clear n0_ n1_ n2_ n3_ hb hbox hg) | ((with_reducible refine gate_dst (N := 4) rfl ?_); refine box_event ?hg (N := 4) ?hd (cs := #[.int .i64 0, .int .i64 0, .int .i64 0]) (t := 27) ?hr ?_; (case hd => rfl); (case hg => rfl); (case hr => first | (go_simp; done) | (go_simp; rfl)); intro gb102 hg w5 hbox hb; have n0_ := A_ (blk_below (g := gb101) (o := .cells #[.int .i64 a0_0, .int .i64 a0_1] 25 (0, 0)) (by (with_reducible repeat first | refine cA_ ?_ _ | refine cB_ ?_ | refine cC_ ?_ _); exact BK101.1) hb); have n1_ := A_ (below_step (by repeat first | exact HB.1 | apply bA_ | apply bB_ | apply bC_ | refine below_set ?_ GE101.out) hb); have n2_ := A_ (hbox); have n3_ := A_ ((by rw [hg]; exact (below_size (by repeat first | exact HB.1 | apply bA_ | apply bB_ | apply bC_ | refine below_set ?_ GE101.out)) : w.heap.size ≤ gb102)); have n4_ := n3_; have n5_ := A_ ((by rw [hg]; exact Nat.ne_of_lt (blk_lt (g := gb101) (o := .cells #[.int .i64 a0_0, .int .i64 a0_1] 25 (0, 0)) (by (with_reducible repeat first | refine cA_ ?_ _ | refine cB_ ?_ | refine cC_ ?_ _); exact BK101.1)) : gb101 ≠ gb102)); have n6_ := A_ ((by rw [hg]; exact Nat.ne_of_gt (blk_lt (g := gb101) (o := .cells #[.int .i64 a0_0, .int .i64 a0_1] 25 (0, 0)) (by (with_reducible repeat first | refine cA_ ?_ _ | refine cB_ ?_ | refine cC_ ?_ _); exact BK101.1)) : gb102 ≠ gb101)); clear BK101 HB; have BK101 := n0_; have HB := n1_; have BK102 := n2_; have GW102 := n3_; have GE102 := n4_; have NB101_102 := n5_; have NB102_101 := n6_; clear n0_ n1_ n2_ n3_ n4_ n5_ n6_ hb hbox hg; have hnb6 := NB101_102.out; have hnc6 := NB102_101.out; obtain ⟨hcz7_0, hcz7_1⟩ := kk2_ BK101.1; have hfz7_0 := bf_ BK101.out 0; have hfz7_1 := bf_ BK101.out 1) | ((with_reducible refine gate_callee (f := 99) rfl ?_); refine gl_ 10 Try.func99 #[.agg #[.int .i64 a0_0, .int .i64 a0_1], .slice A1 l1.length c1] ?_; (with_reducible refine (impl_divided.calls k a0_0 a0_1 _ _ l1 t103 t104 t105 t106 _ ?side1 ?side2 A3.out).mono ?_); (case side1 => repeat (first | exact (Kd.C_below HR1.out HB.out) | (with_reducible refine Kd.C_alloc ?_ _) | (with_reducible refine Kd.C_drewN ?_ _) | (with_reducible refine Kd.C_drew ?_))); (case side2 => exact HC1.out); rintro e w8 ⟨rfl, hb⟩; refine ⟨_, rfl, ?_⟩; have n0_ := A_ (blk_below (g := gb101) (o := .cells #[.int .i64 a0_0, .int .i64 a0_1] 25 (0, 0)) (by (with_reducible repeat first | refine cA_ ?_ _ | refine cB_ ?_ | refine cC_ ?_ _); exact BK101.1) hb); have n1_ := A_ (blk_below (g := gb102) (o := .cells #[.int .i64 0, .int .i64 0, .int .i64 0] 27 (0, 0)) (by (with_reducible repeat first | refine cA_ ?_ _ | refine cB_ ?_ | refine cC_ ?_ _); exact BK102.1) hb); have n2_ := A_ (below_step (by repeat first | exact HB.1 | apply bA_ | apply bB_ | apply bC_ | refine below_set ?_ GE101.out | refine below_set ?_ GE102.out) hb); clear BK101 BK102 HB; have BK101 := n0_; have BK102 := n1_; have HB := n2_; clear n0_ n1_ n2_; (try clear hb); (try clear hk)) | ((with_reducible refine gate_dst (N := 5) rfl ?_); refine box_event ?hg (N := 5) ?hd (cs := #[.int .i64 0, .int .i64 0, .int .i64 0]) (t := 27) ?hr ?_; (case hd => rfl); (case hg => rfl); (case hr => first | (go_simp; done) | (go_simp; rfl)); intro gb107 hg w9 hbox hb; have n0_ := A_ (blk_below (g := gb101) (o := .cells #[.int .i64 a0_0, .int .i64 a0_1] 25 (0, 0)) (by (with_reducible repeat first | refine cA_ ?_ _ | refine cB_ ?_ | refine cC_ ?_ _); exact BK101.1) hb); have n1_ := A_ (blk_below (g := gb102) (o := .cells #[.int .i64 0, .int .i64 0, .int .i64 0] 27 (0, 0)) (by (with_reducible repeat first | refine cA_ ?_ _ | refine cB_ ?_ | refine cC_ ?_ _); exact BK102.1) hb); have n2_ := A_ (below_step (by repeat first | exact HB.1 | apply bA_ | apply bB_ | apply bC_ | refine below_set ?_ GE101.out | refine below_set ?_ GE102.out) hb); have n3_ := A_ (hbox); have n4_ := A_ ((by rw [hg]; exact (below_size (by repeat first | exact HB.1 | apply bA_ | apply bB_ | apply bC_ | refine below_set ?_ GE101.out | refine below_set ?_ GE102.out)) : w.heap.size ≤ gb107)); have n5_ := n4_; have n6_ := A_ ((by rw [hg]; exact Nat.ne_of_lt (blk_lt (g := gb101) (o := .cells #[.int .i64 a0_0, .int .i64 a0_1] 25 (0, 0)) (by (with_reducible repeat first | refine cA_ ?_ _ | refine cB_ ?_ | refine cC_ ?_ _); exact BK101.1)) : gb101 ≠ gb107)); have n7_ := A_ ((by rw [hg]; exact Nat.ne_of_gt (blk_lt (g := gb101) (o := .cells #[.int .i64 a0_0, .int .i64 a0_1] 25 (0, 0)) (by (with_reducible repeat first | refine cA_ ?_ _ | refine cB_ ?_ | refine cC_ ?_ _); exact BK101.1)) : gb107 ≠ gb101)); have n8_ := A_ ((by rw [hg]; exact Nat.ne_of_lt (blk_lt (g := gb102) (o := .cells #[.int .i64 0, .int .i64 0, .int .i64 0] 27 (0, 0)) (by (with_reducible repeat first | refine cA_ ?_ _ | refine cB_ ?_ | refine cC_ ?_ _); exact BK102.1)) : gb102 ≠ gb107)); have n9_ := A_ ((by rw [hg]; exact Nat.ne_of_gt (blk_lt (g := gb102) (o := .cells #[.int .i64 0, .int .i64 0, .int .i64 0] 27 (0, 0)) (by (with_reducible repeat first | refine cA_ ?_ _ | refine cB_ ?_ | refine cC_ ?_ _); exact BK102.1)) : gb107 ≠ gb102)); clear BK101 BK102 HB; have BK101 := n0_; have BK102 := n1_; have HB := n2_; have BK107 := n3_; have GW107 := n4_; have GE107 := n5_; have NB101_107 := n6_; have NB107_101 := n7_; have NB102_107 := n8_; have NB107_102 := n9_; clear n0_ n1_ n2_ n3_ n4_ n5_ n6_ n7_ n8_ n9_ hb hbox hg; have hnb10 := NB107_101.out; have hnc10 := NB101_107.out; have hnb11 := NB107_102.out; have hnc11 := NB102_107.out; obtain ⟨hcz12_0, hcz12_1, hcz12_2⟩ := kk3_ BK107.1; have hfz12_0 := bf_ BK107.out 0; have hfz12_1 := bf_ BK107.out 1; have hfz12_2 := bf_ BK107.out 2; obtain ⟨hcz13_0, hcz13_1, hcz13_2⟩ := kk3_ BK102.1; have hfz13_0 := bf_ BK102.out 0; have hfz13_1 := bf_ BK102.out 1; have hfz13_2 := bf_ BK102.out 2))
 refine bodyPost_ret (results_cell_row rfl _ _ gb102 27 #[.int .i64 t103, .int .i64 t104, .int .i64 t105] (0, 0) _ rfl (by (with_reducible repeat (first | refine blk_drewN ?_ _ | refine blk_drew ?_ | refine blk_alloc ?_ _)); refine blk_put (cs := #[.int .i64 t103, .int .i64 t104, .int .i64 0]) ?_ 2 _ rfl; (with_reducible repeat (first | refine blk_drewN ?_ _ | refine blk_drew ?_ | refine blk_alloc ?_ _)); refine blk_put (cs := #[.int .i64 t103, .int .i64 0, .int .i64 0]) ?_ 1 _ rfl; (with_reducible repeat (first | refine blk_drewN ?_ _ | refine blk_drew ?_ | refine blk_alloc ?_ _)); refine blk_put (cs := #[.int .i64 0, .int .i64 0, .int .i64 0]) ?_ 0 _ rfl; (with_reducible repeat (first | refine blk_drewN ?_ _ | refine blk_drew ?_ | refine blk_alloc ?_ _)); refine blk_far ?_ NB102_107.out _; (with_reducible repeat (first | refine blk_drewN ?_ _ | refine blk_drew ?_ | refine blk_alloc ?_ _)); refine blk_far ?_ NB102_107.out _; (with_reducible repeat (first | refine blk_drewN ?_ _ | refine blk_drew ?_ | refine blk_alloc ?_ _)); refine blk_far ?_ NB102_107.out _; (with_reducible repeat (first | refine blk_drewN ?_ _ | refine blk_drew ?_ | refine blk_alloc ?_ _)); exact BK102.out) Try.underlying27 rfl (by kernel_rfl)) rfl ?_
 exact ⟨by first | rfl | (simp [errW_none, errW_some] <;> rfl) | (simp [*, errW_none, errW_some] <;> rfl), by repeat (first | (with_reducible first | exact HB.out | apply below_alloc | apply pw_below_drewN | apply below_drew1 | refine below_set ?_ GE101.out | refine below_set ?_ GE102.out | refine below_set ?_ GE107.out) | exact HB.out)⟩

def IsS115 (w0 W : World) (g : Nat) (f0 : List Int) (f1 : Int) (f2 : Int) : Prop := ∃ A0 c0, W.heap[g]? = some (.cells #[.slice A0 f0.length c0, .int .i64 f1, .int .i64 f2] 115 (0, 0)) ∧ w0.heap.size ≤ g ∧ Kd.C (Kd.int .u8) w0 A0 f0.length f0
theorem IsS115.grown {w0 W : World} {g : Nat} {f0 : List Int} {f1 : Int} {f2 : Int} {W1 : World} {row : Option Nat} (h : IsS115 w0 W g f0 f1 f2) (hw : W.grownBy W1 row) (hne : some g ≠ row) : IsS115 w0 W1 g f0 f1 f2 := by
 obtain ⟨A0, c0, hb, hg, hr0⟩ := h
 exact ⟨A0, c0, blk_grown hb hw hne, hg, hr0⟩
theorem IsS115.kept {w0 W : World} {g : Nat} {f0 : List Int} {f1 : Int} {f2 : Int} {W1 : World} {S : Nat → Prop} (h : IsS115 w0 W g f0 f1 f2) (hk : Kept W W1 S) (hne : ¬ S g) : IsS115 w0 W1 g f0 f1 f2 := by
 obtain ⟨A0, c0, hb, hg, hr0⟩ := h
 exact ⟨A0, c0, blk_kept hb hk hne, hg, hr0⟩
theorem IsS115.below {w0 W : World} {g : Nat} {f0 : List Int} {f1 : Int} {f2 : Int} {W1 : World} (h : IsS115 w0 W g f0 f1 f2) (hw : Below W.heap.size W W1) : IsS115 w0 W1 g f0 f1 f2 := h.grown (grown_of_below hw none) (by simp)
theorem IsS115.alloc {w0 W : World} {g : Nat} {f0 : List Int} {f1 : Int} {f2 : Int} (h : IsS115 w0 W g f0 f1 f2) (o : Obj) : IsS115 w0 (W.alloc o) g f0 f1 f2 := h.below (below_alloc (Below.refl _ _) o)
theorem IsS115.drewN {w0 W : World} {g : Nat} {f0 : List Int} {f1 : Int} {f2 : Int} (h : IsS115 w0 W g f0 f1 f2) (m : Nat) : IsS115 w0 (W.drewN m) g f0 f1 f2 := h
theorem IsS115.drew {w0 W : World} {g : Nat} {f0 : List Int} {f1 : Int} {f2 : Int} (h : IsS115 w0 W g f0 f1 f2) : IsS115 w0 W.drew g f0 f1 f2 := h
theorem IsS115.at_ {w0 W : World} {g : Nat} {f0 : List Int} {f1 : Int} {f2 : Int} {w' : World} {m : Nat} (hq : W.drewN m = w') (h : IsS115 w0 W g f0 f1 f2) : IsS115 w0 w' g f0 f1 f2 := by subst hq; exact IsS115.drewN h m
theorem IsS115.apart {w0 W : World} {g : Nat} {f0 : List Int} {f1 : Int} {f2 : Int} {α : Type} {d : Kd α} {e : Nat} {base : Nat} {ok : Nat → Prop} {v : Value} {xs : List α} (h : IsS115 w0 W g f0 f1 f2) (ho : d.R e W base ok v xs) (ht : ∀ q, q ∈ e :: d.E → q ≠ 115) : d.R e W base (fun k => ok k ∧ k ≠ g) v xs := by
 obtain ⟨A0, c0, hb, hg, hr0⟩ := h
 exact Kd.R_types ho hb ht
theorem IsS115.own_ne {w0 W : World} {g : Nat} {f0 : List Int} {f1 : Int} {f2 : Int} {α : Type} {d : Kd α} {e : Nat} {base : Nat} {ok : Nat → Prop} {v : Value} {xs : List α} (h : IsS115 w0 W g f0 f1 f2) (ho : d.R e W base ok v xs) (ht : e ≠ 115) : some g ≠ v.ownBlock := by
 obtain ⟨A0, c0, hb, hg, hr0⟩ := h
 exact Kd.R_ne ho hb ht
theorem IsS115.lt {w0 W : World} {g : Nat} {f0 : List Int} {f1 : Int} {f2 : Int} (h : IsS115 w0 W g f0 f1 f2) : g < W.heap.size := by
 obtain ⟨A0, c0, hb, hg, hr0⟩ := h
 exact blk_lt hb
theorem IsS115.ge {w0 W : World} {g : Nat} {f0 : List Int} {f1 : Int} {f2 : Int} (h : IsS115 w0 W g f0 f1 f2) : w0.heap.size ≤ g := by
 obtain ⟨A0, c0, hb, hg, hr0⟩ := h
 exact hg
theorem IsS115.ne_blk {w0 W : World} {g : Nat} {f0 : List Int} {f1 : Int} {f2 : Int} {a : Nat} {cs : Array Value} {t : TypeId} {fr : Nat × Nat} (h : IsS115 w0 W g f0 f1 f2) (hb2 : W.heap[a]? = some (.cells cs t fr)) (ht : t ≠ 115) : g ≠ a := by
 obtain ⟨A0, c0, hb, hg, hr0⟩ := h
 rintro rfl
 rw [hb] at hb2
 injection hb2 with hb2
 injection hb2 with _ ht2
 exact ht ht2.symm
theorem IsS115.far {w0 W : World} {g : Nat} {f0 : List Int} {f1 : Int} {f2 : Int} {p : Addr} (h : IsS115 w0 W g f0 f1 f2) (hne : g ≠ p.block) (u : Value) : IsS115 w0 (W.setCell p u) g f0 f1 f2 := by
 obtain ⟨A0, c0, hb, hg, hr0⟩ := h
 exact ⟨A0, c0, blk_far hb hne u, hg, hr0⟩
theorem cellS115_0 {W : World} {g : Nat} {A0 : Option Addr} {c0 : Nat} {f0 : List Int} {f1 : Int} {f2 : Int} (h : W.heap[g]? = some (.cells #[.slice A0 f0.length c0, .int .i64 f1, .int .i64 f2] 115 (0, 0))) : W.cell? ⟨g, 0, none⟩ = some (.slice A0 f0.length c0) := (blk_cell h 0).trans rfl
theorem cellS115_1 {W : World} {g : Nat} {A0 : Option Addr} {c0 : Nat} {f0 : List Int} {f1 : Int} {f2 : Int} (h : W.heap[g]? = some (.cells #[.slice A0 f0.length c0, .int .i64 f1, .int .i64 f2] 115 (0, 0))) : W.cell? ⟨g, 1, none⟩ = some (.int .i64 f1) := (blk_cell h 1).trans rfl
theorem IsS115.set_1 {w0 W : World} {g : Nat} {f0 : List Int} {f1 : Int} {f2 : Int} (h : IsS115 w0 W g f0 f1 f2) (x : Int) : IsS115 w0 (W.setCell ⟨g, 1, none⟩ (.int .i64 x)) g f0 x f2 := by
 obtain ⟨A0, c0, hb, hg, hr0⟩ := h
 exact ⟨A0, c0, by simpa using blk_set hb 1 (.int .i64 x), hg, hr0⟩
theorem cellS115_2 {W : World} {g : Nat} {A0 : Option Addr} {c0 : Nat} {f0 : List Int} {f1 : Int} {f2 : Int} (h : W.heap[g]? = some (.cells #[.slice A0 f0.length c0, .int .i64 f1, .int .i64 f2] 115 (0, 0))) : W.cell? ⟨g, 2, none⟩ = some (.int .i64 f2) := (blk_cell h 2).trans rfl
theorem IsS115.set_2 {w0 W : World} {g : Nat} {f0 : List Int} {f1 : Int} {f2 : Int} (h : IsS115 w0 W g f0 f1 f2) (x : Int) : IsS115 w0 (W.setCell ⟨g, 2, none⟩ (.int .i64 x)) g f0 f1 x := by
 obtain ⟨A0, c0, hb, hg, hr0⟩ := h
 exact ⟨A0, c0, by simpa using blk_set hb 2 (.int .i64 x), hg, hr0⟩
def spec_l01Byte.f (s0_0 : List Int) (s0_1 : Int) (s0_2 : Int) : Option (Int × Int × Int) := if s0_1 < (s0_0.length : Int) then (if 0 ≤ s0_1 then (some (Go.bits .and .i64 (wrap64 ((Go.bits .and .i64 (Go.bits .xor .i64 ((wrap64 ((wrap64 (s0_2 * 6364136223846793005)) + 1442695040888963407)) / 8589934592) ((wrap64 ((wrap64 (s0_2 * 6364136223846793005)) + 1442695040888963407)) / 35184372088832)) 255) + (wrap64 (rd s0_0 s0_1)))) 255, wrap64 (s0_1 + 1), wrap64 ((wrap64 (s0_2 * 6364136223846793005)) + 1442695040888963407))) else (none)) else (some (Go.bits .and .i64 (Go.bits .xor .i64 ((wrap64 ((wrap64 (s0_2 * 6364136223846793005)) + 1442695040888963407)) / 8589934592) ((wrap64 ((wrap64 (s0_2 * 6364136223846793005)) + 1442695040888963407)) / 35184372088832)) 255, s0_1, wrap64 ((wrap64 (s0_2 * 6364136223846793005)) + 1442695040888963407)))
set_option maxHeartbeats 8000000 in
set_option maxRecDepth 100000 in
theorem spec_l01Byte.calls (g : Nat) (s0_0 : List Int) (s0_1 : Int) (s0_2 : Int) (r1 : Int) (r2 : Int) (r3 : Int) (w0 w : World) (hI : IsS115 w0 w g s0_0 s0_1 s0_2) (hB : Below w0.heap.size w0 w) (h : spec_l01Byte.f s0_0 s0_1 s0_2 = some (r1, r2, r3)) :
  Calls Try.prog 156 #[.pointer (some ⟨g, 0, none⟩)] w fun e w' => e = .returned (.int .i64 r1) ∧ IsS115 w0 w' g s0_0 r2 r3 ∧ Below w0.heap.size w0 w' ∧ KeepBut w w' g none := by
 have HI0 := A_ hI
 have HK := A_ (KeepBut.refl w g none)
 have HL := A_ hB.size
 clear hI
 have HW0 := A_ hB.size
 have HB := A_ hB
 clear hB
 have H : (if s0_1 < (s0_0.length : Int) then (if 0 ≤ s0_1 then (some (Go.bits .and .i64 (wrap64 ((Go.bits .and .i64 (Go.bits .xor .i64 ((wrap64 ((wrap64 (s0_2 * 6364136223846793005)) + 1442695040888963407)) / 8589934592) ((wrap64 ((wrap64 (s0_2 * 6364136223846793005)) + 1442695040888963407)) / 35184372088832)) 255) + (wrap64 (rd s0_0 s0_1)))) 255, wrap64 (s0_1 + 1), wrap64 ((wrap64 (s0_2 * 6364136223846793005)) + 1442695040888963407))) else (none)) else (some (Go.bits .and .i64 (Go.bits .xor .i64 ((wrap64 ((wrap64 (s0_2 * 6364136223846793005)) + 1442695040888963407)) / 8589934592) ((wrap64 ((wrap64 (s0_2 * 6364136223846793005)) + 1442695040888963407)) / 35184372088832)) 255, s0_1, wrap64 ((wrap64 (s0_2 * 6364136223846793005)) + 1442695040888963407)))) = some (r1, r2, r3) := h
 clear h
 by_cases c2 : s0_1 < (s0_0.length : Int)
 ·rw [if_pos c2] at H
  have c2b0 : decide (s0_1 < (s0_0.length : Int)) = true := decide_eq_true c2
  clear c2
  replace H := iN_ H; obtain ⟨c3, H⟩ := H
  have c3b0 : decide (0 ≤ s0_1) = true := decide_eq_true c3
  clear c3
  simp only [Option.some.injEq, Prod.mk.injEq] at H
  obtain ⟨rfl, rfl, rfl⟩ := H
  obtain ⟨ASz4_0, cSz4_0, HGz4, hgz4, HSz4_0⟩ := HI0.out
  have hcz4_0 := cellS115_0 HGz4
  have hcz4_1 := cellS115_1 HGz4
  have hcz4_2 := cellS115_2 HGz4
  have hfz4_1 := bf_ HGz4 1
  have hfz4_2 := bf_ HGz4 2
  clear HGz4 hgz4
  have p101 : 0 ≤ (s0_1 : Int) := of_decide_eq_true (by first | (with_reducible assumption) | assumption)
  have q101 : s0_1 < (s0_0.length : Int) := of_decide_eq_true (by first | (with_reducible assumption) | assumption)
  obtain ⟨ad101, e101, hx101_0⟩ := Kd.at_int HSz4_0 s0_1 p101 q101
  cases e101
  have hn101_0 : ad101.block ≠ g := Nat.ne_of_lt (Nat.lt_of_lt_of_le (by have := World.block_lt_of_cell? _ _ hx101_0; first | rwa [add_block] at this | exact this) (IsS115.ge HI0.out))
  replace hx101_0 := pw_cell_below HB.out hx101_0
  replace hx101_0 := (cell_far (p := ⟨g, 2, none⟩) (by first | (rw [add_block]; exact hn101_0) | (show (Addr.add _ _).block ≠ _; rw [add_block]; exact hn101_0) | exact hn101_0) (.int .i64 (wrap64 ((wrap64 (s0_2 * 6364136223846793005)) + 1442695040888963407)))).trans hx101_0
  (try have hy101_0 := fun (n_ : Nat) => (show (((w.drewN n_).setCell ⟨g, 2, none⟩ (.int .i64 (wrap64 ((wrap64 (s0_2 * 6364136223846793005)) + 1442695040888963407))))).cell? _ = some _ from hx101_0))
  clear hn101_0; replace p101 := eq_true p101; replace q101 := eq_true q101
  go_enter Try.func156, Try.ntmps156
  go_wp2
  repeat (go_quiet (fail); try go_wp2)
  go_ret
  exact ⟨by first | rfl | (simp [errW_none, errW_some] <;> rfl) | (simp [*, errW_none, errW_some] <;> rfl), by repeat (first | (with_reducible first | exact HI0.out | apply IsS115.alloc | apply IsS115.drewN | apply IsS115.drew | apply IsS115.set_1 | apply IsS115.set_2) | exact HI0.out), by repeat (first | (with_reducible first | exact HB.out | apply below_alloc | apply pw_below_drewN | apply below_drew1 | refine below_set ?_ (IsS115.ge HI0.out)) | exact HB.out), by repeat (first | (with_reducible first | exact HK.out | apply KeepBut.set_ | apply keep_drewN | apply keep_drew | apply keep_alloc) | exact HK.out)⟩
 ·rw [if_neg c2] at H
  have c2b0 : decide (s0_1 < (s0_0.length : Int)) = false := decide_eq_false c2
  clear c2
  simp only [Option.some.injEq, Prod.mk.injEq] at H
  obtain ⟨rfl, rfl, rfl⟩ := H
  obtain ⟨ASz5_0, cSz5_0, HGz5, hgz5, HSz5_0⟩ := HI0.out
  have hcz5_0 := cellS115_0 HGz5
  have hcz5_1 := cellS115_1 HGz5
  have hcz5_2 := cellS115_2 HGz5
  have hfz5_1 := bf_ HGz5 1
  have hfz5_2 := bf_ HGz5 2
  clear HGz5 hgz5
  go_enter Try.func156, Try.ntmps156
  go_wp2
  repeat (go_quiet (fail); try go_wp2)
  go_ret
  exact ⟨by first | rfl | (simp [errW_none, errW_some] <;> rfl) | (simp [*, errW_none, errW_some] <;> rfl), by repeat (first | (with_reducible first | exact HI0.out | apply IsS115.alloc | apply IsS115.drewN | apply IsS115.drew | apply IsS115.set_1 | apply IsS115.set_2) | exact HI0.out), by repeat (first | (with_reducible first | exact HB.out | apply below_alloc | apply pw_below_drewN | apply below_drew1 | refine below_set ?_ (IsS115.ge HI0.out)) | exact HB.out), by repeat (first | (with_reducible first | exact HK.out | apply KeepBut.set_ | apply keep_drewN | apply keep_drew | apply keep_alloc) | exact HK.out)⟩

def spec_l01Below.f (s0_0 : List Int) (s0_1 : Int) (s0_2 : Int) (a1 : Int) : Option (Int × Int × Int) := if a1 ≤ 0 then (some (0, s0_1, s0_2)) else (if a1 ≤ 256 then ((spec_l01Byte.f s0_0 s0_1 s0_2).bind fun bt101 => (if a1 = 0 then (none) else (some (Int.tmod bt101.1 a1, bt101.2.1, bt101.2.2)))) else ((spec_l01Byte.f s0_0 s0_1 s0_2).bind fun bt104 => ((spec_l01Byte.f s0_0 bt104.2.1 bt104.2.2).bind fun bt107 => ((spec_l01Byte.f s0_0 bt107.2.1 bt107.2.2).bind fun bt110 => ((spec_l01Byte.f s0_0 bt110.2.1 bt110.2.2).bind fun bt113 => (if a1 = 0 then (none) else (some (Int.tmod (wrap64 ((wrap64 ((wrap64 ((wrap64 (bt104.1 * 16777216)) + (wrap64 (bt107.1 * 65536)))) + (wrap64 (bt110.1 * 256)))) + bt113.1)) a1, bt113.2.1, bt113.2.2))))))))
set_option maxHeartbeats 8000000 in
set_option maxRecDepth 100000 in
theorem spec_l01Below.calls (g : Nat) (s0_0 : List Int) (s0_1 : Int) (s0_2 : Int) (a1 : Int) (r1 : Int) (r2 : Int) (r3 : Int) (w0 w : World) (hI : IsS115 w0 w g s0_0 s0_1 s0_2) (hB : Below w0.heap.size w0 w) (h : spec_l01Below.f s0_0 s0_1 s0_2 a1 = some (r1, r2, r3)) :
  Calls Try.prog 126 #[.pointer (some ⟨g, 0, none⟩), .int .i64 a1] w fun e w' => e = .returned (.int .i64 r1) ∧ IsS115 w0 w' g s0_0 r2 r3 ∧ Below w0.heap.size w0 w' ∧ KeepBut w w' g none := by
 have HI0 := A_ hI
 have HK := A_ (KeepBut.refl w g none)
 have HL := A_ hB.size
 clear hI
 have HW0 := A_ hB.size
 have HB := A_ hB
 clear hB
 have H : (if a1 ≤ 0 then (some (0, s0_1, s0_2)) else (if a1 ≤ 256 then ((spec_l01Byte.f s0_0 s0_1 s0_2).bind fun bt101 => (if a1 = 0 then (none) else (some (Int.tmod bt101.1 a1, bt101.2.1, bt101.2.2)))) else ((spec_l01Byte.f s0_0 s0_1 s0_2).bind fun bt104 => ((spec_l01Byte.f s0_0 bt104.2.1 bt104.2.2).bind fun bt107 => ((spec_l01Byte.f s0_0 bt107.2.1 bt107.2.2).bind fun bt110 => ((spec_l01Byte.f s0_0 bt110.2.1 bt110.2.2).bind fun bt113 => (if a1 = 0 then (none) else (some (Int.tmod (wrap64 ((wrap64 ((wrap64 ((wrap64 (bt104.1 * 16777216)) + (wrap64 (bt107.1 * 65536)))) + (wrap64 (bt110.1 * 256)))) + bt113.1)) a1, bt113.2.1, bt113.2.2))))))))) = some (r1, r2, r3) := h
 clear h
 by_cases c3 : a1 ≤ 0
 ·rw [if_pos c3] at H
  have c3b0 : decide (a1 ≤ 0) = true := decide_eq_true c3
  clear c3
  simp only [Option.some.injEq, Prod.mk.injEq] at H
  obtain ⟨rfl, rfl, rfl⟩ := H
  go_enter Try.func126, Try.ntmps126
  go_wp2
  go_ret
  exact ⟨by first | rfl | (simp [errW_none, errW_some] <;> rfl) | (simp [*, errW_none, errW_some] <;> rfl), by repeat (first | (with_reducible first | exact HI0.out | apply IsS115.alloc | apply IsS115.drewN | apply IsS115.drew | apply IsS115.set_1 | apply IsS115.set_2) | exact HI0.out), by repeat (first | (with_reducible first | exact HB.out | apply below_alloc | apply pw_below_drewN | apply below_drew1 | refine below_set ?_ (IsS115.ge HI0.out)) | exact HB.out), by repeat (first | (with_reducible first | exact HK.out | apply KeepBut.set_ | apply keep_drewN | apply keep_drew | apply keep_alloc) | exact HK.out)⟩
 ·rw [if_neg c3] at H
  have c3b0 : decide (a1 ≤ 0) = false := decide_eq_false c3
  clear c3
  by_cases c4 : a1 ≤ 256
  ·rw [if_pos c4] at H
   have c4b0 : decide (a1 ≤ 256) = true := decide_eq_true c4
   clear c4
   obtain ⟨⟨t101, t102, t103⟩, A50, H⟩ := oB_ H
   (try dsimp only at H); have A5 := A_ A50; clear A50
   by_cases c6 : a1 = 0
   ·rw [if_pos c6] at H
    exact absurd H (by simp)
   ·rw [if_neg c6] at H
    have c6b0 : (a1 == 0) = false := beq_eq_false_iff_ne.mpr c6
    have c6b1 : (a1 != 0) = true := bne_iff_ne.mpr c6
    simp only [Option.some.injEq, Prod.mk.injEq] at H
    obtain ⟨rfl, rfl, rfl⟩ := H
    go_enter Try.func126, Try.ntmps126
    go_wp2_with (first | ((with_reducible refine gate_callee (f := 156) rfl ?_); refine gl_ 14 Try.func156 #[.pointer (some ⟨g, 0, none⟩)] ?_; (with_reducible refine (spec_l01Byte.calls g s0_0 s0_1 s0_2 t101 t102 t103 w0 _ ?side1 ?side2 A5.out).mono ?_); (case side1 => repeat (first | (with_reducible first | exact HI0.out | apply IsS115.alloc | apply IsS115.drewN | apply IsS115.drew | apply IsS115.set_1 | apply IsS115.set_2) | exact HI0.out)); (case side2 => repeat (first | (with_reducible first | exact HB.out | apply below_alloc | apply pw_below_drewN | apply below_drew1 | refine below_set ?_ (IsS115.ge HI0.out)) | exact HB.out)); rintro e w7 ⟨rfl, hi, hb, hk⟩; (try clear A5); refine ⟨_, rfl, ?_⟩; have n0_ := A_ (KeepBut.trans (by repeat first | exact HK.1 | apply KeepBut.set_ | apply keep_drewN | apply keep_drew | apply keep_alloc) hk (.inl rfl)); have n1_ := A_ (hb); have n2_ := A_ (hi); clear HK HB HI0; have HK := n0_; have HB := n1_; have HI0 := n2_; clear n0_ n1_ n2_; (try clear hb); (try clear hk)))
    go_ret
    exact ⟨by first | rfl | (simp [errW_none, errW_some] <;> rfl) | (simp [*, errW_none, errW_some] <;> rfl), by repeat (first | (with_reducible first | exact HI0.out | apply IsS115.alloc | apply IsS115.drewN | apply IsS115.drew | apply IsS115.set_1 | apply IsS115.set_2) | exact HI0.out), by repeat (first | (with_reducible first | exact HB.out | apply below_alloc | apply pw_below_drewN | apply below_drew1 | refine below_set ?_ (IsS115.ge HI0.out)) | exact HB.out), by repeat (first | (with_reducible first | exact HK.out | apply KeepBut.set_ | apply keep_drewN | apply keep_drew | apply keep_alloc) | exact HK.out)⟩
  ·rw [if_neg c4] at H
   have c4b0 : decide (a1 ≤ 256) = false := decide_eq_false c4
   clear c4
   obtain ⟨⟨t104, t105, t106⟩, A80, H⟩ := oB_ H
   (try dsimp only at H); have A8 := A_ A80; clear A80
   obtain ⟨⟨t107, t108, t109⟩, A90, H⟩ := oB_ H
   (try dsimp only at H); have A9 := A_ A90; clear A90
   obtain ⟨⟨t110, t111, t112⟩, A100, H⟩ := oB_ H
   (try dsimp only at H); have A10 := A_ A100; clear A100
   obtain ⟨⟨t113, t114, t115⟩, A110, H⟩ := oB_ H
   (try dsimp only at H); have A11 := A_ A110; clear A110
   by_cases c12 : a1 = 0
   ·rw [if_pos c12] at H
    exact absurd H (by simp)
   ·rw [if_neg c12] at H
    have c12b0 : (a1 == 0) = false := beq_eq_false_iff_ne.mpr c12
    have c12b1 : (a1 != 0) = true := bne_iff_ne.mpr c12
    simp only [Option.some.injEq, Prod.mk.injEq] at H
    obtain ⟨rfl, rfl, rfl⟩ := H
    go_enter Try.func126, Try.ntmps126
    go_wp2_with (first | ((with_reducible refine gate_callee (f := 156) rfl ?_); refine gl_ 18 Try.func156 #[.pointer (some ⟨g, 0, none⟩)] ?_; (with_reducible refine (spec_l01Byte.calls g s0_0 s0_1 s0_2 t104 t105 t106 w0 _ ?side1 ?side2 A8.out).mono ?_); (case side1 => repeat (first | (with_reducible first | exact HI0.out | apply IsS115.alloc | apply IsS115.drewN | apply IsS115.drew | apply IsS115.set_1 | apply IsS115.set_2) | exact HI0.out)); (case side2 => repeat (first | (with_reducible first | exact HB.out | apply below_alloc | apply pw_below_drewN | apply below_drew1 | refine below_set ?_ (IsS115.ge HI0.out)) | exact HB.out)); rintro e w13 ⟨rfl, hi, hb, hk⟩; (try clear A8); refine ⟨_, rfl, ?_⟩; have n0_ := A_ (KeepBut.trans (by repeat first | exact HK.1 | apply KeepBut.set_ | apply keep_drewN | apply keep_drew | apply keep_alloc) hk (.inl rfl)); have n1_ := A_ (hb); have n2_ := A_ (hi); clear HK HB HI0; have HK := n0_; have HB := n1_; have HI0 := n2_; clear n0_ n1_ n2_; (try clear hb); (try clear hk)) | ((with_reducible refine gate_callee (f := 156) rfl ?_); refine gl_ 20 Try.func156 #[.pointer (some ⟨g, 0, none⟩)] ?_; (with_reducible refine (spec_l01Byte.calls g s0_0 t105 t106 t107 t108 t109 w0 _ ?side1 ?side2 A9.out).mono ?_); (case side1 => repeat (first | (with_reducible first | exact HI0.out | apply IsS115.alloc | apply IsS115.drewN | apply IsS115.drew | apply IsS115.set_1 | apply IsS115.set_2) | exact HI0.out)); (case side2 => repeat (first | (with_reducible first | exact HB.out | apply below_alloc | apply pw_below_drewN | apply below_drew1 | refine below_set ?_ (IsS115.ge HI0.out)) | exact HB.out)); rintro e w14 ⟨rfl, hi, hb, hk⟩; (try clear A9); refine ⟨_, rfl, ?_⟩; have n0_ := A_ (KeepBut.trans (by repeat first | exact HK.1 | apply KeepBut.set_ | apply keep_drewN | apply keep_drew | apply keep_alloc) hk (.inl rfl)); have n1_ := A_ (hb); have n2_ := A_ (hi); clear HK HB HI0; have HK := n0_; have HB := n1_; have HI0 := n2_; clear n0_ n1_ n2_; (try clear hb); (try clear hk)) | ((with_reducible refine gate_callee (f := 156) rfl ?_); refine gl_ 22 Try.func156 #[.pointer (some ⟨g, 0, none⟩)] ?_; (with_reducible refine (spec_l01Byte.calls g s0_0 t108 t109 t110 t111 t112 w0 _ ?side1 ?side2 A10.out).mono ?_); (case side1 => repeat (first | (with_reducible first | exact HI0.out | apply IsS115.alloc | apply IsS115.drewN | apply IsS115.drew | apply IsS115.set_1 | apply IsS115.set_2) | exact HI0.out)); (case side2 => repeat (first | (with_reducible first | exact HB.out | apply below_alloc | apply pw_below_drewN | apply below_drew1 | refine below_set ?_ (IsS115.ge HI0.out)) | exact HB.out)); rintro e w15 ⟨rfl, hi, hb, hk⟩; (try clear A10); refine ⟨_, rfl, ?_⟩; have n0_ := A_ (KeepBut.trans (by repeat first | exact HK.1 | apply KeepBut.set_ | apply keep_drewN | apply keep_drew | apply keep_alloc) hk (.inl rfl)); have n1_ := A_ (hb); have n2_ := A_ (hi); clear HK HB HI0; have HK := n0_; have HB := n1_; have HI0 := n2_; clear n0_ n1_ n2_; (try clear hb); (try clear hk)) | ((with_reducible refine gate_callee (f := 156) rfl ?_); refine gl_ 24 Try.func156 #[.pointer (some ⟨g, 0, none⟩)] ?_; (with_reducible refine (spec_l01Byte.calls g s0_0 t111 t112 t113 t114 t115 w0 _ ?side1 ?side2 A11.out).mono ?_); (case side1 => repeat (first | (with_reducible first | exact HI0.out | apply IsS115.alloc | apply IsS115.drewN | apply IsS115.drew | apply IsS115.set_1 | apply IsS115.set_2) | exact HI0.out)); (case side2 => repeat (first | (with_reducible first | exact HB.out | apply below_alloc | apply pw_below_drewN | apply below_drew1 | refine below_set ?_ (IsS115.ge HI0.out)) | exact HB.out)); rintro e w16 ⟨rfl, hi, hb, hk⟩; (try clear A11); refine ⟨_, rfl, ?_⟩; have n0_ := A_ (KeepBut.trans (by repeat first | exact HK.1 | apply KeepBut.set_ | apply keep_drewN | apply keep_drew | apply keep_alloc) hk (.inl rfl)); have n1_ := A_ (hb); have n2_ := A_ (hi); clear HK HB HI0; have HK := n0_; have HB := n1_; have HI0 := n2_; clear n0_ n1_ n2_; (try clear hb); (try clear hk)))
    go_ret
    exact ⟨by first | rfl | (simp [errW_none, errW_some] <;> rfl) | (simp [*, errW_none, errW_some] <;> rfl), by repeat (first | (with_reducible first | exact HI0.out | apply IsS115.alloc | apply IsS115.drewN | apply IsS115.drew | apply IsS115.set_1 | apply IsS115.set_2) | exact HI0.out), by repeat (first | (with_reducible first | exact HB.out | apply below_alloc | apply pw_below_drewN | apply below_drew1 | refine below_set ?_ (IsS115.ge HI0.out)) | exact HB.out), by repeat (first | (with_reducible first | exact HK.out | apply KeepBut.set_ | apply keep_drewN | apply keep_drew | apply keep_alloc) | exact HK.out)⟩

def spec_l01PickInt.f (s0_0 : List Int) (s0_1 : Int) (s0_2 : Int) (l1 : List Int) : Option (Int × Int × Int) := (spec_l01Below.f s0_0 s0_1 s0_2 (l1.length : Int)).bind fun bt101 => (if 0 ≤ bt101.1 then (if bt101.1 < (l1.length : Int) then (some (rd l1 bt101.1, bt101.2.1, bt101.2.2)) else (none)) else (none))
set_option maxHeartbeats 8000000 in
set_option maxRecDepth 100000 in
theorem spec_l01PickInt.calls (g : Nat) (s0_0 : List Int) (s0_1 : Int) (s0_2 : Int) (A1 : Option Addr) (c1 : Nat) (l1 : List Int) (r1 : Int) (r2 : Int) (r3 : Int) (w0 w : World) (hI : IsS115 w0 w g s0_0 s0_1 s0_2) (hB : Below w0.heap.size w0 w) (hr1 : Kd.C (Kd.int .i64) w A1 l1.length l1) (hc1 : l1.length ≤ c1) (hf1 : ∀ ad, A1 = some ad → 0 < l1.length → ad.block ≠ g) (h : spec_l01PickInt.f s0_0 s0_1 s0_2 l1 = some (r1, r2, r3)) :
  Calls Try.prog 150 #[.pointer (some ⟨g, 0, none⟩), .slice A1 l1.length c1] w fun e w' => e = .returned (.int .i64 r1) ∧ IsS115 w0 w' g s0_0 r2 r3 ∧ Below w0.heap.size w0 w' ∧ KeepBut w w' g none := by
 have HR1 := A_ hr1
 have HC1 := A_ hc1
 clear hr1 hc1
 have HI0 := A_ hI
 have HK := A_ (KeepBut.refl w g none)
 have HL := A_ hB.size
 clear hI
 have HW0 := A_ hB.size
 have HB := A_ hB
 clear hB
 have H : ((spec_l01Below.f s0_0 s0_1 s0_2 (l1.length : Int)).bind fun bt101 => (if 0 ≤ bt101.1 then (if bt101.1 < (l1.length : Int) then (some (rd l1 bt101.1, bt101.2.1, bt101.2.2)) else (none)) else (none))) = some (r1, r2, r3) := h
 clear h
 obtain ⟨⟨t101, t102, t103⟩, A30, H⟩ := oB_ H
 (try dsimp only at H); have A3 := A_ A30; clear A30
 replace H := iN_ H; obtain ⟨c4, H⟩ := H
 have c4b0 : decide (0 ≤ t101) = true := decide_eq_true c4
 clear c4
 replace H := iN_ H; obtain ⟨c5, H⟩ := H
 have c5b0 : decide (t101 < (l1.length : Int)) = true := decide_eq_true c5
 clear c5
 simp only [Option.some.injEq, Prod.mk.injEq] at H
 obtain ⟨rfl, rfl, rfl⟩ := H
 go_enter Try.func150, Try.ntmps150
 go_wp2_with (first | ((with_reducible refine gate_callee (f := 126) rfl ?_); refine gl_ 9 Try.func126 #[.pointer (some ⟨g, 0, none⟩), .int .i64 (l1.length : Int)] ?_; (with_reducible refine (spec_l01Below.calls g s0_0 s0_1 s0_2 (l1.length : Int) t101 t102 t103 w0 _ ?side1 ?side2 A3.out).mono ?_); (case side1 => repeat (first | (with_reducible first | exact HI0.out | apply IsS115.alloc | apply IsS115.drewN | apply IsS115.drew | apply IsS115.set_1 | apply IsS115.set_2) | exact HI0.out)); (case side2 => repeat (first | (with_reducible first | exact HB.out | apply below_alloc | apply pw_below_drewN | apply below_drew1 | refine below_set ?_ (IsS115.ge HI0.out)) | exact HB.out)); rintro e w6 ⟨rfl, hi, hb, hk⟩; refine ⟨_, rfl, ?_⟩; have n0_ := A_ (KeepBut.trans (by repeat first | exact HK.1 | apply KeepBut.set_ | apply keep_drewN | apply keep_drew | apply keep_alloc) hk (.inl rfl)); have n1_ := A_ (hb); have n2_ := A_ (hi); clear HK HB HI0; have HK := n0_; have HB := n1_; have HI0 := n2_; clear n0_ n1_ n2_; (try clear hb); (try clear hk); have p104 : 0 ≤ (t101 : Int) := of_decide_eq_true (by first | (with_reducible assumption) | assumption); have q104 : t101 < (l1.length : Int) := of_decide_eq_true (by first | (with_reducible assumption) | assumption); obtain ⟨ad104, e104, hx104_0⟩ := Kd.at_int HR1.out t101 p104 q104; cases e104; replace hx104_0 := keep_cell HK.out hx104_0 (by first | (rw [add_block]; exact hf1 _ rfl (by omega)) | exact hf1 _ rfl (by omega) | exact hf1 ad104 rfl (by omega)); replace p104 := eq_true p104; replace q104 := eq_true q104))
 go_ret
 exact ⟨by first | rfl | (simp [errW_none, errW_some] <;> rfl) | (simp [*, errW_none, errW_some] <;> rfl), by repeat (first | (with_reducible first | exact HI0.out | apply IsS115.alloc | apply IsS115.drewN | apply IsS115.drew | apply IsS115.set_1 | apply IsS115.set_2) | exact HI0.out), by repeat (first | (with_reducible first | exact HB.out | apply below_alloc | apply pw_below_drewN | apply below_drew1 | refine below_set ?_ (IsS115.ge HI0.out)) | exact HB.out), by repeat (first | (with_reducible first | exact HK.out | apply KeepBut.set_ | apply keep_drewN | apply keep_drew | apply keep_alloc) | exact HK.out)⟩

def spec_l02Grid.f (s0_0 : List Int) (s0_1 : Int) (s0_2 : Int) : Option (Int × Int × Int × Int) := (spec_l01PickInt.f s0_0 s0_1 s0_2 (([1, 2, 3, 3, 4] : List Int))).bind fun bt105 => ((spec_l01PickInt.f s0_0 bt105.2.1 bt105.2.2 (([1, 2, 3, 3, 4] : List Int))).bind fun bt111 => (some (bt105.1, bt111.1, bt111.2.1, bt111.2.2)))
set_option maxHeartbeats 8000000 in
set_option maxRecDepth 100000 in
theorem spec_l02Grid.calls (g : Nat) (s0_0 : List Int) (s0_1 : Int) (s0_2 : Int) (r1 : Int) (r2 : Int) (r3 : Int) (r4 : Int) (w0 w : World) (hI : IsS115 w0 w g s0_0 s0_1 s0_2) (hB : Below w0.heap.size w0 w) (h : spec_l02Grid.f s0_0 s0_1 s0_2 = some (r1, r2, r3, r4)) :
  Calls Try.prog 106 #[.pointer (some ⟨g, 0, none⟩)] w fun e w' => e = .returned (.agg #[.int .i64 r1, .int .i64 r2]) ∧ IsS115 w0 w' g s0_0 r3 r4 ∧ Below w0.heap.size w0 w' ∧ KeepBut w w' g none := by
 have hu25 := Try.underlying25
 have HI0 := A_ hI
 have HK := A_ (KeepBut.refl w g none)
 have HL := A_ hB.size
 clear hI
 have HW0 := A_ hB.size
 have HB := A_ hB
 clear hB
 have H : ((spec_l01PickInt.f s0_0 s0_1 s0_2 (([1, 2, 3, 3, 4] : List Int))).bind fun bt105 => ((spec_l01PickInt.f s0_0 bt105.2.1 bt105.2.2 (([1, 2, 3, 3, 4] : List Int))).bind fun bt111 => (some (bt105.1, bt111.1, bt111.2.1, bt111.2.2)))) = some (r1, r2, r3, r4) := h
 clear h
 obtain ⟨y102, hy102⟩ : ∃ y_ : List Int, y_ = (([1, 2, 3, 3, 4] : List Int)) := ⟨_, rfl⟩
 replace H : ((spec_l01PickInt.f s0_0 s0_1 s0_2 y102).bind fun bt105 => ((spec_l01PickInt.f s0_0 bt105.2.1 bt105.2.2 (([1, 2, 3, 3, 4] : List Int))).bind fun bt111 => (some (bt105.1, bt111.1, bt111.2.1, bt111.2.2)))) = some (r1, r2, r3, r4) := by first | (rw [hy102]; with_reducible exact H) | (have H2_ := (Option.bind_some _ _).symm.trans H; rw [hy102]; with_reducible exact H2_) | (have H2_ := (Option.bind_some _ _).symm.trans H; with_reducible exact H2_) | with_reducible exact H | (rw [hy102]; exact H) | exact H
 have Ny102 := A_ hy102
 clear hy102
 obtain ⟨⟨t105, t106, t107⟩, A20, H⟩ := oB_ H
 (try dsimp only at H); have A2 := A_ A20; clear A20
 obtain ⟨y108, hy108⟩ : ∃ y_ : List Int, y_ = (([1, 2, 3, 3, 4] : List Int)) := ⟨_, rfl⟩
 replace H : ((spec_l01PickInt.f s0_0 t106 t107 y108).bind fun bt111 => (some (t105, bt111.1, bt111.2.1, bt111.2.2))) = some (r1, r2, r3, r4) := by first | (rw [hy108]; with_reducible exact H) | (have H2_ := (Option.bind_some _ _).symm.trans H; rw [hy108]; with_reducible exact H2_) | (have H2_ := (Option.bind_some _ _).symm.trans H; with_reducible exact H2_) | with_reducible exact H | (rw [hy108]; exact H) | exact H
 have Ny108 := A_ hy108
 clear hy108
 obtain ⟨⟨t111, t112, t113⟩, A30, H⟩ := oB_ H
 (try dsimp only at H); have A3 := A_ A30; clear A30
 simp only [Option.some.injEq, Prod.mk.injEq] at H
 obtain ⟨rfl, rfl, rfl, rfl⟩ := H
 go_enter Try.func106, Try.ntmps106
 go_wp2_with (first | ((with_reducible refine gate_dst (N := 2) rfl ?_); refine box_event ?hg (N := 2) ?hd (cs := #[.int .i64 0, .int .i64 0]) (t := 25) ?hr ?_; (case hd => rfl); (case hg => rfl); (case hr => first | (go_simp; done) | (go_simp; rfl)); intro gb101 hg w4 hbox hb; have n0_ := A_ (IsS115.below (by repeat first | exact HI0.1 | apply IsS115.alloc | apply IsS115.drewN | apply IsS115.drew | apply IsS115.set_1 | apply IsS115.set_2) hb); have n1_ := A_ (KeepBut.trans (by repeat first | exact HK.1 | apply KeepBut.set_ | apply keep_drewN | apply keep_drew | apply keep_alloc) (KeepBut.of_below hb g none) (.inl rfl)); have n2_ := A_ (below_step (by repeat (first | (with_reducible first | exact HB.out | apply below_alloc | apply pw_below_drewN | apply below_drew1 | refine below_set ?_ (IsS115.ge HI0.out)) | exact HB.out)) hb); have n3_ := A_ (hbox); have n4_ := A_ ((by rw [hg]; exact (keep_size (w := w) (g := g) (row := none) (by repeat first | exact HK.1 | apply KeepBut.set_ | apply keep_drewN | apply keep_drew | apply keep_alloc)) : w.heap.size ≤ gb101)); have n5_ := A_ ((Nat.le_trans HW0.out (by rw [hg]; exact (keep_size (w := w) (g := g) (row := none) (by repeat first | exact HK.1 | apply KeepBut.set_ | apply keep_drewN | apply keep_drew | apply keep_alloc)) : w.heap.size ≤ gb101) : w0.heap.size ≤ gb101)); have n6_ := A_ ((by rw [hg]; exact Nat.ne_of_lt (IsS115.lt (show IsS115 w0 _ g s0_0 s0_1 s0_2 from by repeat (first | (with_reducible first | exact HI0.out | apply IsS115.alloc | apply IsS115.drewN | apply IsS115.drew | apply IsS115.set_1 | apply IsS115.set_2) | exact HI0.out))) : g ≠ gb101)); have n7_ := A_ ((by rw [hg]; exact Nat.ne_of_gt (IsS115.lt (show IsS115 w0 _ g s0_0 s0_1 s0_2 from by repeat (first | (with_reducible first | exact HI0.out | apply IsS115.alloc | apply IsS115.drewN | apply IsS115.drew | apply IsS115.set_1 | apply IsS115.set_2) | exact HI0.out))) : gb101 ≠ g)); clear HI0 HK HB; have HI0 := n0_; have HK := n1_; have HB := n2_; have BK101 := n3_; have GW101 := n4_; have GE101 := n5_; have NB0_101 := n6_; have NB101_0 := n7_; clear n0_ n1_ n2_ n3_ n4_ n5_ n6_ n7_ hb hbox hg) | ((with_reducible refine gate_dst (N := 5) rfl ?_); refine Kd.R_lit (Kd.int .i64) _ 3 ?hg (N := 5) ?hd (xs := ([1, 2, 3, 3, 4] : List Int)) (inner := [.int .i64 1, .int .i64 2, .int .i64 3, .int .i64 3, .int .i64 4]) (ok := fun _ => True) (okp := fun _ => True) ?hr ?hp (fun _ hk => hk) trivial (Below.refl _ _) (Nat.le_refl _) (by simp) ?_; (case hd => rfl); (case hg => rfl); (case hr => first | (go_simp; done) | (go_simp; rfl)); (case hp => exact (Reps.one (show Kd.M (Kd.int .i64) _ _ _ 1 [.int .i64 1] from rfl) (Reps.one (show Kd.M (Kd.int .i64) _ _ _ 2 [.int .i64 2] from rfl) (Reps.one (show Kd.M (Kd.int .i64) _ _ _ 3 [.int .i64 3] from rfl) (Reps.one (show Kd.M (Kd.int .i64) _ _ _ 3 [.int .i64 3] from rfl) (Reps.one (show Kd.M (Kd.int .i64) _ _ _ 4 [.int .i64 4] from rfl) (Reps.none _ _))))))); intro v103 w5 ho6 hb hg_ hnew_; clear hg_ hnew_; (first | rw [← Ny102.out] at ho6 | (simp only [Int.reduceToNat] at ho6; rw [← Ny102.out] at ho6)); have n0_ := A_ (Kd.R_lower ho6 (keep_size (w := w) (g := g) (row := none) (by repeat first | exact HK.1 | apply KeepBut.set_ | apply keep_drewN | apply keep_drew | apply keep_alloc | refine keep_far ?_ GW101.out _))); have n1_ := A_ (IsS115.below (by repeat first | exact HI0.1 | apply IsS115.alloc | apply IsS115.drewN | apply IsS115.drew | apply IsS115.set_1 | apply IsS115.set_2 | refine IsS115.far ?_ NB0_101.out _) hb); have n2_ := A_ (blk_below (g := gb101) (o := .cells #[.int .i64 0, .int .i64 0] 25 (0, 0)) (by (with_reducible repeat first | refine cA_ ?_ _ | refine cB_ ?_ | refine cC_ ?_ _); exact BK101.1) hb); have n3_ := A_ (KeepBut.trans (by repeat first | exact HK.1 | apply KeepBut.set_ | apply keep_drewN | apply keep_drew | apply keep_alloc | refine keep_far ?_ GW101.out _) (KeepBut.of_below hb g none) (.inl rfl)); have n4_ := A_ (below_step (by repeat (first | (with_reducible first | exact HB.out | apply below_alloc | apply pw_below_drewN | apply below_drew1 | refine below_set ?_ (IsS115.ge HI0.out) | refine below_set ?_ GE101.out) | exact HB.out)) hb); clear HI0 BK101 HK HB; have HO104 := n0_; have HI0 := n1_; have BK101 := n2_; have HK := n3_; have HB := n4_; clear n0_ n1_ n2_ n3_ n4_ hb ho6; obtain ⟨Ao7, co7, eo7⟩ := Kd.R_slice HO104.out; subst eo7) | ((with_reducible refine gate_callee (f := 150) rfl ?_); refine gl_ 6 Try.func150 #[.pointer (some ⟨g, 0, none⟩), .slice Ao7 y102.length co7] ?_; (with_reducible refine (spec_l01PickInt.calls g s0_0 s0_1 s0_2 _ _ y102 t105 t106 t107 w0 _ ?side1 ?side2 ?side3 ?side4 ?side5 A2.out).mono ?_); (case side1 => repeat (first | (with_reducible first | exact HI0.out | apply IsS115.alloc | apply IsS115.drewN | apply IsS115.drew | apply IsS115.set_1 | apply IsS115.set_2 | refine IsS115.far ?_ NB0_101.out _) | exact HI0.out)); (case side2 => repeat (first | (with_reducible first | exact HB.out | apply below_alloc | apply pw_below_drewN | apply below_drew1 | refine below_set ?_ (IsS115.ge HI0.out) | refine below_set ?_ GE101.out) | exact HB.out)); (case side3 => repeat (first | exact (Kd.R_reads' HO104.out).2.2 | (with_reducible refine Kd.C_alloc ?_ _) | (with_reducible refine Kd.C_drewN ?_ _) | (with_reducible refine Kd.C_drew ?_))); (case side4 => exact (Kd.R_reads' HO104.out).2.1); (case side5 => exact far_slice (IsS115.own_ne HI0.out HO104.out (by decide))); rintro e w8 ⟨rfl, hi, hb, hk⟩; refine ⟨_, rfl, ?_⟩; have n0_ := A_ (KeepBut.blk hk (g' := gb101) (o := .cells #[.int .i64 0, .int .i64 0] 25 (0, 0)) (by (with_reducible repeat first | refine cA_ ?_ _ | refine cB_ ?_ | refine cC_ ?_ _); exact BK101.1) NB101_0.out (by simp)); have n1_ := A_ (Kd.R_mono (Kd.R_keep (IsS115.apart (show IsS115 w0 _ g s0_0 s0_1 s0_2 from by repeat (first | (with_reducible first | exact HI0.out | apply IsS115.alloc | apply IsS115.drewN | apply IsS115.drew | apply IsS115.set_1 | apply IsS115.set_2 | refine IsS115.far ?_ NB0_101.out _) | exact HI0.out)) (by (with_reducible repeat (first | apply Kd.R_alloc | apply Kd.R_drewN | apply Kd.R_drew)); exact HO104.out) (by decide)) hk (fun _ h => h.2)) (fun _ h => h.1)); have n2_ := A_ (KeepBut.trans (by repeat first | exact HK.1 | apply KeepBut.set_ | apply keep_drewN | apply keep_drew | apply keep_alloc | refine keep_far ?_ GW101.out _) hk (.inl rfl)); have n3_ := A_ (hb); have n4_ := A_ (hi); clear BK101 HO104 HK HB HI0; have BK101 := n0_; have HO104 := n1_; have HK := n2_; have HB := n3_; have HI0 := n4_; clear n0_ n1_ n2_ n3_ n4_; (try clear hb); (try clear hk)) | ((with_reducible refine gate_dst (N := 9) rfl ?_); refine Kd.R_lit (Kd.int .i64) _ 3 ?hg (N := 9) ?hd (xs := ([1, 2, 3, 3, 4] : List Int)) (inner := [.int .i64 1, .int .i64 2, .int .i64 3, .int .i64 3, .int .i64 4]) (ok := fun _ => True) (okp := fun _ => True) ?hr ?hp (fun _ hk => hk) trivial (Below.refl _ _) (Nat.le_refl _) (by simp) ?_; (case hd => rfl); (case hg => rfl); (case hr => first | (go_simp; done) | (go_simp; rfl)); (case hp => exact (Reps.one (show Kd.M (Kd.int .i64) _ _ _ 1 [.int .i64 1] from rfl) (Reps.one (show Kd.M (Kd.int .i64) _ _ _ 2 [.int .i64 2] from rfl) (Reps.one (show Kd.M (Kd.int .i64) _ _ _ 3 [.int .i64 3] from rfl) (Reps.one (show Kd.M (Kd.int .i64) _ _ _ 3 [.int .i64 3] from rfl) (Reps.one (show Kd.M (Kd.int .i64) _ _ _ 4 [.int .i64 4] from rfl) (Reps.none _ _))))))); intro v109 w9 ho10 hb hg_ hnew_; clear hg_ hnew_; (first | rw [← Ny108.out] at ho10 | (simp only [Int.reduceToNat] at ho10; rw [← Ny108.out] at ho10)); have n0_ := A_ (Kd.R_elder' (by (with_reducible repeat (first | apply Kd.R_alloc | apply Kd.R_drewN | apply Kd.R_drew)); exact HO104.out) (Kd.R_base ho10) hb); have n1_ := A_ (Kd.R_lower (Kd.R_new' ho10 (Kd.R_lt (by (with_reducible repeat (first | apply Kd.R_alloc | apply Kd.R_drewN | apply Kd.R_drew)); exact HO104.out))) (keep_size (w := w) (g := g) (row := none) (by repeat first | exact HK.1 | apply KeepBut.set_ | apply keep_drewN | apply keep_drew | apply keep_alloc | refine keep_far ?_ GW101.out _))); have n2_ := A_ (IsS115.below (by repeat first | exact HI0.1 | apply IsS115.alloc | apply IsS115.drewN | apply IsS115.drew | apply IsS115.set_1 | apply IsS115.set_2 | refine IsS115.far ?_ NB0_101.out _) hb); have n3_ := A_ (blk_below (g := gb101) (o := .cells #[.int .i64 0, .int .i64 0] 25 (0, 0)) (by (with_reducible repeat first | refine cA_ ?_ _ | refine cB_ ?_ | refine cC_ ?_ _); exact BK101.1) hb); have n4_ := A_ (KeepBut.trans (by repeat first | exact HK.1 | apply KeepBut.set_ | apply keep_drewN | apply keep_drew | apply keep_alloc | refine keep_far ?_ GW101.out _) (KeepBut.of_below hb g none) (.inl rfl)); have n5_ := A_ (below_step (by repeat (first | (with_reducible first | exact HB.out | apply below_alloc | apply pw_below_drewN | apply below_drew1 | refine below_set ?_ (IsS115.ge HI0.out) | refine below_set ?_ GE101.out) | exact HB.out)) hb); clear HO104 HI0 BK101 HK HB; have HO104 := n0_; have HO110 := n1_; have HI0 := n2_; have BK101 := n3_; have HK := n4_; have HB := n5_; clear n0_ n1_ n2_ n3_ n4_ n5_ hb ho10; obtain ⟨Ao11, co11, eo11⟩ := Kd.R_slice HO110.out; subst eo11) | ((with_reducible refine gate_callee (f := 150) rfl ?_); refine gl_ 10 Try.func150 #[.pointer (some ⟨g, 0, none⟩), .slice Ao11 y108.length co11] ?_; (with_reducible refine (spec_l01PickInt.calls g s0_0 t106 t107 _ _ y108 t111 t112 t113 w0 _ ?side1 ?side2 ?side3 ?side4 ?side5 A3.out).mono ?_); (case side1 => repeat (first | (with_reducible first | exact HI0.out | apply IsS115.alloc | apply IsS115.drewN | apply IsS115.drew | apply IsS115.set_1 | apply IsS115.set_2 | refine IsS115.far ?_ NB0_101.out _) | exact HI0.out)); (case side2 => repeat (first | (with_reducible first | exact HB.out | apply below_alloc | apply pw_below_drewN | apply below_drew1 | refine below_set ?_ (IsS115.ge HI0.out) | refine below_set ?_ GE101.out) | exact HB.out)); (case side3 => repeat (first | exact (Kd.R_reads' HO110.out).2.2 | (with_reducible refine Kd.C_alloc ?_ _) | (with_reducible refine Kd.C_drewN ?_ _) | (with_reducible refine Kd.C_drew ?_))); (case side4 => exact (Kd.R_reads' HO110.out).2.1); (case side5 => exact far_slice (IsS115.own_ne HI0.out HO110.out (by decide))); rintro e w12 ⟨rfl, hi, hb, hk⟩; refine ⟨_, rfl, ?_⟩; have n0_ := A_ (KeepBut.blk hk (g' := gb101) (o := .cells #[.int .i64 0, .int .i64 0] 25 (0, 0)) (by (with_reducible repeat first | refine cA_ ?_ _ | refine cB_ ?_ | refine cC_ ?_ _); exact BK101.1) NB101_0.out (by simp)); have n1_ := A_ (Kd.R_mono (Kd.R_keep (IsS115.apart (show IsS115 w0 _ g s0_0 t106 t107 from by repeat (first | (with_reducible first | exact HI0.out | apply IsS115.alloc | apply IsS115.drewN | apply IsS115.drew | apply IsS115.set_1 | apply IsS115.set_2 | refine IsS115.far ?_ NB0_101.out _) | exact HI0.out)) (by (with_reducible repeat (first | apply Kd.R_alloc | apply Kd.R_drewN | apply Kd.R_drew)); exact HO104.out) (by decide)) hk (fun _ h => h.2)) (fun _ h => h.1)); have n2_ := A_ (Kd.R_mono (Kd.R_keep (IsS115.apart (show IsS115 w0 _ g s0_0 t106 t107 from by repeat (first | (with_reducible first | exact HI0.out | apply IsS115.alloc | apply IsS115.drewN | apply IsS115.drew | apply IsS115.set_1 | apply IsS115.set_2 | refine IsS115.far ?_ NB0_101.out _) | exact HI0.out)) (by (with_reducible repeat (first | apply Kd.R_alloc | apply Kd.R_drewN | apply Kd.R_drew)); exact HO110.out) (by decide)) hk (fun _ h => h.2)) (fun _ h => h.1)); have n3_ := A_ (KeepBut.trans (by repeat first | exact HK.1 | apply KeepBut.set_ | apply keep_drewN | apply keep_drew | apply keep_alloc | refine keep_far ?_ GW101.out _) hk (.inl rfl)); have n4_ := A_ (hb); have n5_ := A_ (hi); clear BK101 HO104 HO110 HK HB HI0; have BK101 := n0_; have HO104 := n1_; have HO110 := n2_; have HK := n3_; have HB := n4_; have HI0 := n5_; clear n0_ n1_ n2_ n3_ n4_ n5_; (try clear hb); (try clear hk); have hnb13 := NB101_0.out; have hnc13 := NB0_101.out; obtain ⟨hcz14_0, hcz14_1⟩ := kk2_ BK101.1; have hfz14_0 := bf_ BK101.out 0; have hfz14_1 := bf_ BK101.out 1))
 refine bodyPost_ret (results_cell_row rfl _ _ gb101 25 #[.int .i64 t105, .int .i64 t111] (0, 0) _ rfl (by (with_reducible repeat (first | refine blk_drewN ?_ _ | refine blk_drew ?_ | refine blk_alloc ?_ _)); refine blk_put (cs := #[.int .i64 t105, .int .i64 0]) ?_ 1 _ rfl; (with_reducible repeat (first | refine blk_drewN ?_ _ | refine blk_drew ?_ | refine blk_alloc ?_ _)); refine blk_put (cs := #[.int .i64 0, .int .i64 0]) ?_ 0 _ rfl; (with_reducible repeat (first | refine blk_drewN ?_ _ | refine blk_drew ?_ | refine blk_alloc ?_ _)); exact BK101.out) Try.underlying25 rfl (by kernel_rfl)) rfl ?_
 exact ⟨by first | rfl | (simp [errW_none, errW_some] <;> rfl) | (simp [*, errW_none, errW_some] <;> rfl), by repeat (first | (with_reducible first | exact HI0.out | apply IsS115.alloc | apply IsS115.drewN | apply IsS115.drew | apply IsS115.set_1 | apply IsS115.set_2 | refine IsS115.far ?_ NB0_101.out _) | exact HI0.out), by repeat (first | (with_reducible first | exact HB.out | apply below_alloc | apply pw_below_drewN | apply below_drew1 | refine below_set ?_ (IsS115.ge HI0.out) | refine below_set ?_ GE101.out) | exact HB.out), by repeat (first | (with_reducible first | exact HK.out | apply KeepBut.set_ | apply keep_drewN | apply keep_drew | apply keep_alloc | refine keep_far ?_ GW101.out _) | exact HK.out)⟩

def spec_l01New.l0 : Nat → List Int → Int → Int → Option (List Int × Int × Int)
 | 0, _, _, _ => none
 | k + 1, x0, x3, x4 => if x4 < (x0.length : Int) then (if x4 < 4000 then (if 0 ≤ x4 then (spec_l01New.l0 k x0 (Go.bits .and .i64 (wrap64 ((wrap64 ((wrap64 (x3 * 131)) + (wrap64 (rd x0 x4)))) + 7)) 1073741823) (wrap64 (x4 + 1))) else (none)) else (some (x0, 0, x3))) else (some (x0, 0, x3))
def spec_l01New.f (k : Nat) (l0 : List Int) : Option (List Int × Int × Int) := spec_l01New.l0 k l0 (wrap64 (99041 + (l0.length : Int))) 0
set_option maxHeartbeats 8000000 in
set_option maxRecDepth 100000 in
theorem spec_l01New.calls (k : Nat) (A0 : Option Addr) (c0 : Nat) (l0 : List Int) (r1 : List Int) (r2 : Int) (r3 : Int) (w0 w : World) (hB : Below w0.heap.size w0 w) (hr0 : Kd.C (Kd.int .u8) w0 A0 l0.length l0) (hc0 : l0.length ≤ c0) (h : spec_l01New.f k l0 = some (r1, r2, r3)) :
  Calls Try.prog 67 #[.slice A0 l0.length c0] w fun e w' => ∃ g_ : Nat, e = .returned (.pointer (some ⟨g_, 0, none⟩)) ∧ IsS115 w0 w' g_ r1 r2 r3 ∧ Below w0.heap.size w0 w' ∧ Below w.heap.size w w' := by
 have hu115 := Try.underlying115
 have HR0 := A_ hr0
 have HC0 := A_ hc0
 clear hr0 hc0
 have HBW := A_ (Below.refl w.heap.size w)
 have HW0 := A_ hB.size
 have HB := A_ hB
 clear hB
 have H : (spec_l01New.l0 k l0 (wrap64 (99041 + (l0.length : Int))) 0) = some (r1, r2, r3) := h
 clear h
 have H' := A_ H
 clear H
 go_enter Try.func67, Try.ntmps67
 go_wp2
 go_loopg [3, 4] k (fun kq v3 v4 w' => ∃ (x3_1 : Int) (x4_1 : Int), v3 = .int .i64 x3_1 ∧ v4 = .int .i64 x4_1 ∧ Aside0 (spec_l01New.l0 kq l0 x3_1 x4_1 = some (r1, r2, r3)) ∧ Aside0 (kq ≤ k) ∧ Aside0 (Below w0.heap.size w0 w') ∧ Aside0 (Below w.heap.size w w'))
 case atStart => exact ⟨(wrap64 (99041 + (l0.length : Int))), (0), (by first | rfl | (simp; done) | (simp [*]; done)), (by first | rfl | (simp; done) | (simp [*]; done)), H', ⟨Nat.le_refl _⟩, ⟨by repeat (first | (with_reducible first | exact HB.out | apply below_alloc | apply pw_below_drewN | apply below_drew1) | exact HB.out)⟩, ⟨by repeat (first | (with_reducible first | exact HBW.out | apply below_alloc | apply pw_below_drewN | apply below_drew1) | exact HBW.out)⟩⟩
 case round =>
  clear H'
  obtain ⟨x3_1, x4_1, rfl, rfl, HA, HK1, HB, HBW⟩ := hrel
  cases gk with
  | zero => exact absurd HA.out (by simp [spec_l01New.l0])
  | succ k1 =>
   have H := HA.out
   clear HA
   simp only [spec_l01New.l0] at H
   by_cases c2 : x4_1 < (l0.length : Int)
   ·rw [if_pos c2] at H
    have c2b0 : decide (x4_1 < (l0.length : Int)) = true := decide_eq_true c2
    clear c2
    by_cases c3 : x4_1 < 4000
    ·rw [if_pos c3] at H
     have c3b0 : decide (x4_1 < 4000) = true := decide_eq_true c3
     clear c3
     replace H := iN_ H; obtain ⟨c4, H⟩ := H
     have c4b0 : decide (0 ≤ x4_1) = true := decide_eq_true c4
     clear c4
     have H' := A_ H
     clear H
     have p101 : 0 ≤ (x4_1 : Int) := of_decide_eq_true (by first | (with_reducible assumption) | assumption)
     have q101 : x4_1 < (l0.length : Int) := of_decide_eq_true (by first | (with_reducible assumption) | assumption)
     obtain ⟨ad101, e101, hx101_0⟩ := Kd.at_int HR0.out x4_1 p101 q101
     cases e101
     replace hx101_0 := pw_cell_below HB.out hx101_0
     replace p101 := eq_true p101; replace q101 := eq_true q101
     go_wp2
     go_roundg k1
     case measure => have := HK1.out; omega
     case rel => exact ⟨(Go.bits .and .i64 (wrap64 ((wrap64 ((wrap64 (x3_1 * 131)) + (wrap64 (rd l0 x4_1)))) + 7)) 1073741823), (wrap64 (x4_1 + 1)), (by first | rfl | (simp; done) | (simp [*]; done)), (by first | rfl | (simp; done) | (simp [*]; done)), H', ⟨by have := HK1.out; omega⟩, ⟨by repeat (first | (with_reducible first | exact HB.out | apply below_alloc | apply pw_below_drewN | apply below_drew1) | exact HB.out)⟩, ⟨by repeat (first | (with_reducible first | exact HBW.out | apply below_alloc | apply pw_below_drewN | apply below_drew1) | exact HBW.out)⟩⟩
    ·rw [if_neg c3] at H
     have c3b0 : decide (x4_1 < 4000) = false := decide_eq_false c3
     clear c3
     simp only [Option.some.injEq, Prod.mk.injEq] at H
     obtain ⟨rfl, rfl, rfl⟩ := H
     go_wp2_with (first | ((with_reducible refine gate_dst (N := 31) rfl ?_); refine box_event ?hg (N := 31) ?hd (cs := #[.slice A0 l0.length c0, .int .i64 0, .int .i64 x3_1]) (t := 115) ?hr ?_; (case hd => rfl); (case hg => rfl); (case hr => first | (go_simp; done) | (go_simp; rfl)); intro gb102 hg w5 hbox hb; have n0_ := A_ (below_step HBW.out hb); have n1_ := A_ (below_step (by repeat first | exact HB.1 | apply bA_ | apply bB_ | apply bC_) hb); have n2_ := A_ (hbox); have n3_ := A_ ((by rw [hg]; exact (below_size (by repeat first | exact HBW.1 | apply bA_ | apply bB_ | apply bC_)) : w.heap.size ≤ gb102)); have n4_ := A_ ((Nat.le_trans HW0.out (by rw [hg]; exact (below_size (by repeat first | exact HBW.1 | apply bA_ | apply bB_ | apply bC_)) : w.heap.size ≤ gb102) : w0.heap.size ≤ gb102)); clear HBW HB; have HBW := n0_; have HB := n1_; have BK102 := n2_; have GW102 := n3_; have GE102 := n4_; clear n0_ n1_ n2_ n3_ n4_ hb hbox hg))
     go_ret
     exact ⟨_, rfl, (show IsS115 w0 _ gb102 l0 0 x3_1 from ⟨_, _, by (with_reducible repeat (first | refine blk_drewN ?_ _ | refine blk_drew ?_ | refine blk_alloc ?_ _)); exact BK102.out, GE102.out, HR0.out⟩), by repeat (first | (with_reducible first | exact HB.out | apply below_alloc | apply pw_below_drewN | apply below_drew1 | refine below_set ?_ GE102.out) | exact HB.out), by repeat (first | (with_reducible first | exact HBW.out | apply below_alloc | apply pw_below_drewN | apply below_drew1 | refine below_set ?_ GW102.out) | exact HBW.out)⟩
   ·rw [if_neg c2] at H
    have c2b0 : decide (x4_1 < (l0.length : Int)) = false := decide_eq_false c2
    clear c2
    simp only [Option.some.injEq, Prod.mk.injEq] at H
    obtain ⟨rfl, rfl, rfl⟩ := H
    go_wp2_with (first | ((with_reducible refine gate_dst (N := 31) rfl ?_); refine box_event ?hg (N := 31) ?hd (cs := #[.slice A0 l0.length c0, .int .i64 0, .int .i64 x3_1]) (t := 115) ?hr ?_; (case hd => rfl); (case hg => rfl); (case hr => first | (go_simp; done) | (go_simp; rfl)); intro gb103 hg w6 hbox hb; have n0_ := A_ (below_step HBW.out hb); have n1_ := A_ (below_step (by repeat first | exact HB.1 | apply bA_ | apply bB_ | apply bC_) hb); have n2_ := A_ (hbox); have n3_ := A_ ((by rw [hg]; exact (below_size (by repeat first | exact HBW.1 | apply bA_ | apply bB_ | apply bC_)) : w.heap.size ≤ gb103)); have n4_ := A_ ((Nat.le_trans HW0.out (by rw [hg]; exact (below_size (by repeat first | exact HBW.1 | apply bA_ | apply bB_ | apply bC_)) : w.heap.size ≤ gb103) : w0.heap.size ≤ gb103)); clear HBW HB; have HBW := n0_; have HB := n1_; have BK103 := n2_; have GW103 := n3_; have GE103 := n4_; clear n0_ n1_ n2_ n3_ n4_ hb hbox hg))
    go_ret
    exact ⟨_, rfl, (show IsS115 w0 _ gb103 l0 0 x3_1 from ⟨_, _, by (with_reducible repeat (first | refine blk_drewN ?_ _ | refine blk_drew ?_ | refine blk_alloc ?_ _)); exact BK103.out, GE103.out, HR0.out⟩), by repeat (first | (with_reducible first | exact HB.out | apply below_alloc | apply pw_below_drewN | apply below_drew1 | refine below_set ?_ GE103.out) | exact HB.out), by repeat (first | (with_reducible first | exact HBW.out | apply below_alloc | apply pw_below_drewN | apply below_drew1 | refine below_set ?_ GW103.out) | exact HBW.out)⟩

def spec_l01Once.f (s0_0 : List Int) (s0_1 : Int) (s0_2 : Int) (a1 : Int) : Option (Bool × Int × Int) := (spec_l01Below.f s0_0 s0_1 s0_2 a1).bind fun bt101 => (some ((bt101.1 == 0), bt101.2.1, bt101.2.2))
set_option maxHeartbeats 8000000 in
set_option maxRecDepth 100000 in
theorem spec_l01Once.calls (g : Nat) (s0_0 : List Int) (s0_1 : Int) (s0_2 : Int) (a1 : Int) (r1 : Bool) (r2 : Int) (r3 : Int) (w0 w : World) (hI : IsS115 w0 w g s0_0 s0_1 s0_2) (hB : Below w0.heap.size w0 w) (h : spec_l01Once.f s0_0 s0_1 s0_2 a1 = some (r1, r2, r3)) :
  Calls Try.prog 125 #[.pointer (some ⟨g, 0, none⟩), .int .i64 a1] w fun e w' => e = .returned (.bool r1) ∧ IsS115 w0 w' g s0_0 r2 r3 ∧ Below w0.heap.size w0 w' ∧ KeepBut w w' g none := by
 have HI0 := A_ hI
 have HK := A_ (KeepBut.refl w g none)
 have HL := A_ hB.size
 clear hI
 have HW0 := A_ hB.size
 have HB := A_ hB
 clear hB
 have H : ((spec_l01Below.f s0_0 s0_1 s0_2 a1).bind fun bt101 => (some ((bt101.1 == 0), bt101.2.1, bt101.2.2))) = some (r1, r2, r3) := h
 clear h
 obtain ⟨⟨t101, t102, t103⟩, A30, H⟩ := oB_ H
 (try dsimp only at H); have A3 := A_ A30; clear A30
 simp only [Option.some.injEq, Prod.mk.injEq] at H
 obtain ⟨rfl, rfl, rfl⟩ := H
 go_enter Try.func125, Try.ntmps125
 go_wp2_with (first | ((with_reducible refine gate_callee (f := 126) rfl ?_); refine gl_ 7 Try.func126 #[.pointer (some ⟨g, 0, none⟩), .int .i64 a1] ?_; (with_reducible refine (spec_l01Below.calls g s0_0 s0_1 s0_2 a1 t101 t102 t103 w0 _ ?side1 ?side2 A3.out).mono ?_); (case side1 => repeat (first | (with_reducible first | exact HI0.out | apply IsS115.alloc | apply IsS115.drewN | apply IsS115.drew | apply IsS115.set_1 | apply IsS115.set_2) | exact HI0.out)); (case side2 => repeat (first | (with_reducible first | exact HB.out | apply below_alloc | apply pw_below_drewN | apply below_drew1 | refine below_set ?_ (IsS115.ge HI0.out)) | exact HB.out)); rintro e w4 ⟨rfl, hi, hb, hk⟩; refine ⟨_, rfl, ?_⟩; have n0_ := A_ (KeepBut.trans (by repeat first | exact HK.1 | apply KeepBut.set_ | apply keep_drewN | apply keep_drew | apply keep_alloc) hk (.inl rfl)); have n1_ := A_ (hb); have n2_ := A_ (hi); clear HK HB HI0; have HK := n0_; have HB := n1_; have HI0 := n2_; clear n0_ n1_ n2_; (try clear hb); (try clear hk)))
 go_ret
 exact ⟨by first | rfl | (simp [errW_none, errW_some] <;> rfl) | (simp [*, errW_none, errW_some] <;> rfl), by repeat (first | (with_reducible first | exact HI0.out | apply IsS115.alloc | apply IsS115.drewN | apply IsS115.drew | apply IsS115.set_1 | apply IsS115.set_2) | exact HI0.out), by repeat (first | (with_reducible first | exact HB.out | apply below_alloc | apply pw_below_drewN | apply below_drew1 | refine below_set ?_ (IsS115.ge HI0.out)) | exact HB.out), by repeat (first | (with_reducible first | exact HK.out | apply KeepBut.set_ | apply keep_drewN | apply keep_drew | apply keep_alloc) | exact HK.out)⟩

def spec_l17Choices.l0 : Nat → List Int → Int → Int → List Int → Int → Int → Option (List Int × Int × Int)
 | 0, _, _, _, _, _, _ => none
 | k + 1, x3, x4, x5, x1000, x1001, x1002 => if x5 < x4 then ((spec_l01Below.f x1000 x1001 x1002 50).bind fun bt107 => (if x3.length < 17592186044416 then (spec_l17Choices.l0 k (x3 ++ [bt107.1]) x4 (wrap64 (x5 + 1)) x1000 bt107.2.1 bt107.2.2) else (none))) else ((spec_l01Once.f x1000 x1001 x1002 8).bind fun bt113 => (if bt113.1 = true then ((spec_l01PickInt.f x1000 bt113.2.1 bt113.2.2 (([(-1), 9223372036854775807, (-9223372036854775808)] : List Int))).bind fun bt119 => (if x3.length < 17592186044416 then (some ((x3 ++ [bt119.1]), bt119.2.1, bt119.2.2)) else (none))) else (some (x3, bt113.2.1, bt113.2.2))))
def spec_l17Choices.f (k : Nat) (s0_0 : List Int) (s0_1 : Int) (s0_2 : Int) : Option (List Int × Int × Int) := (spec_l01Below.f s0_0 s0_1 s0_2 20).bind fun bt104 => (spec_l17Choices.l0 k (([] : List Int)) bt104.1 0 s0_0 bt104.2.1 bt104.2.2)
set_option maxHeartbeats 8000000 in
set_option maxRecDepth 100000 in
theorem spec_l17Choices.calls (k : Nat) (g : Nat) (s0_0 : List Int) (s0_1 : Int) (s0_2 : Int) (r1 : List Int) (r2 : Int) (r3 : Int) (w0 w : World) (hI : IsS115 w0 w g s0_0 s0_1 s0_2) (hB : Below w0.heap.size w0 w) (h : spec_l17Choices.f k s0_0 s0_1 s0_2 = some (r1, r2, r3)) :
  Calls Try.prog 107 #[.pointer (some ⟨g, 0, none⟩)] w fun e w' => ∃ v0_ : Value, e = .returned (v0_) ∧ Kd.R (Kd.int .i64) 3 w' w.heap.size (fun _ => True) v0_ r1 ∧ IsS115 w0 w' g s0_0 r2 r3 ∧ Below w0.heap.size w0 w' ∧ KeepBut w w' g none := by
 have HI0 := A_ hI
 have HK := A_ (KeepBut.refl w g none)
 have HL := A_ hB.size
 clear hI
 have HW0 := A_ hB.size
 have HB := A_ hB
 clear hB
 have H : ((spec_l01Below.f s0_0 s0_1 s0_2 20).bind fun bt104 => (spec_l17Choices.l0 k (([] : List Int)) bt104.1 0 s0_0 bt104.2.1 bt104.2.2)) = some (r1, r2, r3) := h
 clear h
 obtain ⟨y101, hy101⟩ : ∃ y_ : List Int, y_ = (([] : List Int)) := ⟨_, rfl⟩
 replace H : ((spec_l01Below.f s0_0 s0_1 s0_2 20).bind fun bt104 => (spec_l17Choices.l0 k y101 bt104.1 0 s0_0 bt104.2.1 bt104.2.2)) = some (r1, r2, r3) := by first | (rw [hy101]; with_reducible exact H) | (have H2_ := (Option.bind_some _ _).symm.trans H; rw [hy101]; with_reducible exact H2_) | (have H2_ := (Option.bind_some _ _).symm.trans H; with_reducible exact H2_) | with_reducible exact H | (rw [hy101]; exact H) | exact H
 have Ny101 := A_ hy101
 clear hy101
 obtain ⟨⟨t104, t105, t106⟩, A20, H⟩ := oB_ H
 (try dsimp only at H); have A2 := A_ A20; clear A20
 have H' := A_ H
 clear H
 go_enter Try.func107, Try.ntmps107
 go_wp2_with (first | ((with_reducible refine gate_dst (N := 6) rfl ?_); refine Kd.R_lit (Kd.int .i64) _ 3 ?hg (N := 6) ?hd (xs := ([] : List Int)) (inner := []) (ok := fun _ => True) (okp := fun _ => True) ?hr ?hp (fun _ hk => hk) trivial (Below.refl _ _) (Nat.le_refl _) (by simp) ?_; (case hd => rfl); (case hg => rfl); (case hr => first | (go_simp; done) | (go_simp; rfl)); (case hp => exact (Reps.none _ _)); intro v102 w3 ho4 hb hg_ hnew_; clear hg_ hnew_; (first | rw [← Ny101.out] at ho4 | (simp only [Int.reduceToNat] at ho4; rw [← Ny101.out] at ho4)); have n0_ := A_ (Kd.R_lower ho4 (keep_size (w := w) (g := g) (row := none) (by repeat first | exact HK.1 | apply KeepBut.set_ | apply keep_drewN | apply keep_drew | apply keep_alloc))); have n1_ := A_ (IsS115.below (by repeat first | exact HI0.1 | apply IsS115.alloc | apply IsS115.drewN | apply IsS115.drew | apply IsS115.set_1 | apply IsS115.set_2) hb); have n2_ := A_ (KeepBut.trans (by repeat first | exact HK.1 | apply KeepBut.set_ | apply keep_drewN | apply keep_drew | apply keep_alloc) (KeepBut.of_below hb g none) (.inl rfl)); have n3_ := A_ (below_step (by repeat (first | (with_reducible first | exact HB.out | apply below_alloc | apply pw_below_drewN | apply below_drew1 | refine below_set ?_ (IsS115.ge HI0.out)) | exact HB.out)) hb); clear HI0 HK HB; have HO103 := n0_; have HI0 := n1_; have HK := n2_; have HB := n3_; clear n0_ n1_ n2_ n3_ hb ho4) | ((with_reducible refine gate_callee (f := 126) rfl ?_); refine gl_ 8 Try.func126 #[.pointer (some ⟨g, 0, none⟩), .int .i64 20] ?_; (with_reducible refine (spec_l01Below.calls g s0_0 s0_1 s0_2 20 t104 t105 t106 w0 _ ?side1 ?side2 A2.out).mono ?_); (case side1 => repeat (first | (with_reducible first | exact HI0.out | apply IsS115.alloc | apply IsS115.drewN | apply IsS115.drew | apply IsS115.set_1 | apply IsS115.set_2) | exact HI0.out)); (case side2 => repeat (first | (with_reducible first | exact HB.out | apply below_alloc | apply pw_below_drewN | apply below_drew1 | refine below_set ?_ (IsS115.ge HI0.out)) | exact HB.out)); rintro e w5 ⟨rfl, hi, hb, hk⟩; refine ⟨_, rfl, ?_⟩; have n0_ := A_ (Kd.R_mono (Kd.R_keep (IsS115.apart (show IsS115 w0 _ g s0_0 s0_1 s0_2 from by repeat (first | (with_reducible first | exact HI0.out | apply IsS115.alloc | apply IsS115.drewN | apply IsS115.drew | apply IsS115.set_1 | apply IsS115.set_2) | exact HI0.out)) (by (with_reducible repeat (first | apply Kd.R_alloc | apply Kd.R_drewN | apply Kd.R_drew)); exact HO103.out) (by decide)) hk (fun _ h => h.2)) (fun _ h => h.1)); have n1_ := A_ (KeepBut.trans (by repeat first | exact HK.1 | apply KeepBut.set_ | apply keep_drewN | apply keep_drew | apply keep_alloc) hk (.inl rfl)); have n2_ := A_ (hb); have n3_ := A_ (hi); clear HO103 HK HB HI0; have HO103 := n0_; have HK := n1_; have HB := n2_; have HI0 := n3_; clear n0_ n1_ n2_ n3_; (try clear hb); (try clear hk)))
 go_loopg [3, 5] k (fun kq v3 v5 w' => ∃ (x3_1 : List Int) (x5_1 : Int) (x1001_1 : Int) (x1002_1 : Int), v5 = .int .i64 x5_1 ∧ Aside0 (spec_l17Choices.l0 kq x3_1 t104 x5_1 s0_0 x1001_1 x1002_1 = some (r1, r2, r3)) ∧ Aside0 (kq ≤ k) ∧ Aside0 (Kd.R (Kd.int .i64) 3 w' w.heap.size (fun _ => True) v3 x3_1) ∧ Aside0 (IsS115 w0 w' g s0_0 x1001_1 x1002_1) ∧ Aside0 (KeepBut w w' g none) ∧ Aside0 (Below w0.heap.size w0 w'))
 case atStart => exact ⟨(y101), (0), (t105), (t106), (by first | rfl | (simp; done) | (simp [*]; done)), H', ⟨Nat.le_refl _⟩, ⟨by (with_reducible repeat (first | apply Kd.R_alloc | apply Kd.R_drewN | apply Kd.R_drew)); exact HO103.out⟩, ⟨by repeat (first | (with_reducible first | exact HI0.out | apply IsS115.alloc | apply IsS115.drewN | apply IsS115.drew | apply IsS115.set_1 | apply IsS115.set_2) | exact HI0.out)⟩, ⟨by repeat (first | (with_reducible first | exact HK.out | apply KeepBut.set_ | apply keep_drewN | apply keep_drew | apply keep_alloc) | exact HK.out)⟩, ⟨by repeat (first | (with_reducible first | exact HB.out | apply below_alloc | apply pw_below_drewN | apply below_drew1 | refine below_set ?_ (IsS115.ge HI0.out)) | exact HB.out)⟩⟩
 case round =>
  clear H'; try clear c1; try clear p2
  obtain ⟨x3_1, x5_1, x1001_1, x1002_1, rfl, HA, HK1, HO_3, HI0, HK, HB⟩ := hrel
  cases gk with
  | zero => exact absurd HA.out (by simp [spec_l17Choices.l0])
  | succ k1 =>
   have H := HA.out
   clear HA
   simp only [spec_l17Choices.l0] at H
   by_cases c6 : x5_1 < t104
   ·rw [if_pos c6] at H
    have c6b0 : decide (x5_1 < t104) = true := decide_eq_true c6
    clear c6
    obtain ⟨⟨t107, t108, t109⟩, A70, H⟩ := oB_ H
    (try dsimp only at H); have A7 := A_ A70; clear A70
    replace H := iN_ H; obtain ⟨c8, H⟩ := H
    have LMc8 := A_ c8
    clear c8
    obtain ⟨y110, hy110⟩ : ∃ y_ : List Int, y_ = (x3_1 ++ [t107]) := ⟨_, rfl⟩
    replace H : (spec_l17Choices.l0 k1 y110 t104 (wrap64 (x5_1 + 1)) s0_0 t108 t109) = some (r1, r2, r3) := by first | (rw [hy110]; with_reducible exact H) | (have H2_ := (Option.bind_some _ _).symm.trans H; rw [hy110]; with_reducible exact H2_) | (have H2_ := (Option.bind_some _ _).symm.trans H; with_reducible exact H2_) | with_reducible exact H | (rw [hy110]; exact H) | exact H
    have Ny110 := A_ hy110
    clear hy110
    have H' := A_ H
    clear H
    go_wp2_with (first | ((with_reducible refine gate_callee (f := 126) rfl ?_); refine gl_ 16 Try.func126 #[.pointer (some ⟨g, 0, none⟩), .int .i64 50] ?_; (with_reducible refine (spec_l01Below.calls g s0_0 x1001_1 x1002_1 50 t107 t108 t109 w0 _ ?side1 ?side2 A7.out).mono ?_); (case side1 => repeat (first | (with_reducible first | exact HI0.out | apply IsS115.alloc | apply IsS115.drewN | apply IsS115.drew | apply IsS115.set_1 | apply IsS115.set_2) | exact HI0.out)); (case side2 => repeat (first | (with_reducible first | exact HB.out | apply below_alloc | apply pw_below_drewN | apply below_drew1 | refine below_set ?_ (IsS115.ge HI0.out)) | exact HB.out)); rintro e w9 ⟨rfl, hi, hb, hk⟩; refine ⟨_, rfl, ?_⟩; have n0_ := A_ (Kd.R_mono (Kd.R_keep (IsS115.apart (show IsS115 w0 _ g s0_0 x1001_1 x1002_1 from by repeat (first | (with_reducible first | exact HI0.out | apply IsS115.alloc | apply IsS115.drewN | apply IsS115.drew | apply IsS115.set_1 | apply IsS115.set_2) | exact HI0.out)) (by (with_reducible repeat (first | apply Kd.R_alloc | apply Kd.R_drewN | apply Kd.R_drew)); exact HO_3.out) (by decide)) hk (fun _ h => h.2)) (fun _ h => h.1)); have n1_ := A_ (KeepBut.trans (by repeat first | exact HK.1 | apply KeepBut.set_ | apply keep_drewN | apply keep_drew | apply keep_alloc) hk (.inl rfl)); have n2_ := A_ (hb); have n3_ := A_ (hi); clear HO_3 HK HB HI0; have HO_3 := n0_; have HK := n1_; have HB := n2_; have HI0 := n3_; clear n0_ n1_ n2_ n3_; (try clear hb); (try clear hk)) | ((with_reducible refine gate_builtin (b := .append) (xs := #[.tmp 14, .tmp 17]) rfl ?_); at_builtin; refine Kd.R_append (Kd.int .i64) w.heap.size rfl (.tmp 14) (.tmp 17) 39 3 (.int .i64 0) 8 rfl Try.underlying39 info3 rfl (by decide) (by omega) u3 x3_1 t107 [.int .i64 t107] (fun _ => True) (fun _ => False) rfl rfl ?aP (fun _ hk => hk.elim) ?aF ?aO (Below.refl _ _) ?aS ?aL ?_; (case aP => exact rfl); (case aF => exact (fun _ _ => trivial)); (case aO => exact (by (with_reducible repeat (first | apply Kd.R_alloc | apply Kd.R_drewN | apply Kd.R_drew)); exact HO_3.out)); (case aS => exact (keep_size (w := w) (g := g) (row := none) (by repeat first | exact HK.1 | apply KeepBut.set_ | apply keep_drewN | apply keep_drew | apply keep_alloc))); (case aL => have := LMc8.out; omega); intro v111 w10 ho hb hg hat; rw [← Ny110.out] at ho; have n0_ := A_ (IsS115.grown (by repeat first | exact HI0.1 | apply IsS115.alloc | apply IsS115.drewN | apply IsS115.drew | apply IsS115.set_1 | apply IsS115.set_2) hg (IsS115.own_ne HI0.out HO_3.out (by decide))); have n1_ := A_ (below_weaken (by repeat (first | (with_reducible first | exact HB.out | apply below_alloc | apply pw_below_drewN | apply below_drew1 | refine below_set ?_ (IsS115.ge HI0.out)) | exact HB.out)) HL.out hb); have n2_ := A_ (KeepBut.trans (by repeat first | exact HK.1 | apply KeepBut.set_ | apply keep_drewN | apply keep_drew | apply keep_alloc) (KeepBut.of_grown hg g) (Kd.R_base2 HO_3.out)); have n3_ := A_ (ho); clear HI0 HB HK HO_3; have HI0 := n0_; have HB := n1_; have HK := n2_; have HO112 := n3_; clear n0_ n1_ n2_ n3_ ho hb hg hat))
    go_roundg k1
    case measure => have := HK1.out; omega
    case rel => exact ⟨(y110), (wrap64 (x5_1 + 1)), (t108), (t109), (by first | rfl | (simp; done) | (simp [*]; done)), H', ⟨by have := HK1.out; omega⟩, ⟨by (with_reducible repeat (first | apply Kd.R_alloc | apply Kd.R_drewN | apply Kd.R_drew)); exact HO112.out⟩, ⟨by repeat (first | (with_reducible first | exact HI0.out | apply IsS115.alloc | apply IsS115.drewN | apply IsS115.drew | apply IsS115.set_1 | apply IsS115.set_2) | exact HI0.out)⟩, ⟨by repeat (first | (with_reducible first | exact HK.out | apply KeepBut.set_ | apply keep_drewN | apply keep_drew | apply keep_alloc) | exact HK.out)⟩, ⟨by repeat (first | (with_reducible first | exact HB.out | apply below_alloc | apply pw_below_drewN | apply below_drew1 | refine below_set ?_ (IsS115.ge HI0.out)) | exact HB.out)⟩⟩
   ·rw [if_neg c6] at H
    have c6b0 : decide (x5_1 < t104) = false := decide_eq_false c6
    clear c6
    obtain ⟨⟨t113, t114, t115⟩, A110, H⟩ := oB_ H
    (try dsimp only at H); have A11 := A_ A110; clear A110
    by_cases c12 : t113 = true
    ·subst c12
     rw [if_pos rfl] at H
     obtain ⟨y116, hy116⟩ : ∃ y_ : List Int, y_ = (([(-1), 9223372036854775807, (-9223372036854775808)] : List Int)) := ⟨_, rfl⟩
     replace H : ((spec_l01PickInt.f s0_0 t114 t115 y116).bind fun bt119 => (if x3_1.length < 17592186044416 then (some ((x3_1 ++ [bt119.1]), bt119.2.1, bt119.2.2)) else (none))) = some (r1, r2, r3) := by first | (rw [hy116]; with_reducible exact H) | (have H2_ := (Option.bind_some _ _).symm.trans H; rw [hy116]; with_reducible exact H2_) | (have H2_ := (Option.bind_some _ _).symm.trans H; with_reducible exact H2_) | with_reducible exact H | (rw [hy116]; exact H) | exact H
     have Ny116 := A_ hy116
     clear hy116
     obtain ⟨⟨t119, t120, t121⟩, A130, H⟩ := oB_ H
     (try dsimp only at H); have A13 := A_ A130; clear A130
     replace H := iN_ H; obtain ⟨c14, H⟩ := H
     have LMc14 := A_ c14
     clear c14
     obtain ⟨y122, hy122⟩ : ∃ y_ : List Int, y_ = (x3_1 ++ [t119]) := ⟨_, rfl⟩
     replace H : (some (y122, t120, t121)) = some (r1, r2, r3) := by first | (rw [hy122]; with_reducible exact H) | (have H2_ := (Option.bind_some _ _).symm.trans H; rw [hy122]; with_reducible exact H2_) | (have H2_ := (Option.bind_some _ _).symm.trans H; with_reducible exact H2_) | with_reducible exact H | (rw [hy122]; exact H) | exact H
     have Ny122 := A_ hy122
     clear hy122
     simp only [Option.some.injEq, Prod.mk.injEq] at H
     obtain ⟨rfl, rfl, rfl⟩ := H
     go_wp2_with (first | ((with_reducible refine gate_callee (f := 125) rfl ?_); refine gl_ 20 Try.func125 #[.pointer (some ⟨g, 0, none⟩), .int .i64 8] ?_; (with_reducible refine (spec_l01Once.calls g s0_0 x1001_1 x1002_1 8 true t114 t115 w0 _ ?side1 ?side2 A11.out).mono ?_); (case side1 => repeat (first | (with_reducible first | exact HI0.out | apply IsS115.alloc | apply IsS115.drewN | apply IsS115.drew | apply IsS115.set_1 | apply IsS115.set_2) | exact HI0.out)); (case side2 => repeat (first | (with_reducible first | exact HB.out | apply below_alloc | apply pw_below_drewN | apply below_drew1 | refine below_set ?_ (IsS115.ge HI0.out)) | exact HB.out)); rintro e w15 ⟨rfl, hi, hb, hk⟩; refine ⟨_, rfl, ?_⟩; have n0_ := A_ (Kd.R_mono (Kd.R_keep (IsS115.apart (show IsS115 w0 _ g s0_0 x1001_1 x1002_1 from by repeat (first | (with_reducible first | exact HI0.out | apply IsS115.alloc | apply IsS115.drewN | apply IsS115.drew | apply IsS115.set_1 | apply IsS115.set_2) | exact HI0.out)) (by (with_reducible repeat (first | apply Kd.R_alloc | apply Kd.R_drewN | apply Kd.R_drew)); exact HO_3.out) (by decide)) hk (fun _ h => h.2)) (fun _ h => h.1)); have n1_ := A_ (KeepBut.trans (by repeat first | exact HK.1 | apply KeepBut.set_ | apply keep_drewN | apply keep_drew | apply keep_alloc) hk (.inl rfl)); have n2_ := A_ (hb); have n3_ := A_ (hi); clear HO_3 HK HB HI0; have HO_3 := n0_; have HK := n1_; have HB := n2_; have HI0 := n3_; clear n0_ n1_ n2_ n3_; (try clear hb); (try clear hk)) | ((with_reducible refine gate_dst (N := 23) rfl ?_); refine Kd.R_lit (Kd.int .i64) _ 3 ?hg (N := 23) ?hd (xs := ([(-1), 9223372036854775807, (-9223372036854775808)] : List Int)) (inner := [.int .i64 (-1), .int .i64 9223372036854775807, .int .i64 (-9223372036854775808)]) (ok := fun _ => True) (okp := fun _ => True) ?hr ?hp (fun _ hk => hk) trivial (Below.refl _ _) (Nat.le_refl _) (by simp) ?_; (case hd => rfl); (case hg => rfl); (case hr => first | (go_simp; done) | (go_simp; rfl)); (case hp => exact (Reps.one (show Kd.M (Kd.int .i64) _ _ _ (-1) [.int .i64 (-1)] from rfl) (Reps.one (show Kd.M (Kd.int .i64) _ _ _ 9223372036854775807 [.int .i64 9223372036854775807] from rfl) (Reps.one (show Kd.M (Kd.int .i64) _ _ _ (-9223372036854775808) [.int .i64 (-9223372036854775808)] from rfl) (Reps.none _ _))))); intro v117 w16 ho17 hb hg_ hnew_; clear hg_ hnew_; (first | rw [← Ny116.out] at ho17 | (simp only [Int.reduceToNat] at ho17; rw [← Ny116.out] at ho17)); have n0_ := A_ (Kd.R_elder' (by (with_reducible repeat (first | apply Kd.R_alloc | apply Kd.R_drewN | apply Kd.R_drew)); exact HO_3.out) (Kd.R_base ho17) hb); have n1_ := A_ (Kd.R_lower (Kd.R_new' ho17 (Kd.R_lt (by (with_reducible repeat (first | apply Kd.R_alloc | apply Kd.R_drewN | apply Kd.R_drew)); exact HO_3.out))) (keep_size (w := w) (g := g) (row := none) (by repeat first | exact HK.1 | apply KeepBut.set_ | apply keep_drewN | apply keep_drew | apply keep_alloc))); have n2_ := A_ (IsS115.below (by repeat first | exact HI0.1 | apply IsS115.alloc | apply IsS115.drewN | apply IsS115.drew | apply IsS115.set_1 | apply IsS115.set_2) hb); have n3_ := A_ (KeepBut.trans (by repeat first | exact HK.1 | apply KeepBut.set_ | apply keep_drewN | apply keep_drew | apply keep_alloc) (KeepBut.of_below hb g none) (.inl rfl)); have n4_ := A_ (below_step (by repeat (first | (with_reducible first | exact HB.out | apply below_alloc | apply pw_below_drewN | apply below_drew1 | refine below_set ?_ (IsS115.ge HI0.out)) | exact HB.out)) hb); clear HO_3 HI0 HK HB; have HO_3 := n0_; have HO118 := n1_; have HI0 := n2_; have HK := n3_; have HB := n4_; clear n0_ n1_ n2_ n3_ n4_ hb ho17; obtain ⟨Ao18, co18, eo18⟩ := Kd.R_slice HO118.out; subst eo18) | ((with_reducible refine gate_callee (f := 150) rfl ?_); refine gl_ 24 Try.func150 #[.pointer (some ⟨g, 0, none⟩), .slice Ao18 y116.length co18] ?_; (with_reducible refine (spec_l01PickInt.calls g s0_0 t114 t115 _ _ y116 t119 t120 t121 w0 _ ?side1 ?side2 ?side3 ?side4 ?side5 A13.out).mono ?_); (case side1 => repeat (first | (with_reducible first | exact HI0.out | apply IsS115.alloc | apply IsS115.drewN | apply IsS115.drew | apply IsS115.set_1 | apply IsS115.set_2) | exact HI0.out)); (case side2 => repeat (first | (with_reducible first | exact HB.out | apply below_alloc | apply pw_below_drewN | apply below_drew1 | refine below_set ?_ (IsS115.ge HI0.out)) | exact HB.out)); (case side3 => repeat (first | exact (Kd.R_reads' HO118.out).2.2 | (with_reducible refine Kd.C_alloc ?_ _) | (with_reducible refine Kd.C_drewN ?_ _) | (with_reducible refine Kd.C_drew ?_))); (case side4 => exact (Kd.R_reads' HO118.out).2.1); (case side5 => exact far_slice (IsS115.own_ne HI0.out HO118.out (by decide))); rintro e w19 ⟨rfl, hi, hb, hk⟩; refine ⟨_, rfl, ?_⟩; have n0_ := A_ (Kd.R_mono (Kd.R_keep (IsS115.apart (show IsS115 w0 _ g s0_0 t114 t115 from by repeat (first | (with_reducible first | exact HI0.out | apply IsS115.alloc | apply IsS115.drewN | apply IsS115.drew | apply IsS115.set_1 | apply IsS115.set_2) | exact HI0.out)) (by (with_reducible repeat (first | apply Kd.R_alloc | apply Kd.R_drewN | apply Kd.R_drew)); exact HO_3.out) (by decide)) hk (fun _ h => h.2)) (fun _ h => h.1)); have n1_ := A_ (Kd.R_mono (Kd.R_keep (IsS115.apart (show IsS115 w0 _ g s0_0 t114 t115 from by repeat (first | (with_reducible first | exact HI0.out | apply IsS115.alloc | apply IsS115.drewN | apply IsS115.drew | apply IsS115.set_1 | apply IsS115.set_2) | exact HI0.out)) (by (with_reducible repeat (first | apply Kd.R_alloc | apply Kd.R_drewN | apply Kd.R_drew)); exact HO118.out) (by decide)) hk (fun _ h => h.2)) (fun _ h => h.1)); have n2_ := A_ (KeepBut.trans (by repeat first | exact HK.1 | apply KeepBut.set_ | apply keep_drewN | apply keep_drew | apply keep_alloc) hk (.inl rfl)); have n3_ := A_ (hb); have n4_ := A_ (hi); clear HO_3 HO118 HK HB HI0; have HO_3 := n0_; have HO118 := n1_; have HK := n2_; have HB := n3_; have HI0 := n4_; clear n0_ n1_ n2_ n3_ n4_; (try clear hb); (try clear hk)) | ((with_reducible refine gate_builtin (b := .append) (xs := #[.tmp 21, .tmp 25]) rfl ?_); at_builtin; refine Kd.R_append (Kd.int .i64) w.heap.size rfl (.tmp 21) (.tmp 25) 39 3 (.int .i64 0) 8 rfl Try.underlying39 info3 rfl (by decide) (by omega) u3 x3_1 t119 [.int .i64 t119] (fun k_ => some k_ ≠ (.slice Ao18 y116.length co18 : Value).ownBlock) (fun _ => False) rfl rfl ?aP (fun _ hk => hk.elim) ?aF ?aO (Below.refl _ _) ?aS ?aL ?_; (case aP => exact rfl); (case aF => exact (fun k_ hk => Kd.fresh' (Kd.R_lt (by (with_reducible repeat (first | apply Kd.R_alloc | apply Kd.R_drewN | apply Kd.R_drew)); exact HO118.out)) k_ hk)); (case aO => exact (by (with_reducible repeat (first | apply Kd.R_alloc | apply Kd.R_drewN | apply Kd.R_drew)); exact Kd.R_mono HO_3.out (fun _ hk => hk.2))); (case aS => exact (keep_size (w := w) (g := g) (row := none) (by repeat first | exact HK.1 | apply KeepBut.set_ | apply keep_drewN | apply keep_drew | apply keep_alloc))); (case aL => have := LMc14.out; omega); intro v123 w20 ho hb hg hat; rw [← Ny122.out] at ho; have n0_ := A_ (IsS115.grown (by repeat first | exact HI0.1 | apply IsS115.alloc | apply IsS115.drewN | apply IsS115.drew | apply IsS115.set_1 | apply IsS115.set_2) hg (IsS115.own_ne HI0.out HO_3.out (by decide))); have n1_ := A_ (Kd.R_after (ok := (fun _ => True)) (by (with_reducible repeat (first | apply Kd.R_alloc | apply Kd.R_drewN | apply Kd.R_drew)); exact HO118.out) hg hat); have n2_ := A_ (below_weaken (by repeat (first | (with_reducible first | exact HB.out | apply below_alloc | apply pw_below_drewN | apply below_drew1 | refine below_set ?_ (IsS115.ge HI0.out)) | exact HB.out)) HL.out hb); have n3_ := A_ (KeepBut.trans (by repeat first | exact HK.1 | apply KeepBut.set_ | apply keep_drewN | apply keep_drew | apply keep_alloc) (KeepBut.of_grown hg g) (Kd.R_base2 HO_3.out)); have n4_ := A_ (ho); clear HI0 HO118 HB HK HO_3; have HI0 := n0_; have HO118 := n1_; have HB := n2_; have HK := n3_; have HO124 := n4_; clear n0_ n1_ n2_ n3_ n4_ ho hb hg hat))
     go_ret
     exact ⟨_, by first | rfl | (simp [errW_none, errW_some] <;> rfl) | (simp [*, errW_none, errW_some] <;> rfl), by (with_reducible repeat (first | apply Kd.R_alloc | apply Kd.R_drewN | apply Kd.R_drew)); exact Kd.R_mono HO124.out (fun _ hk => trivial), by repeat (first | (with_reducible first | exact HI0.out | apply IsS115.alloc | apply IsS115.drewN | apply IsS115.drew | apply IsS115.set_1 | apply IsS115.set_2) | exact HI0.out), by repeat (first | (with_reducible first | exact HB.out | apply below_alloc | apply pw_below_drewN | apply below_drew1 | refine below_set ?_ (IsS115.ge HI0.out)) | exact HB.out), by repeat (first | (with_reducible first | exact HK.out | apply KeepBut.set_ | apply keep_drewN | apply keep_drew | apply keep_alloc) | exact HK.out)⟩
    ·replace c12 := Bool.eq_false_iff.mpr c12
     subst c12
     have H1 : (some (x3_1, t114, t115)) = some (r1, r2, r3) := by rw [if_neg (show ¬ (false = true) by decide)] at H; exact H
     clear H
     have H := H1
     clear H1
     simp only [Option.some.injEq, Prod.mk.injEq] at H
     obtain ⟨rfl, rfl, rfl⟩ := H
     go_wp2_with (first | ((with_reducible refine gate_callee (f := 125) rfl ?_); refine gl_ 20 Try.func125 #[.pointer (some ⟨g, 0, none⟩), .int .i64 8] ?_; (with_reducible refine (spec_l01Once.calls g s0_0 x1001_1 x1002_1 8 false t114 t115 w0 _ ?side1 ?side2 A11.out).mono ?_); (case side1 => repeat (first | (with_reducible first | exact HI0.out | apply IsS115.alloc | apply IsS115.drewN | apply IsS115.drew | apply IsS115.set_1 | apply IsS115.set_2) | exact HI0.out)); (case side2 => repeat (first | (with_reducible first | exact HB.out | apply below_alloc | apply pw_below_drewN | apply below_drew1 | refine below_set ?_ (IsS115.ge HI0.out)) | exact HB.out)); rintro e w21 ⟨rfl, hi, hb, hk⟩; refine ⟨_, rfl, ?_⟩; have n0_ := A_ (Kd.R_mono (Kd.R_keep (IsS115.apart (show IsS115 w0 _ g s0_0 x1001_1 x1002_1 from by repeat (first | (with_reducible first | exact HI0.out | apply IsS115.alloc | apply IsS115.drewN | apply IsS115.drew | apply IsS115.set_1 | apply IsS115.set_2) | exact HI0.out)) (by (with_reducible repeat (first | apply Kd.R_alloc | apply Kd.R_drewN | apply Kd.R_drew)); exact HO_3.out) (by decide)) hk (fun _ h => h.2)) (fun _ h => h.1)); have n1_ := A_ (KeepBut.trans (by repeat first | exact HK.1 | apply KeepBut.set_ | apply keep_drewN | apply keep_drew | apply keep_alloc) hk (.inl rfl)); have n2_ := A_ (hb); have n3_ := A_ (hi); clear HO_3 HK HB HI0; have HO_3 := n0_; have HK := n1_; have HB := n2_; have HI0 := n3_; clear n0_ n1_ n2_ n3_; (try clear hb); (try clear hk)))
     go_ret
     exact ⟨_, by first | rfl | (simp [errW_none, errW_some] <;> rfl) | (simp [*, errW_none, errW_some] <;> rfl), by (with_reducible repeat (first | apply Kd.R_alloc | apply Kd.R_drewN | apply Kd.R_drew)); exact HO_3.out, by repeat (first | (with_reducible first | exact HI0.out | apply IsS115.alloc | apply IsS115.drewN | apply IsS115.drew | apply IsS115.set_1 | apply IsS115.set_2) | exact HI0.out), by repeat (first | (with_reducible first | exact HB.out | apply below_alloc | apply pw_below_drewN | apply below_drew1 | refine below_set ?_ (IsS115.ge HI0.out)) | exact HB.out), by repeat (first | (with_reducible first | exact HK.out | apply KeepBut.set_ | apply keep_drewN | apply keep_drew | apply keep_alloc) | exact HK.out)⟩

def spec_DrawChoices.f (k : Nat) (l0 : List Int) : Option (Int × Int × List Int) := (spec_l01New.f k l0).bind fun bt102 => ((spec_l02Grid.f bt102.1 bt102.2.1 bt102.2.2).bind fun bt106 => ((spec_l17Choices.f k bt102.1 bt106.2.2.1 bt106.2.2.2).bind fun bt110 => (some (bt106.1, bt106.2.1, bt110.1))))
set_option maxHeartbeats 8000000 in
set_option maxRecDepth 100000 in
theorem spec_DrawChoices.calls (k : Nat) (A0 : Option Addr) (c0 : Nat) (l0 : List Int) (r1 : Int) (r2 : Int) (r3 : List Int) (w : World) (hr0 : Kd.C (Kd.int .u8) w A0 l0.length l0) (hc0 : l0.length ≤ c0) (h : spec_DrawChoices.f k l0 = some (r1, r2, r3)) :
  Calls Try.prog 45 #[.slice A0 l0.length c0] w fun e w' => ∃ v2_ : Value, e = .returned (.tuple #[.agg #[.int .i64 r1, .int .i64 r2], v2_]) ∧ Kd.R (Kd.int .i64) 3 w' w.heap.size (fun _ => True) v2_ r3 ∧ Below w.heap.size w w' := by
 have hu25 := Try.underlying25
 have HR0 := A_ hr0
 have HC0 := A_ hc0
 clear hr0 hc0
 have HB := A_ (Below.refl w.heap.size w)
 have H : ((spec_l01New.f k l0).bind fun bt102 => ((spec_l02Grid.f bt102.1 bt102.2.1 bt102.2.2).bind fun bt106 => ((spec_l17Choices.f k bt102.1 bt106.2.2.1 bt106.2.2.2).bind fun bt110 => (some (bt106.1, bt106.2.1, bt110.1))))) = some (r1, r2, r3) := h
 clear h
 obtain ⟨⟨t102, t103, t104⟩, A20, H⟩ := oB_ H
 (try dsimp only at H); have A2 := A_ A20; clear A20
 obtain ⟨⟨t106, t107, t108, t109⟩, A30, H⟩ := oB_ H
 (try dsimp only at H); have A3 := A_ A30; clear A30
 obtain ⟨⟨t110, t113, t114⟩, A40, H⟩ := oB_ H
 (try dsimp only at H); have A4 := A_ A40; clear A40
 simp only [Option.some.injEq, Prod.mk.injEq] at H
 obtain ⟨rfl, rfl, rfl⟩ := H
 go_enter Try.func45, Try.ntmps45
 go_wp2_with (first | ((with_reducible refine gate_dst (N := 2) rfl ?_); refine box_event ?hg (N := 2) ?hd (cs := #[.int .i64 0, .int .i64 0]) (t := 25) ?hr ?_; (case hd => rfl); (case hg => rfl); (case hr => first | (go_simp; done) | (go_simp; rfl)); intro gb101 hg w5 hbox hb; have n0_ := A_ (below_step (by repeat first | exact HB.1 | apply bA_ | apply bB_ | apply bC_) hb); have n1_ := A_ (hbox); have n2_ := A_ ((by rw [hg]; exact (below_size (by repeat first | exact HB.1 | apply bA_ | apply bB_ | apply bC_)) : w.heap.size ≤ gb101)); have n3_ := n2_; clear HB; have HB := n0_; have BK101 := n1_; have GW101 := n2_; have GE101 := n3_; clear n0_ n1_ n2_ n3_ hb hbox hg) | ((with_reducible refine gate_callee (f := 67) rfl ?_); refine gl_ 6 Try.func67 #[.slice A0 l0.length c0] ?_; (with_reducible refine (spec_l01New.calls k _ _ l0 t102 t103 t104 w _ ?side1 ?side2 ?side3 A2.out).mono ?_); (case side1 => repeat (first | (with_reducible first | exact HB.out | apply below_alloc | apply pw_below_drewN | apply below_drew1 | refine below_set ?_ GE101.out) | exact HB.out)); (case side2 => exact HR0.out); (case side3 => exact HC0.out); rintro e w6 ⟨g105, rfl, hi, hb, hb2⟩; refine ⟨_, rfl, ?_⟩; have n0_ := A_ (blk_below (g := gb101) (o := .cells #[.int .i64 0, .int .i64 0] 25 (0, 0)) (by (with_reducible repeat first | refine cA_ ?_ _ | refine cB_ ?_ | refine cC_ ?_ _); exact BK101.1) hb2); have n1_ := A_ (hb); have n2_ := A_ (hi); have n3_ := A_ (IsS115.ne_blk hi (blk_below (g := gb101) (o := .cells #[.int .i64 0, .int .i64 0] 25 (0, 0)) (by (with_reducible repeat first | refine cA_ ?_ _ | refine cB_ ?_ | refine cC_ ?_ _); exact BK101.1) hb2) (by decide)); have n4_ := A_ (Ne.symm (IsS115.ne_blk hi (blk_below (g := gb101) (o := .cells #[.int .i64 0, .int .i64 0] 25 (0, 0)) (by (with_reducible repeat first | refine cA_ ?_ _ | refine cB_ ?_ | refine cC_ ?_ _); exact BK101.1) hb2) (by decide))); clear BK101 HB; have BK101 := n0_; have HB := n1_; have HI105 := n2_; have NB105_101 := n3_; have NB101_105 := n4_; clear n0_ n1_ n2_ n3_ n4_; (try clear hb); (try clear hk)) | ((with_reducible refine gate_callee (f := 106) rfl ?_); refine gl_ 8 Try.func106 #[.pointer (some ⟨g105, 0, none⟩)] ?_; (with_reducible refine (spec_l02Grid.calls g105 t102 t103 t104 t106 t107 t108 t109 w _ ?side1 ?side2 A3.out).mono ?_); (case side1 => repeat (first | (with_reducible first | exact HI105.out | apply IsS115.alloc | apply IsS115.drewN | apply IsS115.drew | apply IsS115.set_1 | apply IsS115.set_2 | refine IsS115.far ?_ NB105_101.out _) | exact HI105.out)); (case side2 => repeat (first | (with_reducible first | exact HB.out | apply below_alloc | apply pw_below_drewN | apply below_drew1 | refine below_set ?_ (IsS115.ge HI105.out) | refine below_set ?_ GE101.out) | exact HB.out)); rintro e w7 ⟨rfl, hi, hb, hk⟩; refine ⟨_, rfl, ?_⟩; have n0_ := A_ (KeepBut.blk hk (g' := gb101) (o := .cells #[.int .i64 0, .int .i64 0] 25 (0, 0)) (by (with_reducible repeat first | refine cA_ ?_ _ | refine cB_ ?_ | refine cC_ ?_ _); exact BK101.1) NB101_105.out (by simp)); have n1_ := A_ (hb); have n2_ := A_ (hi); clear BK101 HB HI105; have BK101 := n0_; have HB := n1_; have HI105 := n2_; clear n0_ n1_ n2_; (try clear hb); (try clear hk)) | ((with_reducible refine gate_callee (f := 107) rfl ?_); refine gl_ 10 Try.func107 #[.pointer (some ⟨g105, 0, none⟩)] ?_; (with_reducible refine (spec_l17Choices.calls k g105 t102 t108 t109 t110 t113 t114 w _ ?side1 ?side2 A4.out).mono ?_); (case side1 => repeat (first | (with_reducible first | exact HI105.out | apply IsS115.alloc | apply IsS115.drewN | apply IsS115.drew | apply IsS115.set_1 | apply IsS115.set_2 | refine IsS115.far ?_ NB105_101.out _) | exact HI105.out)); (case side2 => repeat (first | (with_reducible first | exact HB.out | apply below_alloc | apply pw_below_drewN | apply below_drew1 | refine below_set ?_ (IsS115.ge HI105.out) | refine below_set ?_ GE101.out) | exact HB.out)); rintro e w8 ⟨v111, rfl, ho0, hi, hb, hk⟩; refine ⟨_, rfl, ?_⟩; have n0_ := A_ (KeepBut.blk hk (g' := gb101) (o := .cells #[.int .i64 0, .int .i64 0] 25 (0, 0)) (by (with_reducible repeat first | refine cA_ ?_ _ | refine cB_ ?_ | refine cC_ ?_ _); exact BK101.1) NB101_105.out (by simp)); have n1_ := A_ (Kd.R_lower ho0 (below_size (by repeat (first | (with_reducible first | exact HB.out | apply below_alloc | apply pw_below_drewN | apply below_drew1 | refine below_set ?_ (IsS115.ge HI105.out) | refine below_set ?_ GE101.out) | exact HB.out)))); have n2_ := A_ (hb); have n3_ := A_ (hi); clear BK101 HB HI105; have BK101 := n0_; have HO112 := n1_; have HB := n2_; have HI105 := n3_; clear n0_ n1_ n2_ n3_; (try clear hb); (try clear hk); (try clear ho0); have hnb9 := NB101_105.out; have hnc9 := NB105_101.out; obtain ⟨hcz10_0, hcz10_1⟩ := kk2_ BK101.1; have hfz10_0 := bf_ BK101.out 0; have hfz10_1 := bf_ BK101.out 1))
 refine bodyPost_ret (results_ct rfl _ _ gb101 25 #[.int .i64 t106, .int .i64 t107] (0, 0) _ rfl (by (with_reducible repeat (first | refine blk_drewN ?_ _ | refine blk_drew ?_ | refine blk_alloc ?_ _)); refine blk_put (cs := #[.int .i64 t106, .int .i64 0]) ?_ 1 _ rfl; (with_reducible repeat (first | refine blk_drewN ?_ _ | refine blk_drew ?_ | refine blk_alloc ?_ _)); refine blk_put (cs := #[.int .i64 0, .int .i64 0]) ?_ 0 _ rfl; (with_reducible repeat (first | refine blk_drewN ?_ _ | refine blk_drew ?_ | refine blk_alloc ?_ _)); exact BK101.out) Try.underlying25 rfl (by kernel_rfl)) rfl ?_
 exact ⟨_, by first | rfl | (simp [errW_none, errW_some] <;> rfl) | (simp [*, errW_none, errW_some] <;> rfl), by (with_reducible repeat (first | apply Kd.R_alloc | apply Kd.R_drewN | apply Kd.R_drew)); exact Kd.R_mono (Kd.R_far (p := ⟨gb101, 1, none⟩) (Kd.R_far (p := ⟨gb101, 0, none⟩) (Kd.R_types HO112.out BK101.out (by decide)) (fun _ hk => hk.2) (.int .i64 t106)) (fun _ hk => hk.2) (.int .i64 t107)) (fun _ hk => trivial), by repeat (first | (with_reducible first | exact HB.out | apply below_alloc | apply pw_below_drewN | apply below_drew1 | refine below_set ?_ (IsS115.ge HI105.out) | refine below_set ?_ GE101.out) | exact HB.out)⟩

end Go.Proofs.Ytbeajmcjfhbcjaa.P
namespace Go.Proofs.Ytbeajmcjfhbcjaa.P
open Go.RowKit Go.Proofs.YtbeajmcjfhbcjaaW.PrintWords Go.Proofs.YtbeajmcjfhbcjaaW.PrintLast Go.Proofs.YtbeajmcjfhbcjaaW.PrintMore
attribute [local go_sem] max2_int min2_int max_two min_two max_three min_three max_four min_four   -- for this text's walks alone
set_option linter.unusedVariables false
set_option linter.unusedSimpArgs false

attribute [local go_sem high] eqA25
def laws_FnGrown.f (k : Nat) (l0 : List Int) : Option (Bool) := (laws_big.f l0).bind fun t101 => (if t101 = true then (some true) else ((spec_DrawChoices.f k l0).bind fun bt102 => ((impl_GrowMaze.f k bt102.1 bt102.2.1 bt102.2.2).bind fun bt108 => ((impl_DivideMaze.f k bt102.1 bt102.2.1 bt102.2.2).bind fun bt112 => ((impl_IsPerfect.f k bt108.1 bt108.2.1 bt108.2.2).bind fun t116 => (if t116 = true then ((impl_IsPerfect.f k bt112.1 bt112.2.1 bt112.2.2).bind fun t117 => (if t117 = true then (if (bt108.1 == bt102.1 && (bt108.2.1 == bt102.2.1)) = true then (if (bt112.1 == bt102.1 && (bt112.2.1 == bt102.2.1)) = true then ((impl_CountRooms.f k bt102.1 bt102.2.1).bind fun t118 => (some (decide (t118 ≥ 0)))) else (none)) else (none)) else (none))) else (none)))))))
set_option maxHeartbeats 8000000 in
set_option maxRecDepth 100000 in
theorem laws_FnGrown.calls (k : Nat) (A0 : Option Addr) (c0 : Nat) (l0 : List Int) (r : Bool) (w : World) (hr0 : Kd.C (Kd.int .u8) w A0 l0.length l0) (hc0 : l0.length ≤ c0) (h : laws_FnGrown.f k l0 = some r) :
  Calls Try.prog 11 #[.slice A0 l0.length c0] w fun e w' => e = .returned (.bool r) ∧ Below w.heap.size w w' := by
 have hu25 := Try.underlying25
 have hu27 := Try.underlying27
 have HR0 := A_ hr0
 have HC0 := A_ hc0
 clear hr0 hc0
 have HB := A_ (Below.refl w.heap.size w)
 have H : ((laws_big.f l0).bind fun t101 => (if t101 = true then (some true) else ((spec_DrawChoices.f k l0).bind fun bt102 => ((impl_GrowMaze.f k bt102.1 bt102.2.1 bt102.2.2).bind fun bt108 => ((impl_DivideMaze.f k bt102.1 bt102.2.1 bt102.2.2).bind fun bt112 => ((impl_IsPerfect.f k bt108.1 bt108.2.1 bt108.2.2).bind fun t116 => (if t116 = true then ((impl_IsPerfect.f k bt112.1 bt112.2.1 bt112.2.2).bind fun t117 => (if t117 = true then (if (bt108.1 == bt102.1 && (bt108.2.1 == bt102.2.1)) = true then (if (bt112.1 == bt102.1 && (bt112.2.1 == bt102.2.1)) = true then ((impl_CountRooms.f k bt102.1 bt102.2.1).bind fun t118 => (some (decide (t118 ≥ 0)))) else (none)) else (none)) else (none))) else (none)))))))) = some r := h
 clear h
 obtain ⟨t101, A20, H⟩ := oB_ H
 (try dsimp only at H); have A2 := A_ A20; clear A20
 by_cases c3 : t101 = true
 ·subst c3
  rw [if_pos rfl] at H
  obtain rfl := Option.some.inj H
  go_enter Try.func11, Try.ntmps11
  go_wp2_with (first | ((with_reducible refine gate_callee (f := 15) rfl ?_); refine gl_ 8 Try.func15 #[.slice A0 l0.length c0] ?_; (with_reducible refine (laws_big.calls _ _ l0 true _ ?side1 ?side2 A2.out).mono ?_); (case side1 => repeat (first | exact HR0.out | (with_reducible refine Kd.C_alloc ?_ _) | (with_reducible refine Kd.C_drewN ?_ _) | (with_reducible refine Kd.C_drew ?_))); (case side2 => exact HC0.out); rintro e w' ⟨rfl, ⟨nd, rfl⟩⟩; refine ⟨_, rfl, ?_⟩))
  go_ret
  exact ⟨by first | rfl | (simp [errW_none, errW_some] <;> rfl) | (simp [*, errW_none, errW_some] <;> rfl), by repeat (first | (with_reducible first | exact HB.out | apply below_alloc | apply pw_below_drewN | apply below_drew1) | exact HB.out)⟩
 ·replace c3 := Bool.eq_false_iff.mpr c3
  subst c3
  have H1 : ((spec_DrawChoices.f k l0).bind fun bt102 => ((impl_GrowMaze.f k bt102.1 bt102.2.1 bt102.2.2).bind fun bt108 => ((impl_DivideMaze.f k bt102.1 bt102.2.1 bt102.2.2).bind fun bt112 => ((impl_IsPerfect.f k bt108.1 bt108.2.1 bt108.2.2).bind fun t116 => (if t116 = true then ((impl_IsPerfect.f k bt112.1 bt112.2.1 bt112.2.2).bind fun t117 => (if t117 = true then (if (bt108.1 == bt102.1 && (bt108.2.1 == bt102.2.1)) = true then (if (bt112.1 == bt102.1 && (bt112.2.1 == bt102.2.1)) = true then ((impl_CountRooms.f k bt102.1 bt102.2.1).bind fun t118 => (some (decide (t118 ≥ 0)))) else (none)) else (none)) else (none))) else (none)))))) = some r := by rw [if_neg (show ¬ (false = true) by decide)] at H; exact H
  clear H
  have H := H1
  clear H1
  obtain ⟨⟨t102, t103, t104⟩, A40, H⟩ := oB_ H
  (try dsimp only at H); have A4 := A_ A40; clear A40
  obtain ⟨⟨t108, t109, t110⟩, A50, H⟩ := oB_ H
  (try dsimp only at H); have A5 := A_ A50; clear A50
  obtain ⟨⟨t112, t113, t114⟩, A60, H⟩ := oB_ H
  (try dsimp only at H); have A6 := A_ A60; clear A60
  obtain ⟨t116, A70, H⟩ := oB_ H
  (try dsimp only at H); have A7 := A_ A70; clear A70
  by_cases c8 : t116 = true
  ·subst c8
   rw [if_pos rfl] at H
   obtain ⟨t117, A90, H⟩ := oB_ H
   (try dsimp only at H); have A9 := A_ A90; clear A90
   by_cases c10 : t117 = true
   ·subst c10
    rw [if_pos rfl] at H
    by_cases c11 : (t108 == t102 && (t109 == t103)) = true
    ·rw [if_pos c11] at H
     have c11b0 : (t108 == t102 && (t109 == t103)) = true := c11
     (try (have c11b1 : decide (t108 = t102 && (t109 == t103)) = true := by simpa using c11))
     (try (have c11b2 : (t108 == t102 && (t109 == t103)) = true := by simpa using c11))
     clear c11
     by_cases c12 : (t112 == t102 && (t113 == t103)) = true
     ·rw [if_pos c12] at H
      have c12b0 : (t112 == t102 && (t113 == t103)) = true := c12
      (try (have c12b1 : decide (t112 = t102 && (t113 == t103)) = true := by simpa using c12))
      (try (have c12b2 : (t112 == t102 && (t113 == t103)) = true := by simpa using c12))
      clear c12
      obtain ⟨t118, A130, H⟩ := oB_ H
      (try dsimp only at H); have A13 := A_ A130; clear A130
      obtain rfl := Option.some.inj H
      go_enter Try.func11, Try.ntmps11
      go_wp2_with (first | ((with_reducible refine gate_callee (f := 15) rfl ?_); refine gl_ 8 Try.func15 #[.slice A0 l0.length c0] ?_; (with_reducible refine (laws_big.calls _ _ l0 false _ ?side1 ?side2 A2.out).mono ?_); (case side1 => repeat (first | exact HR0.out | (with_reducible refine Kd.C_alloc ?_ _) | (with_reducible refine Kd.C_drewN ?_ _) | (with_reducible refine Kd.C_drew ?_))); (case side2 => exact HC0.out); rintro e w' ⟨rfl, ⟨nd, rfl⟩⟩; refine ⟨_, rfl, ?_⟩) | ((with_reducible refine gate_callee (f := 45) rfl ?_); refine gl_ 11 Try.func45 #[.slice A0 l0.length c0] ?_; (with_reducible refine (spec_DrawChoices.calls k _ _ l0 t102 t103 t104 _ ?side1 ?side2 A4.out).mono ?_); (case side1 => repeat (first | exact HR0.out | (with_reducible refine Kd.C_alloc ?_ _) | (with_reducible refine Kd.C_drewN ?_ _) | (with_reducible refine Kd.C_drew ?_))); (case side2 => exact HC0.out); rintro e w14 ⟨v105, rfl, ho0, hb⟩; refine ⟨_, rfl, ?_⟩; have n0_ := A_ (Kd.R_lower ho0 (below_size (by repeat first | exact HB.1 | apply bA_ | apply bB_ | apply bC_))); have n1_ := A_ (below_step (by repeat first | exact HB.1 | apply bA_ | apply bB_ | apply bC_) hb); clear HB; have HO106 := n0_; have HB := n1_; clear n0_ n1_; (try clear hb); (try clear hk); (try clear ho0)) | ((with_reducible refine gate_dst (N := 3) rfl ?_); refine box_event ?hg (N := 3) ?hd (cs := #[.int .i64 0, .int .i64 0]) (t := 25) ?hr ?_; (case hd => rfl); (case hg => rfl); (case hr => first | (go_simp; done) | (go_simp; rfl)); intro gb107 hg w15 hbox hb; have n0_ := A_ (Kd.R_below (by (with_reducible repeat (first | apply Kd.R_alloc | apply Kd.R_drewN | apply Kd.R_drew)); exact HO106.out) hb); have n1_ := A_ (below_step (by repeat first | exact HB.1 | apply bA_ | apply bB_ | apply bC_) hb); have n2_ := A_ (hbox); have n3_ := A_ ((by rw [hg]; exact (below_size (by repeat first | exact HB.1 | apply bA_ | apply bB_ | apply bC_)) : w.heap.size ≤ gb107)); have n4_ := n3_; clear HO106 HB; have HO106 := n0_; have HB := n1_; have BK107 := n2_; have GW107 := n3_; have GE107 := n4_; clear n0_ n1_ n2_ n3_ n4_ hb hbox hg; obtain ⟨hcz16_0, hcz16_1⟩ := kk2_ BK107.1; have hfz16_0 := bf_ BK107.out 0; have hfz16_1 := bf_ BK107.out 1; obtain ⟨Ao17, co17, eo17⟩ := Kd.R_slice HO106.out; subst eo17) | ((with_reducible refine gate_callee (f := 31) rfl ?_); refine gl_ 16 Try.func31 #[.agg #[.int .i64 t102, .int .i64 t103], .slice Ao17 t104.length co17] ?_; (with_reducible refine (impl_GrowMaze.calls k t102 t103 _ _ t104 t108 t109 t110 _ ?side1 ?side2 A5.out).mono ?_); (case side1 => refine (Kd.R_reads' (e := 3) (base := w.heap.size) (ok := fun k_ => True) (n := t104.length) (c := co17) ?_).2.2; exact (by (with_reducible repeat (first | apply Kd.R_alloc | apply Kd.R_drewN | apply Kd.R_drew)); exact (Kd.R_mono (Kd.R_far (p := ⟨gb107, 1, none⟩) (Kd.R_far (p := ⟨gb107, 0, none⟩) (Kd.R_types HO106.out BK107.out (by decide)) (fun _ hk => hk.2) (.int .i64 t102)) (fun _ hk => hk.2) (.int .i64 t103)) (fun _ h_ => h_.1)))); (case side2 => exact (Kd.R_reads' HO106.out).2.1); rintro e w18 ⟨rfl, hb⟩; refine ⟨_, rfl, ?_⟩; have n0_ := A_ (Kd.R_below (by (with_reducible repeat (first | apply Kd.R_alloc | apply Kd.R_drewN | apply Kd.R_drew)); exact (Kd.R_mono (Kd.R_far (p := ⟨gb107, 1, none⟩) (Kd.R_far (p := ⟨gb107, 0, none⟩) (Kd.R_types HO106.out BK107.out (by decide)) (fun _ hk => hk.2) (.int .i64 t102)) (fun _ hk => hk.2) (.int .i64 t103)) (fun _ h_ => h_.1))) hb); have n1_ := A_ (blk_below (g := gb107) (o := .cells #[.int .i64 t102, .int .i64 t103] 25 (0, 0)) (by (with_reducible repeat (first | refine blk_drewN ?_ _ | refine blk_drew ?_ | refine blk_alloc ?_ _)); refine blk_put (cs := #[.int .i64 t102, .int .i64 0]) ?_ 1 _ rfl; (with_reducible repeat (first | refine blk_drewN ?_ _ | refine blk_drew ?_ | refine blk_alloc ?_ _)); refine blk_put (cs := #[.int .i64 0, .int .i64 0]) ?_ 0 _ rfl; (with_reducible repeat (first | refine blk_drewN ?_ _ | refine blk_drew ?_ | refine blk_alloc ?_ _)); exact BK107.out) hb); have n2_ := A_ (below_step (by repeat first | exact HB.1 | apply bA_ | apply bB_ | apply bC_ | refine below_set ?_ GE107.out) hb); clear HO106 BK107 HB; have HO106 := n0_; have BK107 := n1_; have HB := n2_; clear n0_ n1_ n2_; (try clear hb); (try clear hk)) | ((with_reducible refine gate_dst (N := 5) rfl ?_); refine box_event ?hg (N := 5) ?hd (cs := #[.int .i64 0, .int .i64 0, .int .i64 0]) (t := 27) ?hr ?_; (case hd => rfl); (case hg => rfl); (case hr => first | (go_simp; done) | (go_simp; rfl)); intro gb111 hg w19 hbox hb; have n0_ := A_ (Kd.R_below (by (with_reducible repeat (first | apply Kd.R_alloc | apply Kd.R_drewN | apply Kd.R_drew)); exact HO106.out) hb); have n1_ := A_ (blk_below (g := gb107) (o := .cells #[.int .i64 t102, .int .i64 t103] 25 (0, 0)) (by (with_reducible repeat first | refine cA_ ?_ _ | refine cB_ ?_ | refine cC_ ?_ _); exact BK107.1) hb); have n2_ := A_ (below_step (by repeat first | exact HB.1 | apply bA_ | apply bB_ | apply bC_ | refine below_set ?_ GE107.out) hb); have n3_ := A_ (hbox); have n4_ := A_ ((by rw [hg]; exact (below_size (by repeat first | exact HB.1 | apply bA_ | apply bB_ | apply bC_ | refine below_set ?_ GE107.out)) : w.heap.size ≤ gb111)); have n5_ := n4_; have n6_ := A_ ((by rw [hg]; exact Nat.ne_of_lt (blk_lt (g := gb107) (o := .cells #[.int .i64 t102, .int .i64 t103] 25 (0, 0)) (by (with_reducible repeat first | refine cA_ ?_ _ | refine cB_ ?_ | refine cC_ ?_ _); exact BK107.1)) : gb107 ≠ gb111)); have n7_ := A_ ((by rw [hg]; exact Nat.ne_of_gt (blk_lt (g := gb107) (o := .cells #[.int .i64 t102, .int .i64 t103] 25 (0, 0)) (by (with_reducible repeat first | refine cA_ ?_ _ | refine cB_ ?_ | refine cC_ ?_ _); exact BK107.1)) : gb111 ≠ gb107)); clear HO106 BK107 HB; have HO106 := n0_; have BK107 := n1_; have HB := n2_; have BK111 := n3_; have GW111 := n4_; have GE111 := n5_; have NB107_111 := n6_; have NB111_107 := n7_; clear n0_ n1_ n2_ n3_ n4_ n5_ n6_ n7_ hb hbox hg; have hnb20 := NB111_107.out; have hnc20 := NB107_111.out; obtain ⟨hcz21_0, hcz21_1, hcz21_2⟩ := kk3_ BK111.1; have hfz21_0 := bf_ BK111.out 0; have hfz21_1 := bf_ BK111.out 1; have hfz21_2 := bf_ BK111.out 2; obtain ⟨hcz22_0, hcz22_1⟩ := kk2_ BK107.1; have hfz22_0 := bf_ BK107.out 0; have hfz22_1 := bf_ BK107.out 1) | ((with_reducible refine gate_callee (f := 43) rfl ?_); refine gl_ 19 Try.func43 #[.agg #[.int .i64 t102, .int .i64 t103], .slice Ao17 t104.length co17] ?_; (with_reducible refine (impl_DivideMaze.calls k t102 t103 _ _ t104 t112 t113 t114 _ ?side1 ?side2 A6.out).mono ?_); (case side1 => refine (Kd.R_reads' (e := 3) (base := w.heap.size) (ok := fun k_ => True) (n := t104.length) (c := co17) ?_).2.2; exact (by (with_reducible repeat (first | apply Kd.R_alloc | apply Kd.R_drewN | apply Kd.R_drew)); exact (Kd.R_mono (Kd.R_far (p := ⟨gb111, 2, none⟩) (Kd.R_far (p := ⟨gb111, 1, none⟩) (Kd.R_far (p := ⟨gb111, 0, none⟩) (Kd.R_types HO106.out BK111.out (by decide)) (fun _ hk => hk.2) (.int .i64 t108)) (fun _ hk => hk.2) (.int .i64 t109)) (fun _ hk => hk.2) (.int .i64 t110)) (fun _ h_ => h_.1)))); (case side2 => exact (Kd.R_reads' HO106.out).2.1); rintro e w23 ⟨rfl, hb⟩; refine ⟨_, rfl, ?_⟩; have n0_ := A_ (Kd.R_below (by (with_reducible repeat (first | apply Kd.R_alloc | apply Kd.R_drewN | apply Kd.R_drew)); exact (Kd.R_mono (Kd.R_far (p := ⟨gb111, 2, none⟩) (Kd.R_far (p := ⟨gb111, 1, none⟩) (Kd.R_far (p := ⟨gb111, 0, none⟩) (Kd.R_types HO106.out BK111.out (by decide)) (fun _ hk => hk.2) (.int .i64 t108)) (fun _ hk => hk.2) (.int .i64 t109)) (fun _ hk => hk.2) (.int .i64 t110)) (fun _ h_ => h_.1))) hb); have n1_ := A_ (blk_below (g := gb107) (o := .cells #[.int .i64 t102, .int .i64 t103] 25 (0, 0)) (by (with_reducible repeat (first | refine blk_drewN ?_ _ | refine blk_drew ?_ | refine blk_alloc ?_ _)); refine blk_far ?_ NB107_111.out _; (with_reducible repeat (first | refine blk_drewN ?_ _ | refine blk_drew ?_ | refine blk_alloc ?_ _)); refine blk_far ?_ NB107_111.out _; (with_reducible repeat (first | refine blk_drewN ?_ _ | refine blk_drew ?_ | refine blk_alloc ?_ _)); refine blk_far ?_ NB107_111.out _; (with_reducible repeat (first | refine blk_drewN ?_ _ | refine blk_drew ?_ | refine blk_alloc ?_ _)); exact BK107.out) hb); have n2_ := A_ (blk_below (g := gb111) (o := .cells #[.int .i64 t108, .int .i64 t109, .int .i64 t110] 27 (0, 0)) (by (with_reducible repeat (first | refine blk_drewN ?_ _ | refine blk_drew ?_ | refine blk_alloc ?_ _)); refine blk_put (cs := #[.int .i64 t108, .int .i64 t109, .int .i64 0]) ?_ 2 _ rfl; (with_reducible repeat (first | refine blk_drewN ?_ _ | refine blk_drew ?_ | refine blk_alloc ?_ _)); refine blk_put (cs := #[.int .i64 t108, .int .i64 0, .int .i64 0]) ?_ 1 _ rfl; (with_reducible repeat (first | refine blk_drewN ?_ _ | refine blk_drew ?_ | refine blk_alloc ?_ _)); refine blk_put (cs := #[.int .i64 0, .int .i64 0, .int .i64 0]) ?_ 0 _ rfl; (with_reducible repeat (first | refine blk_drewN ?_ _ | refine blk_drew ?_ | refine blk_alloc ?_ _)); exact BK111.out) hb); have n3_ := A_ (below_step (by repeat first | exact HB.1 | apply bA_ | apply bB_ | apply bC_ | refine below_set ?_ GE107.out | refine below_set ?_ GE111.out) hb); clear HO106 BK107 BK111 HB; have HO106 := n0_; have BK107 := n1_; have BK111 := n2_; have HB := n3_; clear n0_ n1_ n2_ n3_; (try clear hb); (try clear hk)) | ((with_reducible refine gate_dst (N := 6) rfl ?_); refine box_event ?hg (N := 6) ?hd (cs := #[.int .i64 0, .int .i64 0, .int .i64 0]) (t := 27) ?hr ?_; (case hd => rfl); (case hg => rfl); (case hr => first | (go_simp; done) | (go_simp; rfl)); intro gb115 hg w24 hbox hb; have n0_ := A_ (Kd.R_below (by (with_reducible repeat (first | apply Kd.R_alloc | apply Kd.R_drewN | apply Kd.R_drew)); exact HO106.out) hb); have n1_ := A_ (blk_below (g := gb107) (o := .cells #[.int .i64 t102, .int .i64 t103] 25 (0, 0)) (by (with_reducible repeat first | refine cA_ ?_ _ | refine cB_ ?_ | refine cC_ ?_ _); exact BK107.1) hb); have n2_ := A_ (blk_below (g := gb111) (o := .cells #[.int .i64 t108, .int .i64 t109, .int .i64 t110] 27 (0, 0)) (by (with_reducible repeat first | refine cA_ ?_ _ | refine cB_ ?_ | refine cC_ ?_ _); exact BK111.1) hb); have n3_ := A_ (below_step (by repeat first | exact HB.1 | apply bA_ | apply bB_ | apply bC_ | refine below_set ?_ GE107.out | refine below_set ?_ GE111.out) hb); have n4_ := A_ (hbox); have n5_ := A_ ((by rw [hg]; exact (below_size (by repeat first | exact HB.1 | apply bA_ | apply bB_ | apply bC_ | refine below_set ?_ GE107.out | refine below_set ?_ GE111.out)) : w.heap.size ≤ gb115)); have n6_ := n5_; have n7_ := A_ ((by rw [hg]; exact Nat.ne_of_lt (blk_lt (g := gb107) (o := .cells #[.int .i64 t102, .int .i64 t103] 25 (0, 0)) (by (with_reducible repeat first | refine cA_ ?_ _ | refine cB_ ?_ | refine cC_ ?_ _); exact BK107.1)) : gb107 ≠ gb115)); have n8_ := A_ ((by rw [hg]; exact Nat.ne_of_gt (blk_lt (g := gb107) (o := .cells #[.int .i64 t102, .int .i64 t103] 25 (0, 0)) (by (with_reducible repeat first | refine cA_ ?_ _ | refine cB_ ?_ | refine cC_ ?_ _); exact BK107.1)) : gb115 ≠ gb107)); have n9_ := A_ ((by rw [hg]; exact Nat.ne_of_lt (blk_lt (g := gb111) (o := .cells #[.int .i64 t108, .int .i64 t109, .int .i64 t110] 27 (0, 0)) (by (with_reducible repeat first | refine cA_ ?_ _ | refine cB_ ?_ | refine cC_ ?_ _); exact BK111.1)) : gb111 ≠ gb115)); have n10_ := A_ ((by rw [hg]; exact Nat.ne_of_gt (blk_lt (g := gb111) (o := .cells #[.int .i64 t108, .int .i64 t109, .int .i64 t110] 27 (0, 0)) (by (with_reducible repeat first | refine cA_ ?_ _ | refine cB_ ?_ | refine cC_ ?_ _); exact BK111.1)) : gb115 ≠ gb111)); clear HO106 BK107 BK111 HB; have HO106 := n0_; have BK107 := n1_; have BK111 := n2_; have HB := n3_; have BK115 := n4_; have GW115 := n5_; have GE115 := n6_; have NB107_115 := n7_; have NB115_107 := n8_; have NB111_115 := n9_; have NB115_111 := n10_; clear n0_ n1_ n2_ n3_ n4_ n5_ n6_ n7_ n8_ n9_ n10_ hb hbox hg; have hnb25 := NB115_107.out; have hnc25 := NB107_115.out; have hnb26 := NB115_111.out; have hnc26 := NB111_115.out; obtain ⟨hcz27_0, hcz27_1, hcz27_2⟩ := kk3_ BK115.1; have hfz27_0 := bf_ BK115.out 0; have hfz27_1 := bf_ BK115.out 1; have hfz27_2 := bf_ BK115.out 2; obtain ⟨hcz28_0, hcz28_1, hcz28_2⟩ := kk3_ BK111.1; have hfz28_0 := bf_ BK111.out 0; have hfz28_1 := bf_ BK111.out 1; have hfz28_2 := bf_ BK111.out 2) | ((with_reducible refine gate_callee (f := 17) rfl ?_); refine gl_ 21 Try.func17 #[.agg #[.int .i64 t108, .int .i64 t109, .int .i64 t110]] ?_; (with_reducible refine (impl_IsPerfect.calls k t108 t109 t110 true _ A7.out).mono ?_); rintro e w29 ⟨rfl, hb⟩; refine ⟨_, rfl, ?_⟩; have n0_ := A_ (Kd.R_below (by (with_reducible repeat (first | apply Kd.R_alloc | apply Kd.R_drewN | apply Kd.R_drew)); exact (Kd.R_mono (Kd.R_far (p := ⟨gb115, 2, none⟩) (Kd.R_far (p := ⟨gb115, 1, none⟩) (Kd.R_far (p := ⟨gb115, 0, none⟩) (Kd.R_types HO106.out BK115.out (by decide)) (fun _ hk => hk.2) (.int .i64 t112)) (fun _ hk => hk.2) (.int .i64 t113)) (fun _ hk => hk.2) (.int .i64 t114)) (fun _ h_ => h_.1))) hb); have n1_ := A_ (blk_below (g := gb107) (o := .cells #[.int .i64 t102, .int .i64 t103] 25 (0, 0)) (by (with_reducible repeat (first | refine blk_drewN ?_ _ | refine blk_drew ?_ | refine blk_alloc ?_ _)); refine blk_far ?_ NB107_115.out _; (with_reducible repeat (first | refine blk_drewN ?_ _ | refine blk_drew ?_ | refine blk_alloc ?_ _)); refine blk_far ?_ NB107_115.out _; (with_reducible repeat (first | refine blk_drewN ?_ _ | refine blk_drew ?_ | refine blk_alloc ?_ _)); refine blk_far ?_ NB107_115.out _; (with_reducible repeat (first | refine blk_drewN ?_ _ | refine blk_drew ?_ | refine blk_alloc ?_ _)); exact BK107.out) hb); have n2_ := A_ (blk_below (g := gb111) (o := .cells #[.int .i64 t108, .int .i64 t109, .int .i64 t110] 27 (0, 0)) (by (with_reducible repeat (first | refine blk_drewN ?_ _ | refine blk_drew ?_ | refine blk_alloc ?_ _)); refine blk_far ?_ NB111_115.out _; (with_reducible repeat (first | refine blk_drewN ?_ _ | refine blk_drew ?_ | refine blk_alloc ?_ _)); refine blk_far ?_ NB111_115.out _; (with_reducible repeat (first | refine blk_drewN ?_ _ | refine blk_drew ?_ | refine blk_alloc ?_ _)); refine blk_far ?_ NB111_115.out _; (with_reducible repeat (first | refine blk_drewN ?_ _ | refine blk_drew ?_ | refine blk_alloc ?_ _)); exact BK111.out) hb); have n3_ := A_ (blk_below (g := gb115) (o := .cells #[.int .i64 t112, .int .i64 t113, .int .i64 t114] 27 (0, 0)) (by (with_reducible repeat (first | refine blk_drewN ?_ _ | refine blk_drew ?_ | refine blk_alloc ?_ _)); refine blk_put (cs := #[.int .i64 t112, .int .i64 t113, .int .i64 0]) ?_ 2 _ rfl; (with_reducible repeat (first | refine blk_drewN ?_ _ | refine blk_drew ?_ | refine blk_alloc ?_ _)); refine blk_put (cs := #[.int .i64 t112, .int .i64 0, .int .i64 0]) ?_ 1 _ rfl; (with_reducible repeat (first | refine blk_drewN ?_ _ | refine blk_drew ?_ | refine blk_alloc ?_ _)); refine blk_put (cs := #[.int .i64 0, .int .i64 0, .int .i64 0]) ?_ 0 _ rfl; (with_reducible repeat (first | refine blk_drewN ?_ _ | refine blk_drew ?_ | refine blk_alloc ?_ _)); exact BK115.out) hb); have n4_ := A_ (below_step (by repeat first | exact HB.1 | apply bA_ | apply bB_ | apply bC_ | refine below_set ?_ GE107.out | refine below_set ?_ GE111.out | refine below_set ?_ GE115.out) hb); clear HO106 BK107 BK111 BK115 HB; have HO106 := n0_; have BK107 := n1_; have BK111 := n2_; have BK115 := n3_; have HB := n4_; clear n0_ n1_ n2_ n3_ n4_; (try clear hb); (try clear hk); obtain ⟨hcz30_0, hcz30_1, hcz30_2⟩ := kk3_ BK115.1; have hfz30_0 := bf_ BK115.out 0; have hfz30_1 := bf_ BK115.out 1; have hfz30_2 := bf_ BK115.out 2) | (go_at_call 17; (with_reducible refine (impl_IsPerfect.calls k t112 t113 t114 true _ A9.out).mono ?_); rintro e w31 ⟨rfl, hb⟩; have n0_ := A_ (Kd.R_below (by (with_reducible repeat (first | apply Kd.R_alloc | apply Kd.R_drewN | apply Kd.R_drew)); exact HO106.out) hb); have n1_ := A_ (blk_below (g := gb107) (o := .cells #[.int .i64 t102, .int .i64 t103] 25 (0, 0)) (by (with_reducible repeat first | refine cA_ ?_ _ | refine cB_ ?_ | refine cC_ ?_ _); exact BK107.1) hb); have n2_ := A_ (blk_below (g := gb111) (o := .cells #[.int .i64 t108, .int .i64 t109, .int .i64 t110] 27 (0, 0)) (by (with_reducible repeat first | refine cA_ ?_ _ | refine cB_ ?_ | refine cC_ ?_ _); exact BK111.1) hb); have n3_ := A_ (blk_below (g := gb115) (o := .cells #[.int .i64 t112, .int .i64 t113, .int .i64 t114] 27 (0, 0)) (by (with_reducible repeat first | refine cA_ ?_ _ | refine cB_ ?_ | refine cC_ ?_ _); exact BK115.1) hb); have n4_ := A_ (below_step (by repeat first | exact HB.1 | apply bA_ | apply bB_ | apply bC_ | refine below_set ?_ GE107.out | refine below_set ?_ GE111.out | refine below_set ?_ GE115.out) hb); clear HO106 BK107 BK111 BK115 HB; have HO106 := n0_; have BK107 := n1_; have BK111 := n2_; have BK115 := n3_; have HB := n4_; clear n0_ n1_ n2_ n3_ n4_; (try clear hb); (try clear hk); obtain ⟨hcz32_0, hcz32_1, hcz32_2⟩ := kk3_ BK111.1; have hfz32_0 := bf_ BK111.out 0; have hfz32_1 := bf_ BK111.out 1; have hfz32_2 := bf_ BK111.out 2; obtain ⟨hcz33_0, hcz33_1⟩ := kk2_ BK107.1; have hfz33_0 := bf_ BK107.out 0; have hfz33_1 := bf_ BK107.out 1; obtain ⟨hcz34_0, hcz34_1, hcz34_2⟩ := kk3_ BK115.1; have hfz34_0 := bf_ BK115.out 0; have hfz34_1 := bf_ BK115.out 1; have hfz34_2 := bf_ BK115.out 2) | (go_at_call 38; (with_reducible refine (impl_CountRooms.calls k t102 t103 t118 _ A13.out).mono ?_); rintro e w35 ⟨rfl, hb⟩; have n0_ := A_ (Kd.R_below (by (with_reducible repeat (first | apply Kd.R_alloc | apply Kd.R_drewN | apply Kd.R_drew)); exact HO106.out) hb); have n1_ := A_ (blk_below (g := gb107) (o := .cells #[.int .i64 t102, .int .i64 t103] 25 (0, 0)) (by (with_reducible repeat first | refine cA_ ?_ _ | refine cB_ ?_ | refine cC_ ?_ _); exact BK107.1) hb); have n2_ := A_ (blk_below (g := gb111) (o := .cells #[.int .i64 t108, .int .i64 t109, .int .i64 t110] 27 (0, 0)) (by (with_reducible repeat first | refine cA_ ?_ _ | refine cB_ ?_ | refine cC_ ?_ _); exact BK111.1) hb); have n3_ := A_ (blk_below (g := gb115) (o := .cells #[.int .i64 t112, .int .i64 t113, .int .i64 t114] 27 (0, 0)) (by (with_reducible repeat first | refine cA_ ?_ _ | refine cB_ ?_ | refine cC_ ?_ _); exact BK115.1) hb); have n4_ := A_ (below_step (by repeat first | exact HB.1 | apply bA_ | apply bB_ | apply bC_ | refine below_set ?_ GE107.out | refine below_set ?_ GE111.out | refine below_set ?_ GE115.out) hb); clear HO106 BK107 BK111 BK115 HB; have HO106 := n0_; have BK107 := n1_; have BK111 := n2_; have BK115 := n3_; have HB := n4_; clear n0_ n1_ n2_ n3_ n4_; (try clear hb); (try clear hk)))
      go_ret
      exact ⟨by first | rfl | (simp [errW_none, errW_some] <;> rfl) | (simp [*, errW_none, errW_some] <;> rfl), by repeat (first | (with_reducible first | exact HB.out | apply below_alloc | apply pw_below_drewN | apply below_drew1 | refine below_set ?_ GE107.out | refine below_set ?_ GE111.out | refine below_set ?_ GE115.out) | exact HB.out)⟩
     ·rw [if_neg c12] at H; exact absurd H (by simp)
    ·rw [if_neg c11] at H; exact absurd H (by simp)
   ·rw [if_neg c10] at H; exact absurd H (by simp)
  ·rw [if_neg c8] at H; exact absurd H (by simp)
end Go.Proofs.Ytbeajmcjfhbcjaa.P
namespace Go.Proofs.Ytbeajmcjfhbcjaa.P
open Go.RowKit Go.Proofs.YtbeajmcjfhbcjaaW.PrintWords
set_option linter.unusedVariables false
set_option linter.unusedSimpArgs false
section
variable {α β : Type}
theorem Ev.tt {c : Prop} [Decidable c] {g f : Nat → Option α} {r : α} (h : c) (e : Ev g r) : Ev (fun k => if c then g k else f k) r := by simpa only [if_pos h] using e
theorem Ev.ff {c : Prop} [Decidable c] {g f : Nat → Option α} {r : α} (h : ¬ c) (e : Ev f r) : Ev (fun k => if c then g k else f k) r := by simpa only [if_neg h] using e
theorem Ev.ite {c : Prop} [Decidable c] {g f : Nat → Option α} {r : α} (e1 : c → Ev g r) (e2 : ¬ c → Ev f r) : Ev (fun k => if c then g k else f k) r := by
 by_cases h : c
 ·exact Ev.tt h (e1 h)
 ·exact Ev.ff h (e2 h)
theorem Ev.bnd0 {o : Option α} {f : Nat → α → Option β} {a : α} {r : β} (h : o = some a) (k : Ev (fun n => f n a) r) : Ev (fun n => o.bind (f n)) r := by subst h; exact k
theorem Ev.ret {a r : α} (h : a = r) : Ev (fun _ => some a) r := ⟨0, fun _ _ => by rw [h]⟩
theorem Ev.eq {g : Nat → Option α} {r r' : α} (h : Ev g r) (e : r = r') : Ev g r' := e ▸ h
end
theorem wrap64_id {x : Int} (h0 : -9223372036854775808 ≤ x) (h1 : x ≤ 9223372036854775807) : wrap64 x = x := by unfold wrap64; omega
theorem wsucc {i : Nat} (h : i < 4611686018427387904) : wrap64 ((i : Int) + 1) = ((i + 1 : Nat) : Int) := by unfold wrap64; omega
theorem rd_nat (l : List Int) (i : Nat) : rd l (i : Int) = l.getD i 0 := rfl
theorem rd_get {l : List Int} {i : Nat} (h : i < l.length) : rd l (i : Int) = l[i] := by simp [rd_nat, List.getD_eq_getElem?_getD, List.getElem?_eq_getElem h]
end Go.Proofs.Ytbeajmcjfhbcjaa.P
namespace Go.Proofs.Ytbeajmcjfhbcjaa.P
open Go Go.RowKit Go.Proofs.YtbeajmcjfhbcjaaW.PrintWords
set_option linter.unusedVariables false
set_option linter.unusedSimpArgs false

theorem wrap_small {n : Nat} (h : n < 9223372036854775808) : IntKind.i64.wrap (n : Int) = n := by
 rw [IntKind.wrap_i64]; omega
theorem shl_pow {k : Nat} (h : k < 63) : shl .i64 1 (k : Int) = ((2 ^ k : Nat) : Int) := by
 have h1 : (2 : Nat) ^ k < 2 ^ 63 := Nat.pow_lt_pow_right (by decide) h
 unfold shl
 rw [show min (k : Int).toNat IntKind.i64.bits = k by simp [IntKind.bits]; omega, Int.one_mul]
 have := wrap_small (n := 2 ^ k) (by simpa using h1)
 simpa using this
theorem bits_and {a b : Nat} (ha : a < 4611686018427387904) (hb : b < 4611686018427387904) : Go.bits .and .i64 a b = ((a &&& b : Nat) : Int) :=
 (bits_nat .i64 62 (by decide) (fun n h0 h1 => by rw [IntKind.wrap_i64]; omega) a b (by simpa using ha) (by simpa using hb)).1
theorem bits_or {a b : Nat} (ha : a < 4611686018427387904) (hb : b < 4611686018427387904) : Go.bits .or .i64 a b = ((a ||| b : Nat) : Int) :=
 (bits_nat .i64 62 (by decide) (fun n h0 h1 => by rw [IntKind.wrap_i64]; omega) a b (by simpa using ha) (by simpa using hb)).2
def andNot (a b : Nat) : Nat := a ^^^ (a &&& b)
theorem testBit_andNot (a b i : Nat) : (andNot a b).testBit i = (a.testBit i && !b.testBit i) := by
 simp [andNot]
 cases a.testBit i <;> cases b.testBit i <;> rfl
theorem andNot_le (a b : Nat) : andNot a b ≤ a := by
 apply Nat.le_of_testBit
 intro i h
 rw [testBit_andNot] at h
 simp at h
 exact h.1
theorem bits_andNot {a b : Nat} (ha : a < 4611686018427387904) (hb : b < 4611686018427387904) : Go.bits .andNot .i64 a b = ((andNot a b : Nat) : Int) := by
 have e : (BitVec.ofInt 64 (a : Int) &&& ~~~ BitVec.ofInt 64 (b : Int)).toNat = andNot a b := by
  rw [BitVec.ofInt_natCast, BitVec.ofInt_natCast]
  apply Nat.eq_of_testBit_eq
  intro i
  rw [testBit_andNot, BitVec.testBit_toNat, BitVec.getLsbD_and, BitVec.getLsbD_not, BitVec.getLsbD_ofNat, BitVec.getLsbD_ofNat]
  by_cases h : i < 64
  ·simp [h]
  ·have : a.testBit i = false := Nat.testBit_lt_two_pow (Nat.lt_of_lt_of_le (by simpa using ha : a < 2 ^ 62) (Nat.pow_le_pow_right (by decide) (by omega)))
   simp [h, this]
 show IntKind.i64.wrap ((BitVec.ofInt 64 (a : Int) &&& ~~~ BitVec.ofInt 64 (b : Int)).toNat : Int) = _
 rw [e]
 exact wrap_small (by have := andNot_le a b; omega)
theorem shr_nat {m : Nat} (hm : m < 4611686018427387904) (k : Nat) : shr .i64 (m : Int) (k : Int) = ((m / 2 ^ k : Nat) : Int) := by
 unfold shr
 by_cases h : k ≤ 64
 ·rw [show min (k : Int).toNat IntKind.i64.bits = k by simp [IntKind.bits]; omega]
  simp
 ·rw [show min (k : Int).toNat IntKind.i64.bits = 64 by simp [IntKind.bits]; omega]
  have h1 : m / 2 ^ k = 0 := Nat.div_eq_of_lt (Nat.lt_of_lt_of_le (by simpa using hm : m < 2 ^ 62) (Nat.pow_le_pow_right (by decide) (by omega)))
  rw [h1]
  have : (m : Int) / 2 ^ 64 = ((m / 2 ^ 64 : Nat) : Int) := by simp
  rw [this, Nat.div_eq_of_lt (by omega)]
theorem bit_test {m : Nat} (hm : m < 4611686018427387904) (k : Nat) (c : Int) : (Go.bits .and .i64 (shr .i64 (m : Int) (k : Int)) 1 == c) = (((m.testBit k).toNat : Int) == c) := by
 rw [shr_nat hm, show (1 : Int) = ((1 : Nat) : Int) from rfl, bits_and (Nat.lt_of_le_of_lt (Nat.div_le_self _ _) hm) (by decide)]
 congr 2
 rw [Nat.testBit_eq_decide_div_mod_eq, Nat.and_one_is_mod]
 have := Nat.mod_two_eq_zero_or_one (m / 2 ^ k)
 rcases this with h | h <;> simp [h]
theorem bit_one {m : Nat} (hm : m < 4611686018427387904) (k : Nat) : (Go.bits .and .i64 (shr .i64 (m : Int) (k : Int)) 1 == 1) = m.testBit k := by
 rw [bit_test hm]
 cases m.testBit k <;> rfl
def setB (o g : Nat) (b : Bool) : Nat := if b then o ||| 2 ^ g else andNot o (2 ^ g)
theorem testBit_setB (o g : Nat) (b : Bool) (i : Nat) : (setB o g b).testBit i = if i = g then b else o.testBit i := by
 unfold setB
 cases b
 ·simp only [Bool.false_eq_true, if_false, testBit_andNot, Nat.testBit_two_pow]
  by_cases h : i = g
  ·simp [h]
  ·simp [h, show ¬ g = i from fun e => h e.symm]
 ·simp only [if_true, Nat.testBit_or, Nat.testBit_two_pow]
  by_cases h : i = g
  ·simp [h]
  ·simp [h, show ¬ g = i from fun e => h e.symm]
theorem setB_lt {o g n : Nat} (b : Bool) (ho : o < 2 ^ n) (hg : g < n) : setB o g b < 2 ^ n := by
 unfold setB
 split
 ·exact Nat.or_lt_two_pow ho (Nat.pow_lt_pow_right (by decide) hg)
 ·exact Nat.lt_of_le_of_lt (andNot_le _ _) ho
end Go.Proofs.Ytbeajmcjfhbcjaa.P
namespace Go.Proofs.Ytbeajmcjfhbcjaa.P
open Go.RowKit Go.Proofs.YtbeajmcjfhbcjaaW.PrintWords
set_option linter.unusedVariables false
set_option linter.unusedSimpArgs false

def pop : Nat → Nat → Nat
 | 0, _ => 0
 | n + 1, s => pop n s + (s.testBit n).toNat
theorem pop_le (n s : Nat) : pop n s ≤ n := by
 induction n with
 | zero => simp [pop]
 | succ n ih => simp only [pop]; have := Bool.toNat_le (s.testBit n); omega
theorem pop_congr {n s t : Nat} (h : ∀ i, i < n → s.testBit i = t.testBit i) : pop n s = pop n t := by
 induction n with
 | zero => rfl
 | succ n ih => simp only [pop]; rw [ih (fun i hi => h i (by omega)), h n (by omega)]
theorem pop_add (m n s : Nat) : pop (m + n) s = pop m s + pop n (s / 2 ^ m) := by
 induction n with
 | zero => simp [pop]
 | succ n ih =>
  rw [← Nat.add_assoc]
  simp only [pop]
  rw [ih, Nat.add_assoc, Nat.testBit_div_two_pow, Nat.add_comm n m]
theorem pop_mod (n s : Nat) : pop n (s % 2 ^ n) = pop n s := pop_congr fun i hi => by rw [Nat.testBit_mod_two_pow]; simp [hi]
theorem pop_big {n m s : Nat} (h : s < 2 ^ n) (hm : n ≤ m) : pop m s = pop n s := by
 obtain ⟨d, rfl⟩ := Nat.exists_eq_add_of_le hm
 rw [pop_add, Nat.div_eq_of_lt h]
 have : pop d 0 = 0 := by
  induction d with
  | zero => rfl
  | succ d ih => simp only [pop, Nat.zero_testBit]; rw [ih (by omega)]; rfl
 rw [this, Nat.add_zero]
def gridOk (w h : Int) : Bool := decide (1 ≤ w ∧ w ≤ 4 ∧ 1 ≤ h ∧ h ≤ 4)
theorem gridOk_iff {w h : Int} : gridOk w h = true ↔ 1 ≤ w ∧ w ≤ 4 ∧ 1 ≤ h ∧ h ≤ 4 := by simp [gridOk]
theorem grid_cases {w h : Int} (hg : gridOk w h = true) : (w = 1 ∨ w = 2 ∨ w = 3 ∨ w = 4) ∧ (h = 1 ∨ h = 2 ∨ h = 3 ∨ h = 4) := by
 rw [gridOk_iff] at hg
 omega
def cellsOf (w h : Int) : Int := if gridOk w h then w * h else 0
def eastOf (w h : Int) : Int := (w - 1) * h
def gapsOf (w h : Int) : Int := if gridOk w h then (w - 1) * h + w * (h - 1) else 0
theorem cellsOf_range (w h : Int) : 0 ≤ cellsOf w h ∧ cellsOf w h ≤ 16 := by
 unfold cellsOf
 split
 ·rename_i hg
  obtain ⟨h1 | h1 | h1 | h1, h2 | h2 | h2 | h2⟩ := grid_cases hg <;> subst h1 <;> subst h2 <;> decide
 ·omega
theorem gapsOf_range (w h : Int) : 0 ≤ gapsOf w h ∧ gapsOf w h ≤ 24 := by
 unfold gapsOf
 split
 ·rename_i hg
  obtain ⟨h1 | h1 | h1 | h1, h2 | h2 | h2 | h2⟩ := grid_cases hg <;> subst h1 <;> subst h2 <;> decide
 ·omega
theorem pow_le {n : Int} (h0 : 0 ≤ n) (h1 : n ≤ 24) : (1 : Int) ≤ 2 ^ n.toNat ∧ (2 : Int) ^ n.toNat ≤ 16777216 := by
 obtain ⟨m, rfl⟩ := Int.eq_ofNat_of_zero_le h0
 have : m ≤ 24 := by omega
 clear h0 h1
 revert m
 decide +kernel
def isCellI (w h c : Int) : Bool := decide (0 ≤ c ∧ c < cellsOf w h)
def nbI (w h c d : Int) : Int :=
 if 0 ≤ c ∧ c < cellsOf w h then
  (if d = 0 ∧ 0 < c / w then c - w else if d = 1 ∧ c % w < w - 1 then c + 1 else if d = 2 ∧ c / w < h - 1 then c + w else if d = 3 ∧ 0 < c % w then c - 1 else -1)
 else -1
theorem cellsOf_valid {w h c : Int} (h1 : 0 ≤ c) (h2 : c < cellsOf w h) : gridOk w h = true ∧ cellsOf w h = w * h := by
 unfold cellsOf at *
 by_cases hg : gridOk w h = true
 ·exact ⟨hg, if_pos hg⟩
 ·rw [if_neg hg] at h2; omega
def gapsN (w h : Int) : Nat := (gapsOf w h).toNat
theorem gapsN_le (w h : Int) : gapsN w h ≤ 24 := by have := gapsOf_range w h; unfold gapsN; omega
theorem gapsN_cast (w h : Int) : ((gapsN w h : Nat) : Int) = gapsOf w h := by have := gapsOf_range w h; unfold gapsN; omega
def mazeOk (w h o : Int) : Bool := gridOk w h && decide (0 ≤ o ∧ o < 2 ^ gapsN w h)
theorem mazeOk_iff {w h o : Int} : mazeOk w h o = true ↔ gridOk w h = true ∧ ∃ n : Nat, o = (n : Int) ∧ n < 2 ^ gapsN w h := by
 unfold mazeOk
 simp only [Bool.and_eq_true, decide_eq_true_eq]
 constructor
 ·rintro ⟨h1, h2, h3⟩
  obtain ⟨n, rfl⟩ := Int.eq_ofNat_of_zero_le h2
  exact ⟨h1, n, rfl, by exact_mod_cast h3⟩
 ·rintro ⟨h1, n, rfl, h3⟩
  exact ⟨h1, by omega, by exact_mod_cast h3⟩
theorem open_small {w h : Int} {n : Nat} (hn : n < 2 ^ gapsN w h) : n < 16777216 := Nat.lt_of_lt_of_le hn (Nat.pow_le_pow_right (by decide) (gapsN_le w h))
def openI (n : Nat) (g : Int) : Bool := decide (0 ≤ g) && n.testBit g.toNat
def isGapI (w h g : Int) : Bool := decide (0 ≤ g ∧ g < gapsOf w h)
theorem gapsOf_valid {w h g : Int} (h1 : 0 ≤ g) (h2 : g < gapsOf w h) : gridOk w h = true ∧ gapsOf w h = (w - 1) * h + w * (h - 1) := by
 unfold gapsOf at *
 by_cases hg : gridOk w h = true
 ·exact ⟨hg, if_pos hg⟩
 ·rw [if_neg hg] at h2; omega
def gapI (w h c d : Int) : Int :=
 if nbI w h c d < 0 then -1 else if d = 1 ∨ d = 3 then (min c (nbI w h c d)) / w * (w - 1) + (min c (nbI w h c d)) % w else (w - 1) * h + min c (nbI w h c d)
def endsI (w h g : Int) : Int × Int :=
 if 0 ≤ g ∧ g < gapsOf w h then (if g < (w - 1) * h then (g / (w - 1) * w + g % (w - 1), g / (w - 1) * w + g % (w - 1) + 1) else (g - (w - 1) * h, g - (w - 1) * h + w)) else (-1, -1)
theorem nb_dir {w h c d : Int} (hn : 0 ≤ nbI w h c d) : (d = 0 ∨ d = 1 ∨ d = 2 ∨ d = 3) ∧ 0 ≤ c ∧ c < cellsOf w h := by
 unfold nbI at hn
 by_cases hc : 0 ≤ c ∧ c < cellsOf w h
 ·rw [if_pos hc] at hn
  refine ⟨?_, hc⟩
  repeat' split at hn
  all_goals omega
 ·rw [if_neg hc] at hn
  omega
theorem grid_nat {w h : Int} (hg : gridOk w h = true) : ∃ W H : Nat, w = W ∧ h = H ∧ 1 ≤ W ∧ W < 5 ∧ 1 ≤ H ∧ H < 5 := by
 have := gridOk_iff.1 hg
 exact ⟨w.toNat, h.toNat, by omega, by omega, by omega, by omega, by omega, by omega⟩
def StepFacts (w h c d : Int) : Prop :=
 nbI w h c d = -1 ∧ gapI w h c d = -1 ∨
 (0 ≤ nbI w h c d ∧ nbI w h c d < cellsOf w h ∧ nbI w h c d ≠ c ∧ 0 ≤ gapI w h c d ∧ gapI w h c d < gapsOf w h ∧
  endsI w h (gapI w h c d) = (min c (nbI w h c d), max c (nbI w h c d)) ∧ nbI w h (nbI w h c d) ((d + 2) % 4) = c ∧ gapI w h (nbI w h c d) ((d + 2) % 4) = gapI w h c d)
instance (w h c d : Int) : Decidable (StepFacts w h c d) := by unfold StepFacts; infer_instance
theorem step_facts_all : ∀ W : Nat, W < 5 → ∀ H : Nat, H < 5 → ∀ c : Nat, c < 16 → ∀ d : Nat, d < 4 → StepFacts W H c d := by decide +kernel
theorem step_facts (w h c d : Int) : StepFacts w h c d := by
 by_cases hn : 0 ≤ nbI w h c d
 ·obtain ⟨hd, h0, h1⟩ := nb_dir hn
  obtain ⟨hg, hcw⟩ := cellsOf_valid h0 h1
  obtain ⟨W, H, rfl, rfl, hW1, hW2, hH1, hH2⟩ := grid_nat hg
  have hcr := cellsOf_range (W : Int) (H : Int)
  have := step_facts_all W hW2 H hH2 c.toNat (by omega) d.toNat (by omega)
  rwa [show ((c.toNat : Nat) : Int) = c by omega, show ((d.toNat : Nat) : Int) = d by omega] at this
 ·have hm : nbI w h c d = -1 := by
   unfold nbI at *
   by_cases hc : 0 ≤ c ∧ c < cellsOf w h
   ·rw [if_pos hc] at *
    obtain ⟨hg, hcw⟩ := cellsOf_valid hc.1 hc.2
    have hgr := gridOk_iff.1 hg
    have hyw : c / w * w + c % w = c := by rw [Int.mul_comm]; exact Int.mul_ediv_add_emod c w
    have hx0 : 0 ≤ c % w := Int.emod_nonneg _ (by omega)
    repeat' split
    ·rename_i hh
     rw [if_pos hh] at hn
     have : w ≤ c := by
      have : w * 1 ≤ w * (c / w) := Int.mul_le_mul_of_nonneg_left (by omega) (by omega)
      rw [Int.mul_comm (c / w)] at hyw
      omega
     omega
    ·rename_i h1 hh
     rw [if_neg h1, if_pos hh] at hn
     omega
    ·rename_i h1 h2 hh
     rw [if_neg h1, if_neg h2, if_pos hh] at hn
     omega
    ·rename_i h1 h2 h3 hh
     rw [if_neg h1, if_neg h2, if_neg h3, if_pos hh] at hn
     have : 1 ≤ c := by
      have : 0 ≤ c / w * w := Int.mul_nonneg (Int.ediv_nonneg hc.1 (by omega)) (by omega)
      omega
     omega
    ·rfl
   ·rw [if_neg hc]
  refine .inl ⟨hm, ?_⟩
  unfold gapI
  rw [if_pos (by omega)]
def EndFacts (w h g : Int) : Prop :=
 0 ≤ g ∧ g < gapsOf w h → 0 ≤ (endsI w h g).1 ∧ (endsI w h g).1 < (endsI w h g).2 ∧ (endsI w h g).2 < cellsOf w h ∧
  (nbI w h (endsI w h g).1 1 = (endsI w h g).2 ∧ gapI w h (endsI w h g).1 1 = g ∨ nbI w h (endsI w h g).1 2 = (endsI w h g).2 ∧ gapI w h (endsI w h g).1 2 = g)
instance (w h g : Int) : Decidable (EndFacts w h g) := by unfold EndFacts; infer_instance
theorem end_facts_all : ∀ W : Nat, W < 5 → ∀ H : Nat, H < 5 → ∀ g : Nat, g < 24 → EndFacts W H g := by decide +kernel
theorem end_facts {w h g : Int} (h0 : 0 ≤ g) (h1 : g < gapsOf w h) : 0 ≤ (endsI w h g).1 ∧ (endsI w h g).1 < (endsI w h g).2 ∧ (endsI w h g).2 < cellsOf w h ∧
  (nbI w h (endsI w h g).1 1 = (endsI w h g).2 ∧ gapI w h (endsI w h g).1 1 = g ∨ nbI w h (endsI w h g).1 2 = (endsI w h g).2 ∧ gapI w h (endsI w h g).1 2 = g) := by
 obtain ⟨hg, _⟩ := gapsOf_valid h0 h1
 obtain ⟨W, H, rfl, rfl, hW1, hW2, hH1, hH2⟩ := grid_nat hg
 have hr := gapsOf_range (W : Int) (H : Int)
 have := end_facts_all W hW2 H hH2 g.toNat (by omega)
 rw [show ((g.toNat : Nat) : Int) = g by omega] at this
 exact this ⟨h0, h1⟩
theorem nb_lt {w h c d : Int} : nbI w h c d = -1 ∨ 0 ≤ nbI w h c d ∧ nbI w h c d < cellsOf w h := by
 rcases step_facts w h c d with h1 | h1
 ·exact .inl h1.1
 ·exact .inr ⟨h1.1, h1.2.1⟩
def stepI (w h : Int) (n : Nat) (c d : Int) : Int := if openI n (gapI w h c d) then nbI w h c d else -1
theorem step_lt {w h c d : Int} {n : Nat} : stepI w h n c d = -1 ∨ 0 ≤ stepI w h n c d ∧ stepI w h n c d < cellsOf w h := by
 unfold stepI
 split
 ·exact nb_lt
 ·exact .inl rfl
/-- Connected by the edges of n. -/
inductive Cn (e : Nat → Nat × Nat) (n : Nat) : Nat → Nat → Prop
  | refl (x : Nat) : Cn e n x x
  | fwd {x : Nat} (k : Nat) : n.testBit k = true → Cn e n x (e k).1 → Cn e n x (e k).2
  | bwd {x : Nat} (k : Nat) : n.testBit k = true → Cn e n x (e k).2 → Cn e n x (e k).1
theorem Cn.trans {e : Nat → Nat × Nat} {n x y z : Nat} (h : Cn e n x y) (g : Cn e n y z) : Cn e n x z := by
  induction g with
  | refl => exact h
  | fwd k hk _ ih => exact .fwd k hk ih
  | bwd k hk _ ih => exact .bwd k hk ih
theorem Cn.edge {e : Nat → Nat × Nat} {n k : Nat} (h : n.testBit k = true) : Cn e n (e k).1 (e k).2 := .fwd k h (.refl _)
theorem Cn.edge' {e : Nat → Nat × Nat} {n k : Nat} (h : n.testBit k = true) : Cn e n (e k).2 (e k).1 := .bwd k h (.refl _)
theorem Cn.symm {e : Nat → Nat × Nat} {n x y : Nat} (h : Cn e n x y) : Cn e n y x := by
  induction h with
  | refl => exact .refl _
  | fwd k hk _ ih => exact (Cn.edge' hk).trans ih
  | bwd k hk _ ih => exact (Cn.edge hk).trans ih
theorem Cn.mono {e : Nat → Nat × Nat} {n m x y : Nat} (hm : ∀ i, n.testBit i = true → m.testBit i = true) (h : Cn e n x y) : Cn e m x y := by
  induction h with
  | refl => exact .refl _
  | fwd k hk _ ih => exact .fwd k (hm k hk) ih
  | bwd k hk _ ih => exact .bwd k (hm k hk) ih
theorem Cn_add {e : Nat → Nat × Nat} {n k x y : Nat} : Cn e (setB n k true) x y ↔ Cn e n x y ∨ (Cn e n x (e k).1 ∧ Cn e n (e k).2 y) ∨ (Cn e n x (e k).2 ∧ Cn e n (e k).1 y) := by
  have hm : ∀ i, n.testBit i = true → (setB n k true).testBit i = true := fun i hi => by rw [testBit_setB]; split <;> simp [hi]
  have hk : (setB n k true).testBit k = true := by rw [testBit_setB]; simp
  constructor
  · intro h
    induction h with
    | refl => exact .inl (.refl _)
    | fwd j hj _ ih =>
      rw [testBit_setB] at hj
      by_cases e1 : j = k
      · subst e1
        rcases ih with ih | ⟨h1, h2⟩ | ⟨h1, h2⟩
        · exact .inr (.inl ⟨ih, .refl _⟩)
        · exact .inr (.inl ⟨h1, .refl _⟩)
        · exact .inl h1
      · rw [if_neg e1] at hj
        rcases ih with ih | ⟨h1, h2⟩ | ⟨h1, h2⟩
        · exact .inl (.fwd j hj ih)
        · exact .inr (.inl ⟨h1, .fwd j hj h2⟩)
        · exact .inr (.inr ⟨h1, .fwd j hj h2⟩)
    | bwd j hj _ ih =>
      rw [testBit_setB] at hj
      by_cases e1 : j = k
      · subst e1
        rcases ih with ih | ⟨h1, h2⟩ | ⟨h1, h2⟩
        · exact .inr (.inr ⟨ih, .refl _⟩)
        · exact .inl h1
        · exact .inr (.inr ⟨h1, .refl _⟩)
      · rw [if_neg e1] at hj
        rcases ih with ih | ⟨h1, h2⟩ | ⟨h1, h2⟩
        · exact .inl (.bwd j hj ih)
        · exact .inr (.inl ⟨h1, .bwd j hj h2⟩)
        · exact .inr (.inr ⟨h1, .bwd j hj h2⟩)
  · rintro (h | ⟨h1, h2⟩ | ⟨h1, h2⟩)
    · exact h.mono hm
    · exact ((h1.mono hm).trans (Cn.edge hk)).trans (h2.mono hm)
    · exact ((h1.mono hm).trans (Cn.edge' hk)).trans (h2.mono hm)
theorem Cn_zero {e : Nat → Nat × Nat} {x y : Nat} : Cn e 0 x y ↔ x = y := by
  constructor
  · intro h
    induction h with
    | refl => rfl
    | fwd k hk => simp at hk
    | bwd k hk => simp at hk
  · rintro rfl; exact .refl _
/-- The first k bits of n. -/
def low (n k : Nat) : Nat := n % 2 ^ k
theorem testBit_low (n k i : Nat) : (low n k).testBit i = (decide (i < k) && n.testBit i) := Nat.testBit_mod_two_pow ..
theorem low_all {n k : Nat} (h : n < 2 ^ k) : low n k = n := Nat.mod_eq_of_lt h
theorem low_succ_set {n k : Nat} (h : n.testBit k = true) : low n (k + 1) = setB (low n k) k true := by
  apply Nat.eq_of_testBit_eq
  intro i
  rw [testBit_setB, testBit_low, testBit_low]
  by_cases e : i = k
  · subst e; simp [h]
  · rw [if_neg e]
    congr 1
    rw [decide_eq_decide]; omega
theorem low_succ_not {n k : Nat} (h : n.testBit k = false) : low n (k + 1) = low n k := by
  apply Nat.eq_of_testBit_eq
  intro i
  rw [testBit_low, testBit_low]
  by_cases e : i = k
  · subst e; simp [h]
  · congr 1
    rw [decide_eq_decide]; omega
/-- The least vertex of the part of v, by the first k edges. -/
def lab (e : Nat → Nat × Nat) (n : Nat) : Nat → Nat → Nat
  | 0, v => v
  | k + 1, v =>
    if n.testBit k = true then
      (if lab e n k v = max (lab e n k (e k).1) (lab e n k (e k).2) then min (lab e n k (e k).1) (lab e n k (e k).2) else lab e n k v)
    else lab e n k v
theorem lab_facts (e : Nat → Nat × Nat) (n : Nat) : ∀ k, (∀ v, lab e n k v ≤ v ∧ lab e n k (lab e n k v) = lab e n k v) ∧ ∀ x y, lab e n k x = lab e n k y ↔ Cn e (low n k) x y
  | 0 => by
    refine ⟨fun v => ⟨Nat.le_refl _, rfl⟩, fun x y => ?_⟩
    have : low n 0 = 0 := by unfold low; simp [Nat.mod_one]
    rw [this, Cn_zero]
    rfl
  | k + 1 => by
    obtain ⟨h1, h2⟩ := lab_facts e n k
    cases hb : n.testBit k with
    | false =>
      simp only [lab, hb, Bool.false_eq_true, if_false]
      rw [low_succ_not hb]
      exact ⟨h1, h2⟩
    | true =>
      simp only [lab, hb, if_true]
      rw [low_succ_set hb]
      refine ⟨fun v => ?_, fun x y => ?_⟩
      · have a1 := h1 v
        have a2 := h1 (e k).1
        have a3 := h1 (e k).2
        grind
      · rw [Cn_add, ← h2, ← h2, ← h2, ← h2, ← h2]
        grind
/-- Tells whether a vertex is the least of its part. -/
theorem lab_le (e : Nat → Nat × Nat) (n k v : Nat) : lab e n k v ≤ v := ((lab_facts e n k).1 v).1
theorem lab_lab (e : Nat → Nat × Nat) (n k v : Nat) : lab e n k (lab e n k v) = lab e n k v := ((lab_facts e n k).1 v).2
theorem lab_iff {e : Nat → Nat × Nat} {n k : Nat} (hn : n < 2 ^ k) (x y : Nat) : lab e n k x = lab e n k y ↔ Cn e n x y := by
  have := (lab_facts e n k).2 x y
  rwa [low_all hn] at this
theorem lab_least {e : Nat → Nat × Nat} {n k : Nat} (hn : n < 2 ^ k) {x y : Nat} (h : Cn e n x y) : lab e n k x ≤ y := by
  rw [(lab_iff hn x y).2 h]
  exact lab_le ..
theorem lab_cn {e : Nat → Nat × Nat} {n k : Nat} (hn : n < 2 ^ k) (x : Nat) : Cn e n x (lab e n k x) := (lab_iff hn _ _).1 (lab_lab ..).symm
/-- How many of the numbers under v. -/
def cnt (p : Nat → Bool) : Nat → Nat
  | 0 => 0
  | v + 1 => cnt p v + (p v).toNat
theorem cnt_congr {p q : Nat → Bool} {v : Nat} (h : ∀ i, i < v → p i = q i) : cnt p v = cnt q v := by
  induction v with
  | zero => rfl
  | succ n ih => simp only [cnt]; rw [ih (fun i hi => h i (by omega)), h n (by omega)]
theorem cnt_one {p q : Nat → Bool} {v m : Nat} (hm : m < v) (h1 : p m = true) (h2 : q m = false) (h : ∀ i, i < v → i ≠ m → p i = q i) : cnt p v = cnt q v + 1 := by
  induction v with
  | zero => omega
  | succ n ih =>
    simp only [cnt]
    by_cases e : m = n
    · subst e
      rw [cnt_congr (q := q) (fun i hi => h i (by omega) (by omega)), h1, h2]
      simp
    · rw [ih (by omega) (fun i hi hne => h i (by omega) hne), h n (by omega) (fun e' => e e'.symm)]
      omega
/-- The number of parts of v vertices, by k edges. -/
def parts (e : Nat → Nat × Nat) (v k n : Nat) : Nat := cnt (fun c => lab e n k c == c) v
theorem parts_zero (e : Nat → Nat × Nat) (v k : Nat) : parts e v k 0 = v := by
  have : ∀ k c, lab e 0 k c = c := by
    intro k
    induction k with
    | zero => intro c; rfl
    | succ k ih => intro c; simp [lab, ih]
  unfold parts
  simp only [this, beq_self_eq_true]
  induction v with
  | zero => rfl
  | succ n ih => simp only [cnt]; rw [ih]; rfl
theorem pop_setB {m n j : Nat} (hj : j < m) (h : n.testBit j = false) : pop m (setB n j true) = pop m n + 1 := by
  induction m with
  | zero => omega
  | succ m ih =>
    simp only [pop]
    by_cases e : j = m
    · subst e
      rw [pop_congr (t := n) (fun i hi => by rw [testBit_setB, if_neg (by omega)]), testBit_setB, if_pos rfl, h]
      simp
    · rw [ih (by omega), testBit_setB, if_neg (by omega)]
      omega
/-- A graph: the ends of its edges are vertices. -/
def Gr (e : Nat → Nat × Nat) (v k : Nat) : Prop := ∀ j, j < k → (e j).1 < v ∧ (e j).2 < v
theorem lt_of_testBit {n k j : Nat} (hn : n < 2 ^ k) (h : n.testBit j = true) : j < k := by
  rcases Nat.lt_or_ge j k with h1 | h1
  · exact h1
  · rw [Nat.testBit_lt_two_pow (Nat.lt_of_lt_of_le hn (Nat.pow_le_pow_right (by decide) h1))] at h
    cases h
/-- One part: all are connected. -/
theorem parts_one {e : Nat → Nat × Nat} {v k n : Nat} (hn : n < 2 ^ k) (hv : 0 < v) : parts e v k n = 1 ↔ ∀ x, x < v → Cn e n 0 x := by
  have h0 : (lab e n k 0 == 0) = true := by have := lab_le e n k 0; rw [beq_iff_eq]; omega
  have hq : cnt (fun c => c == 0) v = 1 := by
    obtain ⟨v, rfl⟩ : ∃ u, v = u + 1 := ⟨v - 1, by omega⟩
    clear hv
    induction v with
    | zero => rfl
    | succ v ih => simp only [cnt] at *; rw [ih]; simp
  constructor
  · intro h x hx
    have hl := lab_lab e n k x
    have hle := lab_le e n k x
    have hxc := lab_cn (e := e) hn x
    by_cases hz : lab e n k x = 0
    · rw [hz] at hxc; exact hxc.symm
    · exfalso
      unfold parts at h
      have : 2 ≤ cnt (fun c => lab e n k c == c) v := by
        have h2 : cnt (fun c => c == 0 || c == lab e n k x) v = cnt (fun c => c == 0) v + 1 := cnt_one (m := lab e n k x) (by omega) (by simp) (by simpa using hz) (fun i hi hne => by simp [hne])
        have hmono : ∀ (p q : Nat → Bool) (u : Nat), (∀ i, p i = true → q i = true) → cnt p u ≤ cnt q u := by
          intro p q u hpq
          induction u with
          | zero => exact Nat.le_refl _
          | succ u ih =>
            simp only [cnt]
            have := hpq u
            cases hp : p u <;> cases hq : q u <;> simp_all <;> omega
        have h3 := hmono (fun c => c == 0 || c == lab e n k x) (fun c => lab e n k c == c) v (fun i hi => by
          simp at hi
          rcases hi with rfl | rfl
          · exact h0
          · simpa using hl)
        omega
      omega
  · intro h
    unfold parts
    rw [← hq]
    refine cnt_congr fun c hc => ?_
    have := lab_least hn (h c hc).symm
    rw [Bool.eq_iff_iff, beq_iff_eq, beq_iff_eq]
    constructor
    · intro h1; omega
    · rintro rfl; omega
def upd (D : Nat → Int) (y : Nat) (v : Int) : Nat → Int := fun c => if c = y then v else D c
/-- One direction of one cell. -/
def relax (s : Nat → Nat → Int) (x d : Nat) (S : (Nat → Int) × List Nat) : (Nat → Int) × List Nat :=
  if 0 ≤ s x d ∧ S.1 (s x d).toNat < 0 then (upd S.1 (s x d).toNat (S.1 x + 1), S.2 ++ [(s x d).toNat]) else S
def bround (s : Nat → Nat → Int) (x : Nat) (S : (Nat → Int) × List Nat) : (Nat → Int) × List Nat := relax s x 3 (relax s x 2 (relax s x 1 (relax s x 0 S)))
def bfsF (s : Nat → Nat → Int) : Nat → (Nat → Int) × List Nat → Nat → (Nat → Int)
  | 0, S, _ => S.1
  | f + 1, S, i => match S.2[i]? with
    | none => S.1
    | some x => bfsF s f (bround s x S) (i + 1)
/-- The distances from a cell, or -1. -/
def bfsD (s : Nat → Nat → Int) (v src : Nat) : Nat → Int := bfsF s (v + 1) (upd (fun _ => -1) src 0, [src]) 0
/-- Steps stay among v cells. -/
def Rng (s : Nat → Nat → Int) (v : Nat) : Prop := ∀ x d, x < v → d < 4 → s x d = -1 ∨ (0 ≤ s x d ∧ s x d < (v : Int))

structure BInv (s : Nat → Nat → Int) (v src : Nat) (S : (Nat → Int) × List Nat) (i : Nat) (m : Nat) : Prop where
  src0 : S.1 src = 0
  zero : ∀ c, S.1 c = 0 → c = src
  srcq : src ∈ S.2
  inr : ∀ c ∈ S.2, c < v
  nodup : S.2.Nodup
  neg : ∀ c, S.1 c = -1 ∨ 0 ≤ S.1 c
  mem : ∀ c, 0 ≤ S.1 c ↔ c ∈ S.2
  sorted : S.2.Pairwise (fun a b => S.1 a ≤ S.1 b)
  top : ∀ x, S.2[i]? = some x → ∀ c ∈ S.2, S.1 c ≤ S.1 x + 1
  done : ∀ j x, S.2[j]? = some x → ∀ d, d < 4 → (j < i ∨ (j = i ∧ d < m)) → 0 ≤ s x d → 0 ≤ S.1 (s x d).toNat ∧ S.1 (s x d).toNat ≤ S.1 x + 1
  pred : ∀ c ∈ S.2, c = src ∨ ∃ c' d, c' ∈ S.2 ∧ d < 4 ∧ s c' d = (c : Int) ∧ S.1 c = S.1 c' + 1
theorem BInv.start {s : Nat → Nat → Int} {v src : Nat} (h : src < v) : BInv s v src (upd (fun _ => -1) src 0, [src]) 0 0 where
  src0 := by simp [upd]
  zero := fun c => by simp only [upd]; split <;> simp_all
  srcq := by simp
  inr := by simpa using h
  nodup := by simp
  neg := fun c => by simp only [upd]; split <;> simp
  mem := fun c => by
    simp only [upd, List.mem_singleton]
    split
    · rename_i e; simp [e]
    · rename_i e; simp [e]
  sorted := by simp
  top := fun x hx c hc => by
    simp at hx hc
    subst hx hc
    omega
  done := fun j x hx d hd hj => by omega
  pred := fun c hc => .inl (by simpa using hc)
theorem BInv.relax {s : Nat → Nat → Int} {v src : Nat} (hs : Rng s v) {S : (Nat → Int) × List Nat} {i m x : Nat} (hm : m < 4) (hx : S.2[i]? = some x) (I : BInv s v src S i m) :
    BInv s v src (relax s x m S) i (m + 1) ∧ (relax s x m S).2[i]? = some x := by
  have hxq : x ∈ S.2 := List.mem_of_getElem? hx
  have hi : i < S.2.length := by
    rcases Nat.lt_or_ge i S.2.length with h | h
    · exact h
    · rw [List.getElem?_eq_none h] at hx; cases hx
  have hxv := I.inr x hxq
  have hx0 := (I.mem x).2 hxq
  unfold Go.Proofs.Ytbeajmcjfhbcjaa.P.relax
  by_cases hc : 0 ≤ s x m ∧ S.1 (s x m).toNat < 0
  · rw [if_pos hc]
    obtain ⟨y, hy⟩ : ∃ y : Nat, s x m = y := ⟨(s x m).toNat, by omega⟩
    have hyv : y < v := by have := hs x m hxv hm; omega
    rw [hy] at hc ⊢
    simp only [Int.toNat_natCast] at hc ⊢
    have hyq : y ∉ S.2 := fun h => by have := (I.mem y).2 h; omega
    have keep : ∀ c, c ∈ S.2 → upd S.1 y (S.1 x + 1) c = S.1 c := by
      intro c h
      unfold upd
      rw [if_neg]
      rintro rfl
      exact hyq h
    have uy : upd S.1 y (S.1 x + 1) y = S.1 x + 1 := by unfold upd; rw [if_pos rfl]
    have idx : ∀ j z, (S.2 ++ [y])[j]? = some z → S.2[j]? = some z ∨ (j = S.2.length ∧ z = y) := by
      intro j z h
      rcases Nat.lt_or_ge j S.2.length with h1 | h1
      · rw [List.getElem?_append_left h1] at h; exact .inl h
      · rw [List.getElem?_append_right h1] at h
        have : j - S.2.length = 0 := by
          rcases Nat.eq_zero_or_pos (j - S.2.length) with h2 | h2
          · exact h2
          · rw [List.getElem?_eq_none (by simp only [List.length_singleton]; omega)] at h; cases h
        rw [this] at h
        simp at h
        exact .inr ⟨by omega, h.symm⟩
    have I0 : ∀ c, (upd S.1 y (S.1 x + 1), S.2 ++ [y]).1 c = 0 → c = src := by
      intro c
      show upd _ _ _ c = 0 → _
      unfold upd
      split
      · intro h; omega
      · exact I.zero c
    refine ⟨{ src0 := ?_, zero := I0, srcq := ?_, inr := ?_, nodup := ?_, neg := ?_, mem := ?_, sorted := ?_, top := ?_, done := ?_, pred := ?_ }, by rw [List.getElem?_append_left hi]; exact hx⟩
    · show upd _ _ _ src = 0
      rw [keep _ I.srcq]; exact I.src0
    · exact List.mem_append_left _ I.srcq
    · intro c hcq
      rcases List.mem_append.1 hcq with h | h
      · exact I.inr c h
      · simp at h; omega
    · rw [List.nodup_append]
      refine ⟨I.nodup, by simp, ?_⟩
      intro a ha b hb hab
      simp at hb
      subst hab hb
      exact hyq ha
    · intro c
      show upd _ _ _ c = -1 ∨ 0 ≤ upd _ _ _ c
      by_cases e : c = y
      · subst e; rw [uy]; omega
      · rw [show upd S.1 y (S.1 x + 1) c = S.1 c from if_neg e]; exact I.neg c
    · intro c
      rw [List.mem_append, List.mem_singleton]
      show 0 ≤ upd _ _ _ c ↔ _
      unfold upd
      by_cases e : c = y
      · rw [if_pos e]; exact ⟨fun _ => .inr e, fun _ => by omega⟩
      · rw [if_neg e, I.mem]; simp [e]
    · rw [List.pairwise_append]
      refine ⟨I.sorted.imp_of_mem fun {a b} ha hb h => ?_, by simp, ?_⟩
      · show upd _ _ _ a ≤ upd _ _ _ b
        rw [keep a ha, keep b hb]; exact h
      · intro a ha b hb
        simp at hb
        subst hb
        show upd _ _ _ a ≤ upd _ _ _ b
        rw [keep a ha, uy]
        exact I.top x hx a ha
    · intro z hz c hcq
      rw [List.getElem?_append_left hi, hx] at hz
      obtain rfl := Option.some.inj hz
      show upd _ _ _ c ≤ upd _ _ _ x + 1
      rw [keep x hxq]
      rcases List.mem_append.1 hcq with h | h
      · rw [keep c h]; exact I.top x hx c h
      · simp at h; subst h; rw [uy]; omega
    · intro j z hz d hd hj h0
      rcases idx j z hz with h | ⟨h, _⟩
      · have hzq : z ∈ S.2 := List.mem_of_getElem? h
        show 0 ≤ upd _ _ _ _ ∧ upd _ _ _ _ ≤ upd _ _ _ z + 1
        rw [keep z hzq]
        by_cases e : j = i ∧ d = m
        · obtain ⟨rfl, rfl⟩ := e
          rw [hx] at h
          obtain rfl := Option.some.inj h
          rw [hy, Int.toNat_natCast, uy]
          omega
        · have := I.done j z h d hd (by omega) h0
          have h1 := (I.mem _).1 this.1
          rw [keep _ h1]
          exact this
      · omega
    · intro c hcq
      rcases List.mem_append.1 hcq with h | h
      · rcases I.pred c h with h1 | ⟨c', d, h1, h2, h3, h4⟩
        · exact .inl h1
        · refine .inr ⟨c', d, List.mem_append_left _ h1, h2, h3, ?_⟩
          show upd _ _ _ c = upd _ _ _ c' + 1
          rw [keep c h, keep c' h1]; exact h4
      · simp at h
        subst h
        refine .inr ⟨x, m, List.mem_append_left _ hxq, hm, hy, ?_⟩
        show upd _ _ _ c = upd _ _ _ x + 1
        rw [uy, keep x hxq]
  · rw [if_neg hc]
    refine ⟨{ I with done := ?_ }, hx⟩
    intro j z hz d hd hj h0
    by_cases e : j = i ∧ d = m
    · obtain ⟨rfl, rfl⟩ := e
      rw [hx] at hz
      obtain rfl := Option.some.inj hz
      have h1 : 0 ≤ S.1 (s x d).toNat := by
        have := I.neg (s x d).toNat
        omega
      exact ⟨h1, I.top x hx _ ((I.mem _).1 h1)⟩
    · exact I.done j z hz d hd (by omega) h0
theorem BInv.next {s : Nat → Nat → Int} {v src : Nat} {S : (Nat → Int) × List Nat} {i x : Nat} (hx : S.2[i]? = some x) (I : BInv s v src S i 4) : BInv s v src S (i + 1) 0 :=
  { I with
    top := fun z hz c hc => by
      have h1 := I.top x hx c hc
      have h2 := List.pairwise_iff_getElem.1 I.sorted i (i + 1)
      obtain ⟨a, rfl⟩ := List.getElem?_eq_some_iff.1 hx
      obtain ⟨b, rfl⟩ := List.getElem?_eq_some_iff.1 hz
      have := h2 a b (by omega)
      omega
    done := fun j z hz d hd hj h0 => I.done j z hz d hd (by omega) h0 }
theorem BInv.round {s : Nat → Nat → Int} {v src : Nat} (hs : Rng s v) {S : (Nat → Int) × List Nat} {i x : Nat} (hx : S.2[i]? = some x) (I : BInv s v src S i 0) : BInv s v src (bround s x S) (i + 1) 0 := by
  obtain ⟨I1, h1⟩ := I.relax hs (by omega) hx
  obtain ⟨I2, h2⟩ := I1.relax hs (by omega) h1
  obtain ⟨I3, h3⟩ := I2.relax hs (by omega) h2
  obtain ⟨I4, h4⟩ := I3.relax hs (by omega) h3
  exact I4.next h4
theorem nodup_len {v : Nat} : ∀ {q : List Nat}, q.Nodup → (∀ c ∈ q, c < v) → q.length ≤ v := by
  induction v with
  | zero =>
    intro q _ h
    cases q with
    | nil => simp
    | cons a l => have := h a (by simp); omega
  | succ v ih =>
    intro q hn h
    have h1 := ih (q := q.erase v) (hn.erase v) (fun c hc => by
      have h1 := h c (List.mem_of_mem_erase hc)
      have : c ≠ v := by rintro rfl; exact absurd hc (List.Nodup.not_mem_erase hn)
      omega)
    have h2 := List.length_erase (a := v) (l := q)
    split at h2 <;> omega
theorem BInv.len {s : Nat → Nat → Int} {v src : Nat} {S : (Nat → Int) × List Nat} {i m : Nat} (I : BInv s v src S i m) : S.2.length ≤ v := nodup_len I.nodup I.inr
/-- What distances are. -/
structure Dist (s : Nat → Nat → Int) (v src : Nat) (D : Nat → Int) : Prop where
  src0 : D src = 0
  zero : ∀ c, D c = 0 → c = src
  neg : ∀ c, D c = -1 ∨ 0 ≤ D c
  inr : ∀ c, 0 ≤ D c → c < v
  lip : ∀ x d, d < 4 → 0 ≤ D x → 0 ≤ s x d → 0 ≤ D (s x d).toNat ∧ D (s x d).toNat ≤ D x + 1
  pred : ∀ c, 0 < D c → ∃ c' d, d < 4 ∧ s c' d = (c : Int) ∧ 0 ≤ D c' ∧ D c = D c' + 1
theorem BInv.dist {s : Nat → Nat → Int} {v src : Nat} {S : (Nat → Int) × List Nat} {i : Nat} (hi : S.2[i]? = none) (I : BInv s v src S i 0) : Dist s v src S.1 where
  src0 := I.src0
  zero := I.zero
  neg := I.neg
  inr := fun c h => I.inr c ((I.mem c).1 h)
  lip := fun x d hd hx h0 => by
    obtain ⟨j, hj⟩ := List.mem_iff_getElem?.1 ((I.mem x).1 hx)
    refine I.done j x hj d hd (.inl ?_) h0
    rcases Nat.lt_or_ge j i with h | h
    · exact h
    · rw [List.getElem?_eq_none_iff] at hi
      rw [List.getElem?_eq_none (by omega)] at hj
      cases hj
  pred := fun c h => by
    rcases I.pred c ((I.mem c).1 (by omega)) with h1 | ⟨c', d, h1, h2, h3, h4⟩
    · rw [h1, I.src0] at h; omega
    · exact ⟨c', d, h2, h3, (I.mem c').2 h1, h4⟩
theorem bfsF_dist {s : Nat → Nat → Int} {v src : Nat} (hs : Rng s v) : ∀ (f : Nat) (S : (Nat → Int) × List Nat) (i : Nat), BInv s v src S i 0 → i ≤ S.2.length → v + 1 - i ≤ f → Dist s v src (bfsF s f S i)
  | 0, S, i, I, hi, hf => by have := I.len; omega
  | f + 1, S, i, I, hi, hf => by
    simp only [bfsF]
    cases h : S.2[i]? with
    | none => exact I.dist h
    | some x =>
      have I2 := I.round hs h
      have hl : S.2.length ≤ (bround s x S).2.length := by
        have h1 : ∀ m T, T.2.length ≤ (Go.Proofs.Ytbeajmcjfhbcjaa.P.relax s x m T).2.length := by
          intro m T
          unfold Go.Proofs.Ytbeajmcjfhbcjaa.P.relax
          split <;> simp
        exact Nat.le_trans (h1 0 S) (Nat.le_trans (h1 1 _) (Nat.le_trans (h1 2 _) (h1 3 _)))
      have h2 := (List.getElem?_eq_some_iff.1 h).1
      exact bfsF_dist hs f _ (i + 1) I2 (by omega) (by omega)
theorem bfsD_dist {s : Nat → Nat → Int} {v src : Nat} (hs : Rng s v) (h : src < v) : Dist s v src (bfsD s v src) := bfsF_dist hs _ _ 0 (BInv.start h) (by simp) (by omega)
/-- Steps are the edges of n. -/
structure Net (s : Nat → Nat → Int) (e : Nat → Nat × Nat) (v n : Nat) : Prop where
  rng : Rng s v
  edge : ∀ x d, x < v → d < 4 → 0 ≤ s x d → ∃ k, n.testBit k = true ∧ (e k = (x, (s x d).toNat) ∨ e k = ((s x d).toNat, x))
  lt : ∀ k, n.testBit k = true → (e k).1 < v ∧ (e k).2 < v
  fwd : ∀ k, n.testBit k = true → ∃ d, d < 4 ∧ s (e k).1 d = ((e k).2 : Int)
  bwd : ∀ k, n.testBit k = true → ∃ d, d < 4 ∧ s (e k).2 d = ((e k).1 : Int)
theorem Dist.cn {s : Nat → Nat → Int} {e : Nat → Nat × Nat} {v n src : Nat} {D : Nat → Int} (N : Net s e v n) (I : Dist s v src D) (c : Nat) : 0 ≤ D c ↔ Cn e n src c := by
  constructor
  · intro h
    obtain ⟨m, hm⟩ : ∃ m : Nat, D c = m := ⟨(D c).toNat, by omega⟩
    clear h
    induction m using Nat.strongRecOn generalizing c with
    | _ m ih =>
      by_cases h0 : 0 < D c
      · obtain ⟨c', d, hd, h1, h2, h3⟩ := I.pred c h0
        have := ih (D c').toNat (by omega) c' (by omega)
        obtain ⟨k, hk, hk2⟩ := N.edge c' d (I.inr _ h2) hd (by omega)
        rw [h1] at hk2
        simp only [Int.toNat_natCast] at hk2
        rcases hk2 with h | h
        · have e1 := Cn.edge (e := e) hk
          rw [h] at e1
          exact this.trans e1
        · have e1 := Cn.edge' (e := e) hk
          rw [h] at e1
          exact this.trans e1
      · rw [I.zero c (by omega)]
        exact .refl _
  · intro h
    induction h with
    | refl => rw [I.src0]; omega
    | fwd k hk _ ih =>
      obtain ⟨d, hd, h1⟩ := N.fwd k hk
      have := I.lip _ d hd ih (by omega)
      rw [h1] at this
      simpa using this.1
    | bwd k hk _ ih =>
      obtain ⟨d, hd, h1⟩ := N.bwd k hk
      have := I.lip _ d hd ih (by omega)
      rw [h1] at this
      simpa using this.1
def cellsN (w h : Int) : Nat := (cellsOf w h).toNat
theorem cellsN_cast (w h : Int) : ((cellsN w h : Nat) : Int) = cellsOf w h := by have := cellsOf_range w h; unfold cellsN; omega
theorem cellsN_le (w h : Int) : cellsN w h ≤ 16 := by have := cellsOf_range w h; unfold cellsN; omega
def ends (w h : Int) (g : Nat) : Nat × Nat := ((endsI w h g).1.toNat, (endsI w h g).2.toNat)
def st (w h : Int) (n : Nat) (c d : Nat) : Int := stepI w h n c d
theorem ends_facts {w h : Int} {g : Nat} (hg : g < gapsN w h) : endsI w h g = (((ends w h g).1 : Int), ((ends w h g).2 : Int)) ∧ (ends w h g).1 < (ends w h g).2 ∧ (ends w h g).2 < cellsN w h := by
 have hc := gapsN_cast w h
 have hc2 := cellsN_cast w h
 obtain ⟨h1, h2, h3, _⟩ := end_facts (w := w) (h := h) (g := g) (by omega) (by omega)
 unfold ends
 refine ⟨?_, by simp only; omega, by simp only; omega⟩
 apply Prod.ext
 ·simp only; omega
 ·simp only; omega
theorem step_open {w h : Int} {n : Nat} {c d : Int} (hn : n < 2 ^ gapsN w h) (h0 : 0 ≤ stepI w h n c d) : ∃ g : Nat, g < gapsN w h ∧ gapI w h c d = g ∧ n.testBit g = true ∧ stepI w h n c d = nbI w h c d ∧ endsI w h g = (min c (nbI w h c d), max c (nbI w h c d)) := by
 have hc := gapsN_cast w h
 unfold stepI at *
 by_cases ho : openI n (gapI w h c d) = true
 ·rw [if_pos ho] at *
  rcases step_facts w h c d with ⟨h1, _⟩ | ⟨h1, h2, h3, h4, h5, h6, _⟩
  ·omega
  ·refine ⟨(gapI w h c d).toNat, by omega, by omega, ?_, rfl, ?_⟩
   ·unfold openI at ho
    simp only [Bool.and_eq_true] at ho
    exact ho.2
   ·rw [show (((gapI w h c d).toNat : Nat) : Int) = gapI w h c d by omega]; exact h6
 ·rw [if_neg ho] at h0; omega
theorem net_grid {w h : Int} {n : Nat} (hn : n < 2 ^ gapsN w h) : Net (st w h n) (ends w h) (cellsN w h) n where
 rng := fun x d _ _ => by
  have := cellsN_cast w h
  unfold st
  rcases step_lt (w := w) (h := h) (c := x) (d := d) (n := n) with h1 | h1
  ·exact .inl h1
  ·exact .inr (by omega)
 edge := fun x d hx hd h0 => by
  unfold st at *
  obtain ⟨g, h1, h2, h3, h4, h5⟩ := step_open hn h0
  refine ⟨g, h3, ?_⟩
  unfold ends
  rw [h5, h4]
  rw [h4] at h0
  rcases Int.le_total x (nbI w h x d) with hl | hl
  ·left
   rw [Int.min_eq_left hl, Int.max_eq_right hl]; rfl
  ·right
   rw [Int.min_eq_right hl, Int.max_eq_left hl]; rfl
 lt := fun k hk => by
  have := ends_facts (lt_of_testBit hn hk)
  omega
 fwd := fun k hk => by
  have hkg := lt_of_testBit hn hk
  have hc := gapsN_cast w h
  obtain ⟨e1, e2, e3⟩ := ends_facts hkg
  obtain ⟨_, _, _, h4⟩ := end_facts (w := w) (h := h) (g := k) (by omega) (by omega)
  rw [e1] at h4
  simp only at h4
  have ho : openI n (k : Int) = true := by unfold openI; simp [hk]
  rcases h4 with ⟨a, b⟩ | ⟨a, b⟩
  ·exact ⟨1, by omega, by unfold st stepI; rw [show ((1 : Nat) : Int) = 1 from rfl, b, if_pos ho, a]⟩
  ·exact ⟨2, by omega, by unfold st stepI; rw [show ((2 : Nat) : Int) = 2 from rfl, b, if_pos ho, a]⟩
 bwd := fun k hk => by
  have hkg := lt_of_testBit hn hk
  have hc := gapsN_cast w h
  obtain ⟨e1, e2, e3⟩ := ends_facts hkg
  obtain ⟨_, _, _, h4⟩ := end_facts (w := w) (h := h) (g := k) (by omega) (by omega)
  rw [e1] at h4
  simp only at h4
  have ho : openI n (k : Int) = true := by unfold openI; simp [hk]
  rcases h4 with ⟨a, b⟩ | ⟨a, b⟩
  ·rcases step_facts w h (ends w h k).1 1 with ⟨q, _⟩ | ⟨q1, q2, q3, q4, q5, q6, q7, q8⟩
   ·omega
   ·rw [a] at q7 q8
    exact ⟨3, by omega, by unfold st stepI; rw [show ((3 : Nat) : Int) = (1 + 2) % 4 from rfl, q8, b, if_pos ho, q7]⟩
  ·rcases step_facts w h (ends w h k).1 2 with ⟨q, _⟩ | ⟨q1, q2, q3, q4, q5, q6, q7, q8⟩
   ·omega
   ·rw [a] at q7 q8
    exact ⟨0, by omega, by unfold st stepI; rw [show ((0 : Nat) : Int) = (2 + 2) % 4 from rfl, q8, b, if_pos ho, q7]⟩
def distN (w h : Int) (n s : Nat) : Nat → Int := bfsD (st w h n) (cellsN w h) s
theorem distN_dist {w h : Int} {n s : Nat} (hn : n < 2 ^ gapsN w h) (hs : s < cellsN w h) : Dist (st w h n) (cellsN w h) s (distN w h n s) := bfsD_dist (net_grid hn).rng hs
theorem distN_cn {w h : Int} {n s : Nat} (hn : n < 2 ^ gapsN w h) (hs : s < cellsN w h) (c : Nat) : 0 ≤ distN w h n s c ↔ Cn (ends w h) n s c := (distN_dist hn hs).cn (net_grid hn) c
theorem pop_full (n : Nat) : pop n (2 ^ n - 1) = n := by
 have : ∀ m, m ≤ n → pop m (2 ^ n - 1) = m := by
  intro m
  induction m with
  | zero => intro _; rfl
  | succ m ih =>
   intro h
   simp only [pop]
   rw [ih (by omega), Nat.testBit_two_pow_sub_one]
   simp
   omega
 exact this n (Nat.le_refl n)
def ec (c : Nat) (A : Nat → Nat → Int) : Nat → Nat → Int := fun j d => if d < c then A j d else A j (d + 1)
end Go.Proofs.Ytbeajmcjfhbcjaa.P
namespace Go.Proofs.Ytbeajmcjfhbcjaa.P
open Go.RowKit Go.Proofs.YtbeajmcjfhbcjaaW.PrintWords
set_option linter.unusedVariables false
set_option linter.unusedSimpArgs false

def dl (x y : Nat) : Int := if x = y then 1 else 0
def vg (l : Nat → Nat) (r : Nat) (e : Nat × Nat) (x : Nat) : Int := if x = r then 0 else dl x (l e.1) - dl x (l e.2)
section
variable {e : Nat → Nat × Nat} {E : Nat} {l : Nat → Nat} {r : Nat} {U : Nat → Bool} {g P Q : Nat}
variable (hl : ∀ x, l (l x) = l x) (hr : l r = r) (hg : g < E) (hU : U g = true) (hP : P = l (e g).1 ∧ Q = l (e g).2 ∨ P = l (e g).2 ∧ Q = l (e g).1) (hPQ : P ≠ Q)
include hl hr hg hU hP hPQ
end
end Go.Proofs.Ytbeajmcjfhbcjaa.P
namespace Go.Proofs.Ytbeajmcjfhbcjaa.P
open Go.RowKit Go.Proofs.YtbeajmcjfhbcjaaW.PrintWords
set_option linter.unusedVariables false
set_option linter.unusedSimpArgs false

/-- One part, and no loop. -/
def perf (e : Nat → Nat × Nat) (V E t : Nat) : Bool := decide (parts e V E t = 1 ∧ pop E t + 1 = V)
theorem perf_iff {e : Nat → Nat × Nat} {V E t : Nat} : perf e V E t = true ↔ parts e V E t = 1 ∧ pop E t + 1 = V := by unfold perf; rw [decide_eq_true_eq]
theorem filter_head {p : Nat → Bool} {m v : Nat} (hm : m < v) (hp : p m = true) (h : ∀ i, i < m → p i = false) : ∃ t, (List.range v).filter p = m :: t := by
 obtain ⟨d, rfl⟩ : ∃ d, v = m + (d + 1) := ⟨v - m - 1, by omega⟩
 rw [List.range_add, List.filter_append]
 have h1 : (List.range m).filter p = [] := by
  rw [List.filter_eq_nil_iff]
  intro a ha
  rw [h a (List.mem_range.1 ha)]
  simp
 rw [h1, List.nil_append, List.range_succ_eq_map, List.map_cons, Nat.add_zero, List.filter_cons, if_pos hp]
 exact ⟨_, rfl⟩
def reachN (w h : Int) (n s : Nat) : List Nat := (List.range (cellsN w h)).filter fun c => decide (0 ≤ distN w h n s c)
def labN (w h : Int) (n c : Nat) : Nat := lab (ends w h) n (gapsN w h) c
theorem reachN_head {w h : Int} {n s : Nat} (hn : n < 2 ^ gapsN w h) (hs : s < cellsN w h) : ∃ t, reachN w h n s = labN w h n s :: t := by
 have hle := lab_le (ends w h) n (gapsN w h) s
 refine filter_head (show labN w h n s < cellsN w h by unfold labN; omega) ?_ ?_
 ·rw [decide_eq_true_eq, distN_cn hn hs]
  exact lab_cn hn s
 ·intro i hi
  rw [decide_eq_false_iff_not, distN_cn hn hs]
  intro hc
  have := lab_least hn hc
  unfold labN at hi
  omega
def partsN (w h : Int) (n : Nat) : Nat := parts (ends w h) (cellsN w h) (gapsN w h) n
def perfN (w h : Int) (n : Nat) : Bool := perf (ends w h) (cellsN w h) (gapsN w h) n
theorem cells_pos {w h : Int} (hg : gridOk w h = true) : 1 ≤ cellsN w h := by
 unfold cellsN cellsOf
 rw [if_pos hg]
 obtain ⟨h1 | h1 | h1 | h1, h2 | h2 | h2 | h2⟩ := grid_cases hg <;> subst h1 <;> subst h2 <;> decide
end Go.Proofs.Ytbeajmcjfhbcjaa.P
