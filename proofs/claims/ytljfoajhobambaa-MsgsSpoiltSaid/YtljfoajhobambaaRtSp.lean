/- psephoslaw06.right: its beginning. Printed by gen_rt.py. -/
import Derived.Test.YtljfoajhobambaaRgoSp
import Derived.Test.YtljfoajhobambaaPhaseSp
import Derived.Test.YtljfoajhobambaaCpySp
import Derived.Test.YtljfoajhobambaaMxSp
import Derived.Deep.RegionHeld3
namespace Go.Proofs.Ytljfoajhobambaa
open Go.RowKit
set_option linter.unusedVariables false
set_option linter.unusedSimpArgs false

theorem within_i64 (v n : Int) (w : World) (hv : isI64 v) (hn : isI64 n) :
    Calls Try.prog 17 #[.int .i64 v, .int .i64 n] w fun e w' => e = .returned (.int .i64 (Psp.within v n)) ∧ w = w' := within_any v n w hv.1 hv.2 hn.1 hn.2

/-- The message's rows of requests, votes, parts are the call's own. -/
structure Owns (w w' : World) (m : Psp.Msg) (vb vo vp : Value) : Prop where
  b : w'.ownsRow w.heap.size 50 6 vb m.b.length (m.b.flatMap rq)
  o : w'.ownsRow w.heap.size 52 2 vo m.o.length (m.o.flatMap vt)
  p : ∃ xs : List PartV, xs.map (·.p) = m.p ∧ w'.ownsRow w.heap.size 54 4 vp m.p.length (xs.flatMap pv) ∧ ∀ y ∈ xs, PartOk w' (fun k => w.heap.size ≤ k ∧ vp.ownBlock ≠ some k) y
  zb : m.b = [] → vb = .slice none 0 0
  zo : m.o = [] → vo = .slice none 0 0
  zp : m.p = [] → vp = .slice none 0 0
theorem own_lit1 {W : World} {g base k : Nat} {cs : Array Value} {e : TypeId} (h : W.heap[g]? = some (.cells cs e (0, 0))) (hk : cs.size = k) (hb : base ≤ g) : W.ownsRow base e k (.slice (some ⟨g, 0, none⟩) 1 1) 1 cs.toList :=
  ⟨by rw [Nat.one_mul, ← hk, Array.length_toList], Or.inr ⟨g, 1, cs, rfl, hb, h, Nat.le_refl _, by unfold maxLen; omega, by rw [hk, Nat.one_mul], by rw [Nat.one_mul, ← hk, ← Array.length_toList, List.take_length]⟩⟩
theorem owns_p {w w' : World} : ∃ xs : List PartV, xs.map (·.p) = ([] : List Psp.Part) ∧ w'.ownsRow w.heap.size 54 4 (.slice none 0 0) ([] : List Psp.Part).length (xs.flatMap pv) ∧ ∀ y ∈ xs, PartOk w' (fun k => w.heap.size ≤ k ∧ (Value.slice none 0 0).ownBlock ≠ some k) y :=
  ⟨[], rfl, World.ownsRow_nil _ _ _ _, fun _ h => by cases h⟩
theorem owns_none {w w' : World} {k f v i q r : Int} {c : List Psp.Cert} : Owns w w' ⟨k, f, v, i, q, r, [], [], c, []⟩ (.slice none 0 0) (.slice none 0 0) (.slice none 0 0) :=
  ⟨World.ownsRow_nil _ _ _ _, World.ownsRow_nil _ _ _ _, owns_p, fun _ => rfl, fun _ => rfl, fun _ => rfl⟩
theorem owns_req {w w' : World} {k f v i q r : Int} {x : Psp.Req} {vb : Value} (h : w'.ownsRow w.heap.size 50 6 vb 1 (rq x)) : Owns w w' ⟨k, f, v, i, q, r, [x], [], [], []⟩ vb (.slice none 0 0) (.slice none 0 0) :=
  ⟨by simpa using h, World.ownsRow_nil _ _ _ _, owns_p, fun h => (by cases h), fun _ => rfl, fun _ => rfl⟩

/-- A call that returns a message. -/
def Gives (m : Psp.Msg) (w : World) (e : Ending) (w' : World) : Prop := ∃ (Ab Ao Ac Ap : Option Addr) (cb co cc cp : Nat),
  e = .returned (.agg #[.int .i64 m.k, .int .i64 m.f, .int .i64 m.v, .int .i64 m.i, .int .i64 m.q, .int .i64 m.r, .slice Ab m.b.length cb, .slice Ao m.o.length co, .slice Ac m.c.length cc, .slice Ap m.p.length cp]) ∧
  MsgOk w' (fun b => w.heap.size ≤ b) ⟨m, .slice Ab m.b.length cb, .slice Ao m.o.length co, .slice Ac m.c.length cc, .slice Ap m.p.length cp⟩ ∧ Below w.heap.size w w' ∧ Owns w w' m (.slice Ab m.b.length cb) (.slice Ao m.o.length co) (.slice Ap m.p.length cp)
/-- Whatever way a region goes, it ends in one state. -/
theorem wp_join {P : Program} {c : Code} {Q : Exit → Act → World → Prop} {a : Act} {w : World} (A0 : Act) (W0 : World) (h : c.wp P (thenN fun a' w' => a' = A0 ∧ w' = W0) a w) (rest : Q .normal A0 W0) : c.wp P Q a w :=
  Code.wp_mono (fun e a' w' he => by
    cases e with
    | normal => obtain ⟨rfl, rfl⟩ := he; exact rest
    | _ => exact he.elim) h

set_option maxRecDepth 100000 in
set_option maxHeartbeats 4000000 in
theorem right_6 (k0 f0 c0 v0 i0 q0 o0 y0 z0 : Int) (w : World) (hk : isI64 k0) (hf : isI64 f0) (hc : isI64 c0) (hv : isI64 v0) (hi : isI64 i0) (hq : isI64 q0) (hy : isI64 y0) (hz : isI64 z0) (h6 : Psp.within k0 10 = 5) :
    Calls Try.prog 27 #[.int .i64 k0, .int .i64 f0, .int .i64 c0, .int .i64 v0, .int .i64 i0, .int .i64 q0, .agg #[.int .i64 o0, .int .i64 y0, .int .i64 z0]] w (Gives ⟨6, Psp.primary (1 + Psp.within f0 4) (Psp.within v0 12) (Psp.within i0 (1 + Psp.within f0 4 + 1)), Psp.within v0 12, 0, 0, 0, [], [], [], []⟩ w) := by
  obtain ⟨f1, hf1⟩ : ∃ x, Psp.within f0 4 = x := ⟨_, rfl⟩
  have f1a : 0 ≤ f1 := by rw [← hf1]; exact Psp.within_lo _ _
  have f1b : f1 < 4 := by rw [← hf1]; exact Psp.within_hi _ _ (by omega)
  obtain ⟨c1, hc1⟩ : ∃ x, Psp.within c0 4 = x := ⟨_, rfl⟩
  have c1a : 0 ≤ c1 := by rw [← hc1]; exact Psp.within_lo _ _
  have c1b : c1 < 4 := by rw [← hc1]; exact Psp.within_hi _ _ (by omega)
  obtain ⟨v1, hv1⟩ : ∃ x, Psp.within v0 12 = x := ⟨_, rfl⟩
  have v1a : 0 ≤ v1 := by rw [← hv1]; exact Psp.within_lo _ _
  have v1b : v1 < 12 := by rw [← hv1]; exact Psp.within_hi _ _ (by omega)
  obtain ⟨i1, hi1⟩ : ∃ x, Psp.within i0 (1 + f1 + 1) = x := ⟨_, rfl⟩
  have i1a : 0 ≤ i1 := by rw [← hi1]; exact Psp.within_lo _ _
  have i1b : i1 < 1 + f1 + 1 := by rw [← hi1]; exact Psp.within_hi _ _ (by omega)
  obtain ⟨q1, hq1⟩ : ∃ x, Psp.within q0 16 = x := ⟨_, rfl⟩
  have q1a : 0 ≤ q1 := by rw [← hq1]; exact Psp.within_lo _ _
  have q1b : q1 < 16 := by rw [← hq1]; exact Psp.within_hi _ _ (by omega)
  go_enter Try.func27, Try.ntmps27
  go_wp2_with (go_at_call 17; refine (within_i64 _ _ _ (by first | assumption | exact ⟨by omega, by omega⟩) (by exact ⟨by omega, by omega⟩)).mono ?_; rintro e w' ⟨rfl, rfl⟩)
  obtain ⟨y1, hy1⟩ : ∃ x, Psp.within y0 64 = x := ⟨_, rfl⟩
  obtain ⟨z1, hz1⟩ : ∃ x, Psp.within z0 1000 = x := ⟨_, rfl⟩
  have hs2 : ((w.alloc (.cells #[.int .i64 o0, .int .i64 y0, .int .i64 z0] 47)).alloc (.cells zs 27)).heap.size = w.heap.size + 2 := by simp
  have hc2 := obj_below (heap_alloc_new w (.cells #[.int .i64 o0, .int .i64 y0, .int .i64 z0] 47)) (alloc_below _ (.cells zs 27)) (Nat.le_refl _)
  have hr2 : ((w.alloc (.cells #[.int .i64 o0, .int .i64 y0, .int .i64 z0] 47)).alloc (.cells zs 27)).heap[w.heap.size + 1]? = some (.cells zs 27 (0, 0)) := by have h := heap_alloc_new (w.alloc (.cells #[.int .i64 o0, .int .i64 y0, .int .i64 z0] 47)) (.cells zs 27); simpa using h
  have hb2 : Below w.heap.size w ((w.alloc (.cells #[.int .i64 o0, .int .i64 y0, .int .i64 z0] 47)).alloc (.cells zs 27)) := (alloc_below w _).trans ((alloc_below _ _).mono (by simp))
  obtain ⟨W2, hW2⟩ : ∃ W, (w.alloc (.cells #[.int .i64 o0, .int .i64 y0, .int .i64 z0] 47)).alloc (.cells zs 27) = W := ⟨_, rfl⟩
  rw [show (w.alloc (.cells #[.int .i64 o0, .int .i64 y0, .int .i64 z0] 47)).alloc (.cells #[.int .i64 0, .int .i64 0, .int .i64 0, .int .i64 0, .int .i64 0, .int .i64 0, .slice none 0 0, .slice none 0 0, .slice none 0 0, .slice none 0 0] 27) = W2 from hW2]
  rw [hW2] at hs2 hc2 hr2 hb2
  replace hs2 : w.heap.size + 2 ≤ W2.heap.size := by omega
  have HC2 := Lib.hid hc2
  have HR2 := Lib.hid hr2
  have HB2 := Lib.hid hb2
  have x1 : W2.cell? ⟨w.heap.size, 1, none⟩ = some (.int .i64 y0) := by rw [cell_of_row W2 _ 1 _ _ _ hc2]; rfl
  have x2 : W2.cell? ⟨w.heap.size, 2, none⟩ = some (.int .i64 z0) := by rw [cell_of_row W2 _ 2 _ _ _ hc2]; rfl
  clear hW2 hc2 hr2 hb2
  have hst := And.intro x1 x2
  have hwr : IntKind.i64.wrap (1 + c1 - 1) = c1 := (IntWalk.i64_in _ (by omega)).trans (by omega)
  apply wp_join (W0 := (W2.alloc (.cells #[.int .i64 c1, .int .i64 (1 + q1), .int .i64 1, .int .i64 y1, .int .i64 z1, .int .i64 0] 50)).drew)
  case h =>
   go_region_held3 (fun w' => w'.cell? ⟨w.heap.size, 1, none⟩ = some (.int .i64 y0) ∧ w'.cell? ⟨w.heap.size, 2, none⟩ = some (.int .i64 z0))
    (first | assumption | go_keep | (go_split_ands; exact ⟨by assumption, by assumption⟩) | (go_split_ands; exact ⟨((alloc_below W2 _).cell (p := ⟨w.heap.size, 1, none⟩) (by show w.heap.size < W2.heap.size; omega)).trans x1, ((alloc_below W2 _).cell (p := ⟨w.heap.size, 2, none⟩) (by show w.heap.size < W2.heap.size; omega)).trans x2⟩))
    (first | (go_at_call 17; refine (within_i64 _ _ _ (by first | assumption | exact ⟨by omega, by omega⟩) (by exact ⟨by omega, by omega⟩)).mono ?_; rintro e w' ⟨rfl, rfl⟩))
   all_goals exact ⟨rfl, rfl⟩
  have hb3 : Below W2.heap.size W2 ((W2.alloc (.cells #[.int .i64 c1, .int .i64 (1 + q1), .int .i64 1, .int .i64 y1, .int .i64 z1, .int .i64 0] 50)).drew) := (alloc_below W2 _).drew
  have hq3 : ((W2.alloc (.cells #[.int .i64 c1, .int .i64 (1 + q1), .int .i64 1, .int .i64 y1, .int .i64 z1, .int .i64 0] 50)).drew).heap[W2.heap.size]? = some (.cells #[.int .i64 c1, .int .i64 (1 + q1), .int .i64 1, .int .i64 y1, .int .i64 z1, .int .i64 0] 50 (0, 0)) := heap_alloc_new W2 _
  obtain ⟨W3, hW3⟩ : ∃ W, (W2.alloc (.cells #[.int .i64 c1, .int .i64 (1 + q1), .int .i64 1, .int .i64 y1, .int .i64 z1, .int .i64 0] 50)).drew = W := ⟨_, rfl⟩
  rw [hW3] at hb3 hq3 ⊢
  clear hW3 hst x1 x2 hwr
  have HB3 := Lib.hid (Below.then HB2.out hb3 HB2.out.size)
  have HC3 := Lib.hid (obj_below HC2.out hb3 (Nat.le_refl _))
  have HR3 := Lib.hid (obj_below HR2.out hb3 (Nat.le_refl _))
  have HQ3 := Lib.hid hq3
  clear hb3 hq3 HB2 HC2 HR2
  obtain ⟨pr, hpr⟩ : ∃ x, Psp.primary (1 + f1) v1 i1 = x := ⟨_, rfl⟩
  have HPr : Hid (∀ W : World, Calls Try.prog 69 #[.int .i64 (1 + f1), .int .i64 v1, .int .i64 i1] W fun e w' => e = .returned (.int .i64 pr) ∧ W = w') := Lib.hid fun W => by rw [← hpr]; exact r_primary_any (1 + f1) v1 i1 W (by omega) (by omega) (by omega) (by omega)
  have HE : Hid ((⟨6, Psp.primary (1 + Psp.within f0 4) (Psp.within v0 12) (Psp.within i0 (1 + Psp.within f0 4 + 1)), Psp.within v0 12, 0, 0, 0, [], [], [], []⟩ : Psp.Msg) = ⟨6, pr, v1, 0, 0, 0, [], [], [], []⟩) := Lib.hid (by rw [hf1, hv1, hi1, hpr])
  clear hf1 hc1 hv1 hi1 hq1 hy1 hz1 hpr
  go_upto_region 5 with (first | (go_at_call 17; refine (within_i64 _ _ _ (by first | assumption | exact ⟨by omega, by omega⟩) (by exact ⟨by omega, by omega⟩)).mono ?_; rintro e w' ⟨rfl, rfl⟩) | (go_at_call 69; refine (HPr.out _).mono ?_; rintro e w' ⟨rfl, rfl⟩))
  have hb4 := alloc_below W3 (.cells #[.int .i64 6, .int .i64 pr, .int .i64 0, .int .i64 0, .int .i64 0, .int .i64 0, .slice none 0 0, .slice none 0 0, .slice none 0 0, .slice none 0 0] 27)
  have hm4 := heap_alloc_new W3 (.cells #[.int .i64 6, .int .i64 pr, .int .i64 0, .int .i64 0, .int .i64 0, .int .i64 0, .slice none 0 0, .slice none 0 0, .slice none 0 0, .slice none 0 0] 27)
  obtain ⟨W4, hW4⟩ : ∃ W, W3.alloc (.cells #[.int .i64 6, .int .i64 pr, .int .i64 0, .int .i64 0, .int .i64 0, .int .i64 0, .slice none 0 0, .slice none 0 0, .slice none 0 0, .slice none 0 0] 27) = W := ⟨_, rfl⟩
  rw [hW4] at hb4 hm4 ⊢
  clear hW4
  have HB4 := Lib.hid (Below.then HB3.out hb4 HB3.out.size)
  have HR4 := Lib.hid (obj_below HR3.out hb4 (Nat.le_refl _))
  have HM4 := Lib.hid hm4
  have hr3 := (Array.getElem?_eq_some_iff.1 HR3.out).1
  have x0 : W4.cell? ⟨W3.heap.size, 0, none⟩ = some (.int .i64 6) := by rw [cell_of_row W4 _ 0 _ _ _ hm4]; rfl
  have x2 : W4.cell? ⟨W3.heap.size, 2, none⟩ = some (.int .i64 0) := by rw [cell_of_row W4 _ 2 _ _ _ hm4]; rfl
  have z2 := frozen_of_row W4 _ 2 _ _ hm4
  clear hb4 hm4 HB3 HC3 HR3
  go_upto_region 28 with fail
  have hFp : Fp (fun b => b = W3.heap.size) W4 (W4.setCell ⟨W3.heap.size, 2, none⟩ (.int .i64 v1)) := (Fp.refl (fun b => b = W3.heap.size) W4).setCell (p := ⟨W3.heap.size, 2, none⟩) (Or.inl (show W3.heap.size = W3.heap.size from rfl)) _
  have hm5 : (W4.setCell ⟨W3.heap.size, 2, none⟩ (.int .i64 v1)).heap[W3.heap.size]? = some (.cells #[.int .i64 6, .int .i64 pr, .int .i64 v1, .int .i64 0, .int .i64 0, .int .i64 0, .slice none 0 0, .slice none 0 0, .slice none 0 0, .slice none 0 0] 27 (0, 0)) := by
    rw [heap_setCell_same W4 W3.heap.size 2 _ _ _ HM4.out]; rfl
  obtain ⟨W5, hW5⟩ : ∃ W, W4.setCell ⟨W3.heap.size, 2, none⟩ (.int .i64 v1) = W := ⟨_, rfl⟩
  rw [hW5] at hFp hm5 ⊢
  clear hW5 x0 x2 z2
  have HB5 := Lib.hid (HB4.out.trans (hFp.to_below (B := w.heap.size) HB4.out.size fun k hk he => by omega))
  have hr5 := (hFp.block (w.heap.size + 1) (Array.getElem?_eq_some_iff.1 HR4.out).1 (by omega)).trans HR4.out
  obtain ⟨y0', y1', y2', y3', y4', y5', y6', y7', y8', y9'⟩ := box_cells hm5
  have Hth := Lib.hid (row_there hr5)
  obtain ⟨s1, s2⟩ := row_store hr5 [.int .i64 6, .int .i64 pr, .int .i64 v1, .int .i64 0, .int .i64 0, .int .i64 0, .slice none 0 0, .slice none 0 0, .slice none 0 0, .slice none 0 0] rfl
  have T1 := Lib.hid s1
  have T3 := Lib.hid (below_setCells HB5.out (w.heap.size + 1) (by omega) [.int .i64 6, .int .i64 pr, .int .i64 v1, .int .i64 0, .int .i64 0, .int .i64 0, .slice none 0 0, .slice none 0 0, .slice none 0 0, .slice none 0 0])
  clear s1 s2 hr5 hFp hm5
  go_wp2_with (first | (refine wpList_store_mid rfl 27 (.tmp 14) (.tmp 142) rfl (w.heap.size + 1) 0 #[.int .i64 6, .int .i64 pr, .int .i64 v1, .int .i64 0, .int .i64 0, .int .i64 0, .slice none 0 0, .slice none 0 0, .slice none 0 0, .slice none 0 0] rfl rfl Hth.out sizeM (by simp [Value.oneCell']) ?_))
  refine bodyPost_ret (v := .agg #[.int .i64 6, .int .i64 pr, .int .i64 v1, .int .i64 0, .int .i64 0, .int .i64 0, .slice none 0 0, .slice none 0 0, .slice none 0 0, .slice none 0 0]) ?_ rfl ?_
  · exact results_cell_row Try.results27 _ _ (w.heap.size + 1) _ _ _ _ rfl T1.out Try.underlying27 rfl sizeM
  · have hE := HE.out
    rw [hE]
    exact ⟨none, none, none, none, 0, 0, 0, 0, rfl, ⟨RdP.none_, RdP.none_, RdC.nil, RdA.nil⟩, T3.out, owns_none⟩
end Go.Proofs.Ytljfoajhobambaa

