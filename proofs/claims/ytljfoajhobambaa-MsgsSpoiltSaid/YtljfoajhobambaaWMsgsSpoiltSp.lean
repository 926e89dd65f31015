/- The walk of MsgsSpoilt. Printed by gen_wspoilt.py. -/
import Derived.Test.YtljfoajhobambaaGrSp
import Derived.Test.YtljfoajhobambaaFaSp
import Derived.Test.YtljfoajhobambaaGlSp
import Derived.Test.YtljfoajhobambaaSplSp
namespace Go.Proofs.Ytljfoajhobambaa.msgsSpoilt
open Go.RowKit
set_option linter.unusedVariables false
set_option linter.unusedSimpArgs false

theorem right_rok (k0 f0 c0 v0 i0 q0 y0 z0 : Int) (q : Nat) (hqq : (q : Int) = 2 * (1 + Psp.within f0 4) + 1) : Rok (rightA k0 f0 c0 v0 i0 q0 y0 z0 q) (1 + Psp.within f0 4) (1 + Psp.within c0 4) := by
  have k1 : 0 ≤ Psp.within k0 10 := Psp.within_lo _ _
  have k2 : Psp.within k0 10 < 10 := Psp.within_hi _ _ (by omega)
  have f1 : 0 ≤ Psp.within f0 4 := Psp.within_lo _ _
  have f2 : Psp.within f0 4 < 4 := Psp.within_hi _ _ (by omega)
  have c1 : 0 ≤ Psp.within c0 4 := Psp.within_lo _ _
  have c2 : Psp.within c0 4 < 4 := Psp.within_hi _ _ (by omega)
  have hqr : Psp.quorum (1 + Psp.within f0 4) = (q : Int) := by unfold Psp.quorum; rw [if_pos ⟨by omega, by omega⟩, hqq]
  have ks : Psp.within k0 10 = 0 ∨ Psp.within k0 10 = 1 ∨ Psp.within k0 10 = 2 ∨ Psp.within k0 10 = 3 ∨ Psp.within k0 10 = 4 ∨ Psp.within k0 10 = 5 ∨ Psp.within k0 10 = 6 ∨ Psp.within k0 10 = 7 ∨ Psp.within k0 10 = 8 ∨ Psp.within k0 10 = 9 := by omega
  unfold rightA
  rcases ks with e | e | e | e | e | e | e | e | e | e <;> rw [e] <;> refine ⟨⟨by omega, by omega⟩, ⟨by omega, by omega⟩, ?_, ?_, ?_, ?_⟩ <;> simp [rightM, qL_len, ptsR_len, hqr]
theorem okL_len {α : Type} {ok : α → Bool} {l : List α} (h : Psp.okL ok l = true) : l.length ≤ 256 := by
  unfold Psp.okL at h
  rw [Bool.and_eq_true, decide_eq_true_eq] at h
  exact h.1
/-- No two of its rows are there at once. -/
structure Alone (m : Psp.Msg) : Prop where
  b : m.b ≠ [] → m.o = [] ∧ m.c = [] ∧ m.p = []
  o : m.o ≠ [] → m.b = [] ∧ m.c = [] ∧ m.p = []
  p : m.p ≠ [] → m.b = [] ∧ m.o = [] ∧ m.c = []
theorem right_alone (k0 f0 c0 v0 i0 q0 y0 z0 : Int) (q : Nat) : Alone (rightA k0 f0 c0 v0 i0 q0 y0 z0 q) := by
  have k1 : 0 ≤ Psp.within k0 10 := Psp.within_lo _ _
  have k2 : Psp.within k0 10 < 10 := Psp.within_hi _ _ (by omega)
  have ks : Psp.within k0 10 = 0 ∨ Psp.within k0 10 = 1 ∨ Psp.within k0 10 = 2 ∨ Psp.within k0 10 = 3 ∨ Psp.within k0 10 = 4 ∨ Psp.within k0 10 = 5 ∨ Psp.within k0 10 = 6 ∨ Psp.within k0 10 = 7 ∨ Psp.within k0 10 = 8 ∨ Psp.within k0 10 = 9 := by omega
  unfold rightA
  rcases ks with e | e | e | e | e | e | e | e | e | e <;> rw [e] <;> constructor <;> simp [rightM]
theorem keep_nil {W W' : World} {P P' : Nat → Prop} {A : Option Addr} {c : Nat} {k : Nat} (h : RdP W P k (.slice A 0 c) 0 []) : RdP W' P' k (.slice A 0 c) 0 [] := by
  obtain ⟨h1, A', c', h2, h3, h4, h5⟩ := h
  exact ⟨h1, A', c', h2, h3, h4, fun hn => absurd hn (by omega)⟩

theorem nilV {W W' : World} {P P' : Nat → Prop} {A : Option Addr} {c : Nat} {l : List Psp.Vote} (h : RdV W P (.slice A l.length c) l) (e : l = []) : RdV W' P' (.slice A l.length c) l := by
  subst e; exact keep_nil h
theorem nilR {W W' : World} {P P' : Nat → Prop} {A : Option Addr} {c : Nat} {l : List Psp.Req} (h : RdR W P (.slice A l.length c) l) (e : l = []) : RdR W' P' (.slice A l.length c) l := by
  subst e; exact keep_nil h
theorem nilC {W W' : World} {P P' : Nat → Prop} {A : Option Addr} {c : Nat} {l : List Psp.Cert} (h : RdC W P (.slice A l.length c) l) (e : l = []) : RdC W' P' (.slice A l.length c) l := by
  subst e
  obtain ⟨L, hL, hr, hc⟩ := h
  have hn : L = [] := List.map_eq_nil_iff.1 hL
  subst hn
  exact ⟨[], rfl, keep_nil hr, fun _ h => by cases h⟩
theorem nilA {W W' : World} {P P' : Nat → Prop} {A : Option Addr} {c : Nat} {l : List Psp.Part} (h : RdA W P (.slice A l.length c) l) (e : l = []) : RdA W' P' (.slice A l.length c) l := by
  subst e
  obtain ⟨L, hL, hr, hc⟩ := h
  have hn : L = [] := List.map_eq_nil_iff.1 hL
  subst hn
  exact ⟨[], rfl, keep_nil hr, fun _ h => by cases h⟩
/-- A row of nothing was grown: all else stays. -/
theorem grown_keeps {W W' : World} {P : Nat → Prop} {v : Value} (hg : W.grownBy W' v.ownBlock) (hz : v = .slice none 0 0) : Keeps P P W W' := by
  subst hz
  exact ⟨hg.size, fun b hb hlt => ⟨hg.block b hlt (by simp [Value.ownBlock]), hb⟩⟩

set_option maxRecDepth 100000 in
set_option maxHeartbeats 8000000 in
theorem walk_0 (k0 f0 c0 v0 i0 q0 o0 p0 z0 turn : Int) (w : World) (hk : isI64 k0) (hf : isI64 f0) (hc : isI64 c0) (hv : isI64 v0) (hi : isI64 i0) (hq : isI64 q0) (hp : isI64 p0) (hz : isI64 z0) (htu : isI64 turn) (ht : Psp.within turn 9 = 0) :
    Calls Try.prog 7 #[.int .i64 k0, .int .i64 f0, .int .i64 c0, .int .i64 v0, .int .i64 i0, .int .i64 q0, .agg #[.int .i64 o0, .int .i64 p0, .int .i64 z0], .int .i64 turn] w fun e w' => e = .returned (.bool true) ∧ Below w.heap.size w w' := by
  have f1a : 0 ≤ Psp.within f0 4 := Psp.within_lo _ _
  have f1b : Psp.within f0 4 < 4 := Psp.within_hi _ _ (by omega)
  have c1a : 0 ≤ Psp.within c0 4 := Psp.within_lo _ _
  have c1b : Psp.within c0 4 < 4 := Psp.within_hi _ _ (by omega)
  obtain ⟨q, hqd⟩ : ∃ q : Nat, (2 * (1 + Psp.within f0 4) + 1).toNat = q := ⟨_, rfl⟩
  have hqq : (q : Int) = 2 * (1 + Psp.within f0 4) + 1 := by omega
  have hR := fun W => right_any k0 f0 c0 v0 i0 q0 o0 p0 z0 W hk hf hc hv hi hq hp hz q hqq
  obtain ⟨hSm, _⟩ := right_is k0 f0 c0 v0 i0 q0 p0 z0 q hqq
  have hRok := right_rok k0 f0 c0 v0 i0 q0 p0 z0 q hqq
  have hAl := right_alone k0 f0 c0 v0 i0 q0 p0 z0 q
  skip
  obtain ⟨m, hm⟩ : ∃ m, rightA k0 f0 c0 v0 i0 q0 p0 z0 q = m := ⟨_, rfl⟩
  rw [hm] at hSm hRok hAl 
  have HR : Hid (∀ W : World, Calls Try.prog 27 #[.int .i64 k0, .int .i64 f0, .int .i64 c0, .int .i64 v0, .int .i64 i0, .int .i64 q0, .agg #[.int .i64 o0, .int .i64 p0, .int .i64 z0]] W (Gives m W)) := Lib.hid fun W => by rw [← hm]; exact hR W
  obtain ⟨f1, hf1⟩ : ∃ x, Psp.within f0 4 = x := ⟨_, rfl⟩
  obtain ⟨c1, hc1⟩ : ∃ x, Psp.within c0 4 = x := ⟨_, rfl⟩
  have HWi : Hid (∀ x n : Int, ((x = f0 ∨ x = c0) ∧ n = 4) ∨ (x = turn ∧ n = 9) → ∀ W : World, Calls Try.prog 17 #[.int .i64 x, .int .i64 n] W fun e w' => e = .returned (.int .i64 (Psp.within x n)) ∧ W = w') := Lib.hid fun x n hx W => by
    rcases hx with ⟨rfl | rfl, rfl⟩ | ⟨rfl, rfl⟩
    · exact within_any _ 4 W hf.1 hf.2 (by omega) (by omega)
    · exact within_any _ 4 W hc.1 hc.2 (by omega) (by omega)
    · exact within_any _ 9 W htu.1 htu.2 (by omega) (by omega)
  have HE := Lib.hid (And.intro hf1 (And.intro hc1 ht))
  rw [hf1, hc1] at hRok
  rw [hf1] at f1a f1b
  rw [hc1] at c1a c1b
  have HSm := Lib.hid hSm
  have HRok := Lib.hid hRok
  have HAl := Lib.hid hAl
  have Hwf := Lib.hid (wf_of_ok hSm.ok)
  skip
  clear hR hm hSm hRok hAl hqq hqd hk hf hc hv hi hq hp hz htu hf1 hc1 ht 
  go_enter Try.func7, Try.ntmps7
  go_wp2_with fail
  refine (HR.out _).mono ?_
  rintro e w1 ⟨Ab, Ao, Ac, Ap, cb, co, cc, cp, rfl, hmo, hb1, how⟩
  have hbw : Below w.heap.size w w1 := (alloc_below w _).trans (hb1.mono (by simp))
  have hz1 := hbw.size
  go_upto_region 2 with fail
  have hb2 := alloc_below w1 (.cells #[.int .i64 m.k, .int .i64 m.f, .int .i64 m.v, .int .i64 m.i, .int .i64 m.q, .int .i64 m.r, .slice Ab m.b.length cb, .slice Ao m.o.length co, .slice Ac m.c.length cc, .slice Ap m.p.length cp] 27)
  have hc2 := heap_alloc_new w1 (.cells #[.int .i64 m.k, .int .i64 m.f, .int .i64 m.v, .int .i64 m.i, .int .i64 m.q, .int .i64 m.r, .slice Ab m.b.length cb, .slice Ao m.o.length co, .slice Ac m.c.length cc, .slice Ap m.p.length cp] 27)
  have hs2 : (w1.alloc (.cells #[.int .i64 m.k, .int .i64 m.f, .int .i64 m.v, .int .i64 m.i, .int .i64 m.q, .int .i64 m.r, .slice Ab m.b.length cb, .slice Ao m.o.length co, .slice Ac m.c.length cc, .slice Ap m.p.length cp] 27)).heap.size = w1.heap.size + 1 := by simp
  obtain ⟨W2, hW2⟩ : ∃ W, w1.alloc (.cells #[.int .i64 m.k, .int .i64 m.f, .int .i64 m.v, .int .i64 m.i, .int .i64 m.q, .int .i64 m.r, .slice Ab m.b.length cb, .slice Ao m.o.length co, .slice Ac m.c.length cc, .slice Ap m.p.length cp] 27) = W := ⟨_, rfl⟩
  rw [hW2] at hb2 hc2 hs2 ⊢
  replace hs2 : w1.heap.size + 1 ≤ W2.heap.size := by omega
  have HB2 := Lib.hid (Below.then hbw hb2 hz1)
  have HC2 := Lib.hid hc2
  have HM2 := Lib.hid ((hmo.keeps (P' := fun b => b < w1.heap.size) (Keeps.mono fun b hb _ => hb)).keeps (Keeps.below hb2))
  have hz0 : w.heap.size ≤ (w.alloc (.cells #[.int .i64 o0, .int .i64 p0, .int .i64 z0] 47)).heap.size := by simp
  obtain ⟨N0, hN0⟩ : ∃ n, (w.alloc (.cells #[.int .i64 o0, .int .i64 p0, .int .i64 z0] 47)).heap.size = n := ⟨_, rfl⟩
  have hzN := hb1.size
  rw [hN0] at hz0 hzN
  clear hN0 hW2 hb2 hmo hb1 how hbw
  obtain ⟨hf1, hc1, ht⟩ := HE.out
  have x0 : W2.cell? ⟨w1.heap.size, 0, none⟩ = some (.int .i64 m.k) := by rw [cell_of_row W2 _ 0 _ _ _ hc2]; rfl
  have fz := frozen_of_row W2 _ 0 _ _ hc2
  go_upto_region 23 with (go_at_call 17; refine (HWi.out _ _ (by first | exact Or.inl ⟨Or.inl rfl, rfl⟩ | exact Or.inl ⟨Or.inr rfl, rfl⟩ | exact Or.inr ⟨rfl, rfl⟩) _).mono ?_; rintro e w' ⟨rfl, rfl⟩)
  clear hf1 hc1 ht x0 fz 
  have hc3 : (W2.setCell ⟨w1.heap.size, 0, none⟩ (.int .i64 11)).heap[w1.heap.size]? = some (.cells #[.int .i64 11, .int .i64 m.f, .int .i64 m.v, .int .i64 m.i, .int .i64 m.q, .int .i64 m.r, .slice Ab m.b.length cb, .slice Ao m.o.length co, .slice Ac m.c.length cc, .slice Ap m.p.length cp] 27 (0, 0)) := by
    rw [heap_setCell_same W2 w1.heap.size 0 _ _ _ hc2]; rfl
  have HB3' := Lib.hid (HB2.out.setCell (p := ⟨w1.heap.size, 0, none⟩) (by show w.heap.size ≤ w1.heap.size; omega) (.int .i64 11))
  have HM3' : Hid (MsgOk (W2.setCell ⟨w1.heap.size, 0, none⟩ (.int .i64 11)) (fun b => b < w1.heap.size) ⟨{ m with k := 11 }, .slice Ab m.b.length cb, .slice Ao m.o.length co, .slice Ac m.c.length cc, .slice Ap m.p.length cp⟩) := Lib.hid (MsgOk.keeps (x := ⟨{ m with k := 11 }, .slice Ab m.b.length cb, .slice Ao m.o.length co, .slice Ac m.c.length cc, .slice Ap m.p.length cp⟩) HM2.out ⟨by simp [World.setCell], fun b hb hlt => ⟨Below.heap_setCell W2 ⟨w1.heap.size, 0, none⟩ _ b (by show b ≠ w1.heap.size; omega), hb⟩⟩)
  obtain ⟨W3, hW3⟩ : ∃ W, W2.setCell ⟨w1.heap.size, 0, none⟩ (.int .i64 11) = W := ⟨_, rfl⟩
  rw [hW3] at hc3 HB3' HM3' ⊢
  have HC3 := Lib.hid hc3
  have HB3 := HB3'
  have HM3 := HM3'
  clear hW3 hc3 hc2 HB3' HM3' HB2 HC2 HM2
  have hm3 := HC3.out
  obtain ⟨y0, y1, y2, y3, y4, y5, y6, y7, y8, y9⟩ := box_cells hm3
  clear hm3
  go_wp2_with fail
  clear y0 y1 y2 y3 y4 y5 y6 y7 y8 y9
  refine (form_any { m with k := 11 } (.slice Ab m.b.length cb) (.slice Ao m.o.length co) (.slice Ac m.c.length cc) (.slice Ap m.p.length cp) (1 + f1) (1 + c1) W3 _ HM3.out ⟨⟨by show (-9223372036854775808 : Int) ≤ 11; omega, by show (11 : Int) ≤ 9223372036854775807; omega⟩, Hwf.out.2.1, Hwf.out.2.2.1, Hwf.out.2.2.2.1, Hwf.out.2.2.2.2.1, Hwf.out.2.2.2.2.2.1, Hwf.out.2.2.2.2.2.2⟩ (fun _ => ⟨by omega, by omega⟩)).mono ?_
  rw [show Psp.formM { m with k := 11 } (1 + f1) (1 + c1) = false from spoil_0]
  rintro e w4 ⟨rfl, hb⟩
  have HB4 := Lib.hid (Below.then HB3.out hb HB3.out.size)
  have HC4 := Lib.hid (box_below HC3.out hb (Nat.le_refl _))
  have HM4 := Lib.hid (HM3.out.keeps (Keeps.below hb))
  clear hb HB3 HC3 HM3
  obtain ⟨y0, y1, y2, y3, y4, y5, y6, y7, y8, y9⟩ := box_cells HC4.out
  go_wp2_with fail
  clear y0 y1 y2 y3 y4 y5 y6 y7 y8 y9
  refine (rform_any { m with k := 11 } (.slice Ab m.b.length cb) (.slice Ao m.o.length co) (.slice Ac m.c.length cc) (.slice Ap m.p.length cp) (1 + f1) (1 + c1) w4 _ HM4.out ⟨⟨by show (-9223372036854775808 : Int) ≤ 11; omega, by show (11 : Int) ≤ 9223372036854775807; omega⟩, Hwf.out.2.1, Hwf.out.2.2.1, Hwf.out.2.2.2.1, Hwf.out.2.2.2.2.1, Hwf.out.2.2.2.2.2.1, Hwf.out.2.2.2.2.2.2⟩).mono ?_
  rw [show Psp.formM { m with k := 11 } (1 + f1) (1 + c1) = false from spoil_0]
  rintro e w5 ⟨rfl, hb⟩
  have HB5 := Lib.hid (Below.then HB4.out hb HB4.out.size)
  clear hb HB4 HC4 HM4
  go_wp2_with fail
  refine (wakes06 _).mono ?_
  rintro e wz ⟨rfl, hbz⟩
  have HBz := Lib.hid (Below.then HB5.out hbz HB5.out.size)
  clear hbz
  go_wp2_with fail
  go_ret
  exact ⟨rfl, HBz.out⟩

set_option maxRecDepth 100000 in
set_option maxHeartbeats 8000000 in
theorem walk_1 (k0 f0 c0 v0 i0 q0 o0 p0 z0 turn : Int) (w : World) (hk : isI64 k0) (hf : isI64 f0) (hc : isI64 c0) (hv : isI64 v0) (hi : isI64 i0) (hq : isI64 q0) (hp : isI64 p0) (hz : isI64 z0) (htu : isI64 turn) (ht : Psp.within turn 9 = 1) :
    Calls Try.prog 7 #[.int .i64 k0, .int .i64 f0, .int .i64 c0, .int .i64 v0, .int .i64 i0, .int .i64 q0, .agg #[.int .i64 o0, .int .i64 p0, .int .i64 z0], .int .i64 turn] w fun e w' => e = .returned (.bool true) ∧ Below w.heap.size w w' := by
  have f1a : 0 ≤ Psp.within f0 4 := Psp.within_lo _ _
  have f1b : Psp.within f0 4 < 4 := Psp.within_hi _ _ (by omega)
  have c1a : 0 ≤ Psp.within c0 4 := Psp.within_lo _ _
  have c1b : Psp.within c0 4 < 4 := Psp.within_hi _ _ (by omega)
  obtain ⟨q, hqd⟩ : ∃ q : Nat, (2 * (1 + Psp.within f0 4) + 1).toNat = q := ⟨_, rfl⟩
  have hqq : (q : Int) = 2 * (1 + Psp.within f0 4) + 1 := by omega
  have hR := fun W => right_any k0 f0 c0 v0 i0 q0 o0 p0 z0 W hk hf hc hv hi hq hp hz q hqq
  obtain ⟨hSm, _⟩ := right_is k0 f0 c0 v0 i0 q0 p0 z0 q hqq
  have hRok := right_rok k0 f0 c0 v0 i0 q0 p0 z0 q hqq
  have hAl := right_alone k0 f0 c0 v0 i0 q0 p0 z0 q
  skip
  obtain ⟨m, hm⟩ : ∃ m, rightA k0 f0 c0 v0 i0 q0 p0 z0 q = m := ⟨_, rfl⟩
  rw [hm] at hSm hRok hAl 
  have HR : Hid (∀ W : World, Calls Try.prog 27 #[.int .i64 k0, .int .i64 f0, .int .i64 c0, .int .i64 v0, .int .i64 i0, .int .i64 q0, .agg #[.int .i64 o0, .int .i64 p0, .int .i64 z0]] W (Gives m W)) := Lib.hid fun W => by rw [← hm]; exact hR W
  obtain ⟨f1, hf1⟩ : ∃ x, Psp.within f0 4 = x := ⟨_, rfl⟩
  obtain ⟨c1, hc1⟩ : ∃ x, Psp.within c0 4 = x := ⟨_, rfl⟩
  have HWi : Hid (∀ x n : Int, ((x = f0 ∨ x = c0) ∧ n = 4) ∨ (x = turn ∧ n = 9) → ∀ W : World, Calls Try.prog 17 #[.int .i64 x, .int .i64 n] W fun e w' => e = .returned (.int .i64 (Psp.within x n)) ∧ W = w') := Lib.hid fun x n hx W => by
    rcases hx with ⟨rfl | rfl, rfl⟩ | ⟨rfl, rfl⟩
    · exact within_any _ 4 W hf.1 hf.2 (by omega) (by omega)
    · exact within_any _ 4 W hc.1 hc.2 (by omega) (by omega)
    · exact within_any _ 9 W htu.1 htu.2 (by omega) (by omega)
  have HE := Lib.hid (And.intro hf1 (And.intro hc1 ht))
  rw [hf1, hc1] at hRok
  rw [hf1] at f1a f1b
  rw [hc1] at c1a c1b
  have HSm := Lib.hid hSm
  have HRok := Lib.hid hRok
  have HAl := Lib.hid hAl
  have Hwf := Lib.hid (wf_of_ok hSm.ok)
  skip
  clear hR hm hSm hRok hAl hqq hqd hk hf hc hv hi hq hp hz htu hf1 hc1 ht 
  go_enter Try.func7, Try.ntmps7
  go_wp2_with fail
  refine (HR.out _).mono ?_
  rintro e w1 ⟨Ab, Ao, Ac, Ap, cb, co, cc, cp, rfl, hmo, hb1, how⟩
  have hbw : Below w.heap.size w w1 := (alloc_below w _).trans (hb1.mono (by simp))
  have hz1 := hbw.size
  go_upto_region 2 with fail
  have hb2 := alloc_below w1 (.cells #[.int .i64 m.k, .int .i64 m.f, .int .i64 m.v, .int .i64 m.i, .int .i64 m.q, .int .i64 m.r, .slice Ab m.b.length cb, .slice Ao m.o.length co, .slice Ac m.c.length cc, .slice Ap m.p.length cp] 27)
  have hc2 := heap_alloc_new w1 (.cells #[.int .i64 m.k, .int .i64 m.f, .int .i64 m.v, .int .i64 m.i, .int .i64 m.q, .int .i64 m.r, .slice Ab m.b.length cb, .slice Ao m.o.length co, .slice Ac m.c.length cc, .slice Ap m.p.length cp] 27)
  have hs2 : (w1.alloc (.cells #[.int .i64 m.k, .int .i64 m.f, .int .i64 m.v, .int .i64 m.i, .int .i64 m.q, .int .i64 m.r, .slice Ab m.b.length cb, .slice Ao m.o.length co, .slice Ac m.c.length cc, .slice Ap m.p.length cp] 27)).heap.size = w1.heap.size + 1 := by simp
  obtain ⟨W2, hW2⟩ : ∃ W, w1.alloc (.cells #[.int .i64 m.k, .int .i64 m.f, .int .i64 m.v, .int .i64 m.i, .int .i64 m.q, .int .i64 m.r, .slice Ab m.b.length cb, .slice Ao m.o.length co, .slice Ac m.c.length cc, .slice Ap m.p.length cp] 27) = W := ⟨_, rfl⟩
  rw [hW2] at hb2 hc2 hs2 ⊢
  replace hs2 : w1.heap.size + 1 ≤ W2.heap.size := by omega
  have HB2 := Lib.hid (Below.then hbw hb2 hz1)
  have HC2 := Lib.hid hc2
  have HM2 := Lib.hid ((hmo.keeps (P' := fun b => b < w1.heap.size) (Keeps.mono fun b hb _ => hb)).keeps (Keeps.below hb2))
  have hz0 : w.heap.size ≤ (w.alloc (.cells #[.int .i64 o0, .int .i64 p0, .int .i64 z0] 47)).heap.size := by simp
  obtain ⟨N0, hN0⟩ : ∃ n, (w.alloc (.cells #[.int .i64 o0, .int .i64 p0, .int .i64 z0] 47)).heap.size = n := ⟨_, rfl⟩
  have hzN := hb1.size
  rw [hN0] at hz0 hzN
  clear hN0 hW2 hb2 hmo hb1 how hbw
  obtain ⟨hf1, hc1, ht⟩ := HE.out
  have x1 : W2.cell? ⟨w1.heap.size, 1, none⟩ = some (.int .i64 m.f) := by rw [cell_of_row W2 _ 1 _ _ _ hc2]; rfl
  have fz := frozen_of_row W2 _ 1 _ _ hc2
  go_upto_region 23 with (go_at_call 17; refine (HWi.out _ _ (by first | exact Or.inl ⟨Or.inl rfl, rfl⟩ | exact Or.inl ⟨Or.inr rfl, rfl⟩ | exact Or.inr ⟨rfl, rfl⟩) _).mono ?_; rintro e w' ⟨rfl, rfl⟩)
  clear hf1 hc1 ht x1 fz 
  have hc3 : (W2.setCell ⟨w1.heap.size, 1, none⟩ (.int .i64 (-1))).heap[w1.heap.size]? = some (.cells #[.int .i64 m.k, .int .i64 (-1), .int .i64 m.v, .int .i64 m.i, .int .i64 m.q, .int .i64 m.r, .slice Ab m.b.length cb, .slice Ao m.o.length co, .slice Ac m.c.length cc, .slice Ap m.p.length cp] 27 (0, 0)) := by
    rw [heap_setCell_same W2 w1.heap.size 1 _ _ _ hc2]; rfl
  have HB3' := Lib.hid (HB2.out.setCell (p := ⟨w1.heap.size, 1, none⟩) (by show w.heap.size ≤ w1.heap.size; omega) (.int .i64 (-1)))
  have HM3' : Hid (MsgOk (W2.setCell ⟨w1.heap.size, 1, none⟩ (.int .i64 (-1))) (fun b => b < w1.heap.size) ⟨{ m with f := (-1) }, .slice Ab m.b.length cb, .slice Ao m.o.length co, .slice Ac m.c.length cc, .slice Ap m.p.length cp⟩) := Lib.hid (MsgOk.keeps (x := ⟨{ m with f := (-1) }, .slice Ab m.b.length cb, .slice Ao m.o.length co, .slice Ac m.c.length cc, .slice Ap m.p.length cp⟩) HM2.out ⟨by simp [World.setCell], fun b hb hlt => ⟨Below.heap_setCell W2 ⟨w1.heap.size, 1, none⟩ _ b (by show b ≠ w1.heap.size; omega), hb⟩⟩)
  obtain ⟨W3, hW3⟩ : ∃ W, W2.setCell ⟨w1.heap.size, 1, none⟩ (.int .i64 (-1)) = W := ⟨_, rfl⟩
  rw [hW3] at hc3 HB3' HM3' ⊢
  have HC3 := Lib.hid hc3
  have HB3 := HB3'
  have HM3 := HM3'
  clear hW3 hc3 hc2 HB3' HM3' HB2 HC2 HM2
  have hm3 := HC3.out
  obtain ⟨y0, y1, y2, y3, y4, y5, y6, y7, y8, y9⟩ := box_cells hm3
  clear hm3
  go_wp2_with fail
  clear y0 y1 y2 y3 y4 y5 y6 y7 y8 y9
  refine (form_any { m with f := (-1) } (.slice Ab m.b.length cb) (.slice Ao m.o.length co) (.slice Ac m.c.length cc) (.slice Ap m.p.length cp) (1 + f1) (1 + c1) W3 _ HM3.out ⟨Hwf.out.1, ⟨by show (-9223372036854775808 : Int) ≤ (-1); omega, by show ((-1) : Int) ≤ 9223372036854775807; omega⟩, Hwf.out.2.2.1, Hwf.out.2.2.2.1, Hwf.out.2.2.2.2.1, Hwf.out.2.2.2.2.2.1, Hwf.out.2.2.2.2.2.2⟩ (fun _ => ⟨by omega, by omega⟩)).mono ?_
  rw [show Psp.formM { m with f := (-1) } (1 + f1) (1 + c1) = false from spoil_1]
  rintro e w4 ⟨rfl, hb⟩
  have HB4 := Lib.hid (Below.then HB3.out hb HB3.out.size)
  have HC4 := Lib.hid (box_below HC3.out hb (Nat.le_refl _))
  have HM4 := Lib.hid (HM3.out.keeps (Keeps.below hb))
  clear hb HB3 HC3 HM3
  obtain ⟨y0, y1, y2, y3, y4, y5, y6, y7, y8, y9⟩ := box_cells HC4.out
  go_wp2_with fail
  clear y0 y1 y2 y3 y4 y5 y6 y7 y8 y9
  refine (rform_any { m with f := (-1) } (.slice Ab m.b.length cb) (.slice Ao m.o.length co) (.slice Ac m.c.length cc) (.slice Ap m.p.length cp) (1 + f1) (1 + c1) w4 _ HM4.out ⟨Hwf.out.1, ⟨by show (-9223372036854775808 : Int) ≤ (-1); omega, by show ((-1) : Int) ≤ 9223372036854775807; omega⟩, Hwf.out.2.2.1, Hwf.out.2.2.2.1, Hwf.out.2.2.2.2.1, Hwf.out.2.2.2.2.2.1, Hwf.out.2.2.2.2.2.2⟩).mono ?_
  rw [show Psp.formM { m with f := (-1) } (1 + f1) (1 + c1) = false from spoil_1]
  rintro e w5 ⟨rfl, hb⟩
  have HB5 := Lib.hid (Below.then HB4.out hb HB4.out.size)
  clear hb HB4 HC4 HM4
  go_wp2_with fail
  refine (wakes06 _).mono ?_
  rintro e wz ⟨rfl, hbz⟩
  have HBz := Lib.hid (Below.then HB5.out hbz HB5.out.size)
  clear hbz
  go_wp2_with fail
  go_ret
  exact ⟨rfl, HBz.out⟩

set_option maxRecDepth 100000 in
set_option maxHeartbeats 8000000 in
theorem walk_2 (k0 f0 c0 v0 i0 q0 o0 p0 z0 turn : Int) (w : World) (hk : isI64 k0) (hf : isI64 f0) (hc : isI64 c0) (hv : isI64 v0) (hi : isI64 i0) (hq : isI64 q0) (hp : isI64 p0) (hz : isI64 z0) (htu : isI64 turn) (ht : Psp.within turn 9 = 2) :
    Calls Try.prog 7 #[.int .i64 k0, .int .i64 f0, .int .i64 c0, .int .i64 v0, .int .i64 i0, .int .i64 q0, .agg #[.int .i64 o0, .int .i64 p0, .int .i64 z0], .int .i64 turn] w fun e w' => e = .returned (.bool true) ∧ Below w.heap.size w w' := by
  have f1a : 0 ≤ Psp.within f0 4 := Psp.within_lo _ _
  have f1b : Psp.within f0 4 < 4 := Psp.within_hi _ _ (by omega)
  have c1a : 0 ≤ Psp.within c0 4 := Psp.within_lo _ _
  have c1b : Psp.within c0 4 < 4 := Psp.within_hi _ _ (by omega)
  obtain ⟨q, hqd⟩ : ∃ q : Nat, (2 * (1 + Psp.within f0 4) + 1).toNat = q := ⟨_, rfl⟩
  have hqq : (q : Int) = 2 * (1 + Psp.within f0 4) + 1 := by omega
  have hR := fun W => right_any k0 f0 c0 v0 i0 q0 o0 p0 z0 W hk hf hc hv hi hq hp hz q hqq
  obtain ⟨hSm, _⟩ := right_is k0 f0 c0 v0 i0 q0 p0 z0 q hqq
  have hRok := right_rok k0 f0 c0 v0 i0 q0 p0 z0 q hqq
  have hAl := right_alone k0 f0 c0 v0 i0 q0 p0 z0 q
  skip
  obtain ⟨m, hm⟩ : ∃ m, rightA k0 f0 c0 v0 i0 q0 p0 z0 q = m := ⟨_, rfl⟩
  rw [hm] at hSm hRok hAl 
  have HR : Hid (∀ W : World, Calls Try.prog 27 #[.int .i64 k0, .int .i64 f0, .int .i64 c0, .int .i64 v0, .int .i64 i0, .int .i64 q0, .agg #[.int .i64 o0, .int .i64 p0, .int .i64 z0]] W (Gives m W)) := Lib.hid fun W => by rw [← hm]; exact hR W
  obtain ⟨f1, hf1⟩ : ∃ x, Psp.within f0 4 = x := ⟨_, rfl⟩
  obtain ⟨c1, hc1⟩ : ∃ x, Psp.within c0 4 = x := ⟨_, rfl⟩
  have HWi : Hid (∀ x n : Int, ((x = f0 ∨ x = c0) ∧ n = 4) ∨ (x = turn ∧ n = 9) → ∀ W : World, Calls Try.prog 17 #[.int .i64 x, .int .i64 n] W fun e w' => e = .returned (.int .i64 (Psp.within x n)) ∧ W = w') := Lib.hid fun x n hx W => by
    rcases hx with ⟨rfl | rfl, rfl⟩ | ⟨rfl, rfl⟩
    · exact within_any _ 4 W hf.1 hf.2 (by omega) (by omega)
    · exact within_any _ 4 W hc.1 hc.2 (by omega) (by omega)
    · exact within_any _ 9 W htu.1 htu.2 (by omega) (by omega)
  have HE := Lib.hid (And.intro hf1 (And.intro hc1 ht))
  rw [hf1, hc1] at hRok
  rw [hf1] at f1a f1b
  rw [hc1] at c1a c1b
  have HSm := Lib.hid hSm
  have HRok := Lib.hid hRok
  have HAl := Lib.hid hAl
  have Hwf := Lib.hid (wf_of_ok hSm.ok)
  skip
  clear hR hm hSm hRok hAl hqq hqd hk hf hc hv hi hq hp hz htu hf1 hc1 ht 
  go_enter Try.func7, Try.ntmps7
  go_wp2_with fail
  refine (HR.out _).mono ?_
  rintro e w1 ⟨Ab, Ao, Ac, Ap, cb, co, cc, cp, rfl, hmo, hb1, how⟩
  have hbw : Below w.heap.size w w1 := (alloc_below w _).trans (hb1.mono (by simp))
  have hz1 := hbw.size
  go_upto_region 2 with fail
  have hb2 := alloc_below w1 (.cells #[.int .i64 m.k, .int .i64 m.f, .int .i64 m.v, .int .i64 m.i, .int .i64 m.q, .int .i64 m.r, .slice Ab m.b.length cb, .slice Ao m.o.length co, .slice Ac m.c.length cc, .slice Ap m.p.length cp] 27)
  have hc2 := heap_alloc_new w1 (.cells #[.int .i64 m.k, .int .i64 m.f, .int .i64 m.v, .int .i64 m.i, .int .i64 m.q, .int .i64 m.r, .slice Ab m.b.length cb, .slice Ao m.o.length co, .slice Ac m.c.length cc, .slice Ap m.p.length cp] 27)
  have hs2 : (w1.alloc (.cells #[.int .i64 m.k, .int .i64 m.f, .int .i64 m.v, .int .i64 m.i, .int .i64 m.q, .int .i64 m.r, .slice Ab m.b.length cb, .slice Ao m.o.length co, .slice Ac m.c.length cc, .slice Ap m.p.length cp] 27)).heap.size = w1.heap.size + 1 := by simp
  obtain ⟨W2, hW2⟩ : ∃ W, w1.alloc (.cells #[.int .i64 m.k, .int .i64 m.f, .int .i64 m.v, .int .i64 m.i, .int .i64 m.q, .int .i64 m.r, .slice Ab m.b.length cb, .slice Ao m.o.length co, .slice Ac m.c.length cc, .slice Ap m.p.length cp] 27) = W := ⟨_, rfl⟩
  rw [hW2] at hb2 hc2 hs2 ⊢
  replace hs2 : w1.heap.size + 1 ≤ W2.heap.size := by omega
  have HB2 := Lib.hid (Below.then hbw hb2 hz1)
  have HC2 := Lib.hid hc2
  have HM2 := Lib.hid ((hmo.keeps (P' := fun b => b < w1.heap.size) (Keeps.mono fun b hb _ => hb)).keeps (Keeps.below hb2))
  have hz0 : w.heap.size ≤ (w.alloc (.cells #[.int .i64 o0, .int .i64 p0, .int .i64 z0] 47)).heap.size := by simp
  obtain ⟨N0, hN0⟩ : ∃ n, (w.alloc (.cells #[.int .i64 o0, .int .i64 p0, .int .i64 z0] 47)).heap.size = n := ⟨_, rfl⟩
  have hzN := hb1.size
  rw [hN0] at hz0 hzN
  clear hN0 hW2 hb2 hmo hb1 how hbw
  obtain ⟨hf1, hc1, ht⟩ := HE.out
  have x2 : W2.cell? ⟨w1.heap.size, 2, none⟩ = some (.int .i64 m.v) := by rw [cell_of_row W2 _ 2 _ _ _ hc2]; rfl
  have fz := frozen_of_row W2 _ 2 _ _ hc2
  go_upto_region 23 with (go_at_call 17; refine (HWi.out _ _ (by first | exact Or.inl ⟨Or.inl rfl, rfl⟩ | exact Or.inl ⟨Or.inr rfl, rfl⟩ | exact Or.inr ⟨rfl, rfl⟩) _).mono ?_; rintro e w' ⟨rfl, rfl⟩)
  clear hf1 hc1 ht x2 fz 
  have hc3 : (W2.setCell ⟨w1.heap.size, 2, none⟩ (.int .i64 13)).heap[w1.heap.size]? = some (.cells #[.int .i64 m.k, .int .i64 m.f, .int .i64 13, .int .i64 m.i, .int .i64 m.q, .int .i64 m.r, .slice Ab m.b.length cb, .slice Ao m.o.length co, .slice Ac m.c.length cc, .slice Ap m.p.length cp] 27 (0, 0)) := by
    rw [heap_setCell_same W2 w1.heap.size 2 _ _ _ hc2]; rfl
  have HB3' := Lib.hid (HB2.out.setCell (p := ⟨w1.heap.size, 2, none⟩) (by show w.heap.size ≤ w1.heap.size; omega) (.int .i64 13))
  have HM3' : Hid (MsgOk (W2.setCell ⟨w1.heap.size, 2, none⟩ (.int .i64 13)) (fun b => b < w1.heap.size) ⟨{ m with v := 13 }, .slice Ab m.b.length cb, .slice Ao m.o.length co, .slice Ac m.c.length cc, .slice Ap m.p.length cp⟩) := Lib.hid (MsgOk.keeps (x := ⟨{ m with v := 13 }, .slice Ab m.b.length cb, .slice Ao m.o.length co, .slice Ac m.c.length cc, .slice Ap m.p.length cp⟩) HM2.out ⟨by simp [World.setCell], fun b hb hlt => ⟨Below.heap_setCell W2 ⟨w1.heap.size, 2, none⟩ _ b (by show b ≠ w1.heap.size; omega), hb⟩⟩)
  obtain ⟨W3, hW3⟩ : ∃ W, W2.setCell ⟨w1.heap.size, 2, none⟩ (.int .i64 13) = W := ⟨_, rfl⟩
  rw [hW3] at hc3 HB3' HM3' ⊢
  have HC3 := Lib.hid hc3
  have HB3 := HB3'
  have HM3 := HM3'
  clear hW3 hc3 hc2 HB3' HM3' HB2 HC2 HM2
  have hm3 := HC3.out
  obtain ⟨y0, y1, y2, y3, y4, y5, y6, y7, y8, y9⟩ := box_cells hm3
  clear hm3
  go_wp2_with fail
  clear y0 y1 y2 y3 y4 y5 y6 y7 y8 y9
  refine (form_any { m with v := 13 } (.slice Ab m.b.length cb) (.slice Ao m.o.length co) (.slice Ac m.c.length cc) (.slice Ap m.p.length cp) (1 + f1) (1 + c1) W3 _ HM3.out ⟨Hwf.out.1, Hwf.out.2.1, ⟨by show (-9223372036854775808 : Int) ≤ 13; omega, by show (13 : Int) ≤ 9223372036854775807; omega⟩, Hwf.out.2.2.2.1, Hwf.out.2.2.2.2.1, Hwf.out.2.2.2.2.2.1, Hwf.out.2.2.2.2.2.2⟩ (fun _ => ⟨by omega, by omega⟩)).mono ?_
  rw [show Psp.formM { m with v := 13 } (1 + f1) (1 + c1) = false from spoil_2 HRok.out]
  rintro e w4 ⟨rfl, hb⟩
  have HB4 := Lib.hid (Below.then HB3.out hb HB3.out.size)
  have HC4 := Lib.hid (box_below HC3.out hb (Nat.le_refl _))
  have HM4 := Lib.hid (HM3.out.keeps (Keeps.below hb))
  clear hb HB3 HC3 HM3
  obtain ⟨y0, y1, y2, y3, y4, y5, y6, y7, y8, y9⟩ := box_cells HC4.out
  go_wp2_with fail
  clear y0 y1 y2 y3 y4 y5 y6 y7 y8 y9
  refine (rform_any { m with v := 13 } (.slice Ab m.b.length cb) (.slice Ao m.o.length co) (.slice Ac m.c.length cc) (.slice Ap m.p.length cp) (1 + f1) (1 + c1) w4 _ HM4.out ⟨Hwf.out.1, Hwf.out.2.1, ⟨by show (-9223372036854775808 : Int) ≤ 13; omega, by show (13 : Int) ≤ 9223372036854775807; omega⟩, Hwf.out.2.2.2.1, Hwf.out.2.2.2.2.1, Hwf.out.2.2.2.2.2.1, Hwf.out.2.2.2.2.2.2⟩).mono ?_
  rw [show Psp.formM { m with v := 13 } (1 + f1) (1 + c1) = false from spoil_2 HRok.out]
  rintro e w5 ⟨rfl, hb⟩
  have HB5 := Lib.hid (Below.then HB4.out hb HB4.out.size)
  clear hb HB4 HC4 HM4
  go_wp2_with fail
  refine (wakes06 _).mono ?_
  rintro e wz ⟨rfl, hbz⟩
  have HBz := Lib.hid (Below.then HB5.out hbz HB5.out.size)
  clear hbz
  go_wp2_with fail
  go_ret
  exact ⟨rfl, HBz.out⟩

set_option maxRecDepth 100000 in
set_option maxHeartbeats 8000000 in
theorem walk_3 (k0 f0 c0 v0 i0 q0 o0 p0 z0 turn : Int) (w : World) (hk : isI64 k0) (hf : isI64 f0) (hc : isI64 c0) (hv : isI64 v0) (hi : isI64 i0) (hq : isI64 q0) (hp : isI64 p0) (hz : isI64 z0) (htu : isI64 turn) (ht : Psp.within turn 9 = 3) :
    Calls Try.prog 7 #[.int .i64 k0, .int .i64 f0, .int .i64 c0, .int .i64 v0, .int .i64 i0, .int .i64 q0, .agg #[.int .i64 o0, .int .i64 p0, .int .i64 z0], .int .i64 turn] w fun e w' => e = .returned (.bool true) ∧ Below w.heap.size w w' := by
  have f1a : 0 ≤ Psp.within f0 4 := Psp.within_lo _ _
  have f1b : Psp.within f0 4 < 4 := Psp.within_hi _ _ (by omega)
  have c1a : 0 ≤ Psp.within c0 4 := Psp.within_lo _ _
  have c1b : Psp.within c0 4 < 4 := Psp.within_hi _ _ (by omega)
  obtain ⟨q, hqd⟩ : ∃ q : Nat, (2 * (1 + Psp.within f0 4) + 1).toNat = q := ⟨_, rfl⟩
  have hqq : (q : Int) = 2 * (1 + Psp.within f0 4) + 1 := by omega
  have hR := fun W => right_any k0 f0 c0 v0 i0 q0 o0 p0 z0 W hk hf hc hv hi hq hp hz q hqq
  obtain ⟨hSm, _⟩ := right_is k0 f0 c0 v0 i0 q0 p0 z0 q hqq
  have hRok := right_rok k0 f0 c0 v0 i0 q0 p0 z0 q hqq
  have hAl := right_alone k0 f0 c0 v0 i0 q0 p0 z0 q
  skip
  obtain ⟨m, hm⟩ : ∃ m, rightA k0 f0 c0 v0 i0 q0 p0 z0 q = m := ⟨_, rfl⟩
  rw [hm] at hSm hRok hAl 
  have HR : Hid (∀ W : World, Calls Try.prog 27 #[.int .i64 k0, .int .i64 f0, .int .i64 c0, .int .i64 v0, .int .i64 i0, .int .i64 q0, .agg #[.int .i64 o0, .int .i64 p0, .int .i64 z0]] W (Gives m W)) := Lib.hid fun W => by rw [← hm]; exact hR W
  obtain ⟨f1, hf1⟩ : ∃ x, Psp.within f0 4 = x := ⟨_, rfl⟩
  obtain ⟨c1, hc1⟩ : ∃ x, Psp.within c0 4 = x := ⟨_, rfl⟩
  have HWi : Hid (∀ x n : Int, ((x = f0 ∨ x = c0) ∧ n = 4) ∨ (x = turn ∧ n = 9) → ∀ W : World, Calls Try.prog 17 #[.int .i64 x, .int .i64 n] W fun e w' => e = .returned (.int .i64 (Psp.within x n)) ∧ W = w') := Lib.hid fun x n hx W => by
    rcases hx with ⟨rfl | rfl, rfl⟩ | ⟨rfl, rfl⟩
    · exact within_any _ 4 W hf.1 hf.2 (by omega) (by omega)
    · exact within_any _ 4 W hc.1 hc.2 (by omega) (by omega)
    · exact within_any _ 9 W htu.1 htu.2 (by omega) (by omega)
  have HE := Lib.hid (And.intro hf1 (And.intro hc1 ht))
  rw [hf1, hc1] at hRok
  rw [hf1] at f1a f1b
  rw [hc1] at c1a c1b
  have HSm := Lib.hid hSm
  have HRok := Lib.hid hRok
  have HAl := Lib.hid hAl
  have Hwf := Lib.hid (wf_of_ok hSm.ok)
  skip
  clear hR hm hSm hRok hAl hqq hqd hk hf hc hv hi hq hp hz htu hf1 hc1 ht 
  go_enter Try.func7, Try.ntmps7
  go_wp2_with fail
  refine (HR.out _).mono ?_
  rintro e w1 ⟨Ab, Ao, Ac, Ap, cb, co, cc, cp, rfl, hmo, hb1, how⟩
  have hbw : Below w.heap.size w w1 := (alloc_below w _).trans (hb1.mono (by simp))
  have hz1 := hbw.size
  go_upto_region 2 with fail
  have hb2 := alloc_below w1 (.cells #[.int .i64 m.k, .int .i64 m.f, .int .i64 m.v, .int .i64 m.i, .int .i64 m.q, .int .i64 m.r, .slice Ab m.b.length cb, .slice Ao m.o.length co, .slice Ac m.c.length cc, .slice Ap m.p.length cp] 27)
  have hc2 := heap_alloc_new w1 (.cells #[.int .i64 m.k, .int .i64 m.f, .int .i64 m.v, .int .i64 m.i, .int .i64 m.q, .int .i64 m.r, .slice Ab m.b.length cb, .slice Ao m.o.length co, .slice Ac m.c.length cc, .slice Ap m.p.length cp] 27)
  have hs2 : (w1.alloc (.cells #[.int .i64 m.k, .int .i64 m.f, .int .i64 m.v, .int .i64 m.i, .int .i64 m.q, .int .i64 m.r, .slice Ab m.b.length cb, .slice Ao m.o.length co, .slice Ac m.c.length cc, .slice Ap m.p.length cp] 27)).heap.size = w1.heap.size + 1 := by simp
  obtain ⟨W2, hW2⟩ : ∃ W, w1.alloc (.cells #[.int .i64 m.k, .int .i64 m.f, .int .i64 m.v, .int .i64 m.i, .int .i64 m.q, .int .i64 m.r, .slice Ab m.b.length cb, .slice Ao m.o.length co, .slice Ac m.c.length cc, .slice Ap m.p.length cp] 27) = W := ⟨_, rfl⟩
  rw [hW2] at hb2 hc2 hs2 ⊢
  replace hs2 : w1.heap.size + 1 ≤ W2.heap.size := by omega
  have HB2 := Lib.hid (Below.then hbw hb2 hz1)
  have HC2 := Lib.hid hc2
  have HM2 := Lib.hid ((hmo.keeps (P' := fun b => b < w1.heap.size) (Keeps.mono fun b hb _ => hb)).keeps (Keeps.below hb2))
  have hz0 : w.heap.size ≤ (w.alloc (.cells #[.int .i64 o0, .int .i64 p0, .int .i64 z0] 47)).heap.size := by simp
  obtain ⟨N0, hN0⟩ : ∃ n, (w.alloc (.cells #[.int .i64 o0, .int .i64 p0, .int .i64 z0] 47)).heap.size = n := ⟨_, rfl⟩
  have hzN := hb1.size
  rw [hN0] at hz0 hzN
  clear hN0 hW2 hb2 hmo hb1 how hbw
  obtain ⟨hf1, hc1, ht⟩ := HE.out
  have x3 : W2.cell? ⟨w1.heap.size, 3, none⟩ = some (.int .i64 m.i) := by rw [cell_of_row W2 _ 3 _ _ _ hc2]; rfl
  have fz := frozen_of_row W2 _ 3 _ _ hc2
  go_upto_region 23 with (go_at_call 17; refine (HWi.out _ _ (by first | exact Or.inl ⟨Or.inl rfl, rfl⟩ | exact Or.inl ⟨Or.inr rfl, rfl⟩ | exact Or.inr ⟨rfl, rfl⟩) _).mono ?_; rintro e w' ⟨rfl, rfl⟩)
  clear hf1 hc1 ht x3 fz 
  have hc3 : (W2.setCell ⟨w1.heap.size, 3, none⟩ (.int .i64 5)).heap[w1.heap.size]? = some (.cells #[.int .i64 m.k, .int .i64 m.f, .int .i64 m.v, .int .i64 5, .int .i64 m.q, .int .i64 m.r, .slice Ab m.b.length cb, .slice Ao m.o.length co, .slice Ac m.c.length cc, .slice Ap m.p.length cp] 27 (0, 0)) := by
    rw [heap_setCell_same W2 w1.heap.size 3 _ _ _ hc2]; rfl
  have HB3' := Lib.hid (HB2.out.setCell (p := ⟨w1.heap.size, 3, none⟩) (by show w.heap.size ≤ w1.heap.size; omega) (.int .i64 5))
  have HM3' : Hid (MsgOk (W2.setCell ⟨w1.heap.size, 3, none⟩ (.int .i64 5)) (fun b => b < w1.heap.size) ⟨{ m with i := 5 }, .slice Ab m.b.length cb, .slice Ao m.o.length co, .slice Ac m.c.length cc, .slice Ap m.p.length cp⟩) := Lib.hid (MsgOk.keeps (x := ⟨{ m with i := 5 }, .slice Ab m.b.length cb, .slice Ao m.o.length co, .slice Ac m.c.length cc, .slice Ap m.p.length cp⟩) HM2.out ⟨by simp [World.setCell], fun b hb hlt => ⟨Below.heap_setCell W2 ⟨w1.heap.size, 3, none⟩ _ b (by show b ≠ w1.heap.size; omega), hb⟩⟩)
  obtain ⟨W3, hW3⟩ : ∃ W, W2.setCell ⟨w1.heap.size, 3, none⟩ (.int .i64 5) = W := ⟨_, rfl⟩
  rw [hW3] at hc3 HB3' HM3' ⊢
  have HC3 := Lib.hid hc3
  have HB3 := HB3'
  have HM3 := HM3'
  clear hW3 hc3 hc2 HB3' HM3' HB2 HC2 HM2
  have hm3 := HC3.out
  obtain ⟨y0, y1, y2, y3, y4, y5, y6, y7, y8, y9⟩ := box_cells hm3
  clear hm3
  go_wp2_with fail
  clear y0 y1 y2 y3 y4 y5 y6 y7 y8 y9
  refine (form_any { m with i := 5 } (.slice Ab m.b.length cb) (.slice Ao m.o.length co) (.slice Ac m.c.length cc) (.slice Ap m.p.length cp) (1 + f1) (1 + c1) W3 _ HM3.out ⟨Hwf.out.1, Hwf.out.2.1, Hwf.out.2.2.1, ⟨by show (-9223372036854775808 : Int) ≤ 5; omega, by show (5 : Int) ≤ 9223372036854775807; omega⟩, Hwf.out.2.2.2.2.1, Hwf.out.2.2.2.2.2.1, Hwf.out.2.2.2.2.2.2⟩ (fun _ => ⟨by omega, by omega⟩)).mono ?_
  rw [show Psp.formM { m with i := 5 } (1 + f1) (1 + c1) = false from spoil_3 HRok.out]
  rintro e w4 ⟨rfl, hb⟩
  have HB4 := Lib.hid (Below.then HB3.out hb HB3.out.size)
  have HC4 := Lib.hid (box_below HC3.out hb (Nat.le_refl _))
  have HM4 := Lib.hid (HM3.out.keeps (Keeps.below hb))
  clear hb HB3 HC3 HM3
  obtain ⟨y0, y1, y2, y3, y4, y5, y6, y7, y8, y9⟩ := box_cells HC4.out
  go_wp2_with fail
  clear y0 y1 y2 y3 y4 y5 y6 y7 y8 y9
  refine (rform_any { m with i := 5 } (.slice Ab m.b.length cb) (.slice Ao m.o.length co) (.slice Ac m.c.length cc) (.slice Ap m.p.length cp) (1 + f1) (1 + c1) w4 _ HM4.out ⟨Hwf.out.1, Hwf.out.2.1, Hwf.out.2.2.1, ⟨by show (-9223372036854775808 : Int) ≤ 5; omega, by show (5 : Int) ≤ 9223372036854775807; omega⟩, Hwf.out.2.2.2.2.1, Hwf.out.2.2.2.2.2.1, Hwf.out.2.2.2.2.2.2⟩).mono ?_
  rw [show Psp.formM { m with i := 5 } (1 + f1) (1 + c1) = false from spoil_3 HRok.out]
  rintro e w5 ⟨rfl, hb⟩
  have HB5 := Lib.hid (Below.then HB4.out hb HB4.out.size)
  clear hb HB4 HC4 HM4
  go_wp2_with fail
  refine (wakes06 _).mono ?_
  rintro e wz ⟨rfl, hbz⟩
  have HBz := Lib.hid (Below.then HB5.out hbz HB5.out.size)
  clear hbz
  go_wp2_with fail
  go_ret
  exact ⟨rfl, HBz.out⟩

set_option maxRecDepth 100000 in
set_option maxHeartbeats 8000000 in
theorem walk_4 (k0 f0 c0 v0 i0 q0 o0 p0 z0 turn : Int) (w : World) (hk : isI64 k0) (hf : isI64 f0) (hc : isI64 c0) (hv : isI64 v0) (hi : isI64 i0) (hq : isI64 q0) (hp : isI64 p0) (hz : isI64 z0) (htu : isI64 turn) (ht : Psp.within turn 9 = 4) :
    Calls Try.prog 7 #[.int .i64 k0, .int .i64 f0, .int .i64 c0, .int .i64 v0, .int .i64 i0, .int .i64 q0, .agg #[.int .i64 o0, .int .i64 p0, .int .i64 z0], .int .i64 turn] w fun e w' => e = .returned (.bool true) ∧ Below w.heap.size w w' := by
  have f1a : 0 ≤ Psp.within f0 4 := Psp.within_lo _ _
  have f1b : Psp.within f0 4 < 4 := Psp.within_hi _ _ (by omega)
  have c1a : 0 ≤ Psp.within c0 4 := Psp.within_lo _ _
  have c1b : Psp.within c0 4 < 4 := Psp.within_hi _ _ (by omega)
  obtain ⟨q, hqd⟩ : ∃ q : Nat, (2 * (1 + Psp.within f0 4) + 1).toNat = q := ⟨_, rfl⟩
  have hqq : (q : Int) = 2 * (1 + Psp.within f0 4) + 1 := by omega
  have hR := fun W => right_any k0 f0 c0 v0 i0 q0 o0 p0 z0 W hk hf hc hv hi hq hp hz q hqq
  obtain ⟨hSm, _⟩ := right_is k0 f0 c0 v0 i0 q0 p0 z0 q hqq
  have hRok := right_rok k0 f0 c0 v0 i0 q0 p0 z0 q hqq
  have hAl := right_alone k0 f0 c0 v0 i0 q0 p0 z0 q
  skip
  obtain ⟨m, hm⟩ : ∃ m, rightA k0 f0 c0 v0 i0 q0 p0 z0 q = m := ⟨_, rfl⟩
  rw [hm] at hSm hRok hAl 
  have HR : Hid (∀ W : World, Calls Try.prog 27 #[.int .i64 k0, .int .i64 f0, .int .i64 c0, .int .i64 v0, .int .i64 i0, .int .i64 q0, .agg #[.int .i64 o0, .int .i64 p0, .int .i64 z0]] W (Gives m W)) := Lib.hid fun W => by rw [← hm]; exact hR W
  obtain ⟨f1, hf1⟩ : ∃ x, Psp.within f0 4 = x := ⟨_, rfl⟩
  obtain ⟨c1, hc1⟩ : ∃ x, Psp.within c0 4 = x := ⟨_, rfl⟩
  have HWi : Hid (∀ x n : Int, ((x = f0 ∨ x = c0) ∧ n = 4) ∨ (x = turn ∧ n = 9) → ∀ W : World, Calls Try.prog 17 #[.int .i64 x, .int .i64 n] W fun e w' => e = .returned (.int .i64 (Psp.within x n)) ∧ W = w') := Lib.hid fun x n hx W => by
    rcases hx with ⟨rfl | rfl, rfl⟩ | ⟨rfl, rfl⟩
    · exact within_any _ 4 W hf.1 hf.2 (by omega) (by omega)
    · exact within_any _ 4 W hc.1 hc.2 (by omega) (by omega)
    · exact within_any _ 9 W htu.1 htu.2 (by omega) (by omega)
  have HE := Lib.hid (And.intro hf1 (And.intro hc1 ht))
  rw [hf1, hc1] at hRok
  rw [hf1] at f1a f1b
  rw [hc1] at c1a c1b
  have HSm := Lib.hid hSm
  have HRok := Lib.hid hRok
  have HAl := Lib.hid hAl
  have Hwf := Lib.hid (wf_of_ok hSm.ok)
  skip
  clear hR hm hSm hRok hAl hqq hqd hk hf hc hv hi hq hp hz htu hf1 hc1 ht 
  go_enter Try.func7, Try.ntmps7
  go_wp2_with fail
  refine (HR.out _).mono ?_
  rintro e w1 ⟨Ab, Ao, Ac, Ap, cb, co, cc, cp, rfl, hmo, hb1, how⟩
  have hbw : Below w.heap.size w w1 := (alloc_below w _).trans (hb1.mono (by simp))
  have hz1 := hbw.size
  go_upto_region 2 with fail
  have hb2 := alloc_below w1 (.cells #[.int .i64 m.k, .int .i64 m.f, .int .i64 m.v, .int .i64 m.i, .int .i64 m.q, .int .i64 m.r, .slice Ab m.b.length cb, .slice Ao m.o.length co, .slice Ac m.c.length cc, .slice Ap m.p.length cp] 27)
  have hc2 := heap_alloc_new w1 (.cells #[.int .i64 m.k, .int .i64 m.f, .int .i64 m.v, .int .i64 m.i, .int .i64 m.q, .int .i64 m.r, .slice Ab m.b.length cb, .slice Ao m.o.length co, .slice Ac m.c.length cc, .slice Ap m.p.length cp] 27)
  have hs2 : (w1.alloc (.cells #[.int .i64 m.k, .int .i64 m.f, .int .i64 m.v, .int .i64 m.i, .int .i64 m.q, .int .i64 m.r, .slice Ab m.b.length cb, .slice Ao m.o.length co, .slice Ac m.c.length cc, .slice Ap m.p.length cp] 27)).heap.size = w1.heap.size + 1 := by simp
  obtain ⟨W2, hW2⟩ : ∃ W, w1.alloc (.cells #[.int .i64 m.k, .int .i64 m.f, .int .i64 m.v, .int .i64 m.i, .int .i64 m.q, .int .i64 m.r, .slice Ab m.b.length cb, .slice Ao m.o.length co, .slice Ac m.c.length cc, .slice Ap m.p.length cp] 27) = W := ⟨_, rfl⟩
  rw [hW2] at hb2 hc2 hs2 ⊢
  replace hs2 : w1.heap.size + 1 ≤ W2.heap.size := by omega
  have HB2 := Lib.hid (Below.then hbw hb2 hz1)
  have HC2 := Lib.hid hc2
  have HM2 := Lib.hid ((hmo.keeps (P' := fun b => b < w1.heap.size) (Keeps.mono fun b hb _ => hb)).keeps (Keeps.below hb2))
  have hz0 : w.heap.size ≤ (w.alloc (.cells #[.int .i64 o0, .int .i64 p0, .int .i64 z0] 47)).heap.size := by simp
  obtain ⟨N0, hN0⟩ : ∃ n, (w.alloc (.cells #[.int .i64 o0, .int .i64 p0, .int .i64 z0] 47)).heap.size = n := ⟨_, rfl⟩
  have hzN := hb1.size
  rw [hN0] at hz0 hzN
  clear hN0 hW2 hb2 hmo hb1 how hbw
  obtain ⟨hf1, hc1, ht⟩ := HE.out
  have x4 : W2.cell? ⟨w1.heap.size, 4, none⟩ = some (.int .i64 m.q) := by rw [cell_of_row W2 _ 4 _ _ _ hc2]; rfl
  have fz := frozen_of_row W2 _ 4 _ _ hc2
  go_upto_region 23 with (go_at_call 17; refine (HWi.out _ _ (by first | exact Or.inl ⟨Or.inl rfl, rfl⟩ | exact Or.inl ⟨Or.inr rfl, rfl⟩ | exact Or.inr ⟨rfl, rfl⟩) _).mono ?_; rintro e w' ⟨rfl, rfl⟩)
  clear hf1 hc1 ht x4 fz 
  have hc3 : (W2.setCell ⟨w1.heap.size, 4, none⟩ (.int .i64 (-1))).heap[w1.heap.size]? = some (.cells #[.int .i64 m.k, .int .i64 m.f, .int .i64 m.v, .int .i64 m.i, .int .i64 (-1), .int .i64 m.r, .slice Ab m.b.length cb, .slice Ao m.o.length co, .slice Ac m.c.length cc, .slice Ap m.p.length cp] 27 (0, 0)) := by
    rw [heap_setCell_same W2 w1.heap.size 4 _ _ _ hc2]; rfl
  have HB3' := Lib.hid (HB2.out.setCell (p := ⟨w1.heap.size, 4, none⟩) (by show w.heap.size ≤ w1.heap.size; omega) (.int .i64 (-1)))
  have HM3' : Hid (MsgOk (W2.setCell ⟨w1.heap.size, 4, none⟩ (.int .i64 (-1))) (fun b => b < w1.heap.size) ⟨{ m with q := (-1) }, .slice Ab m.b.length cb, .slice Ao m.o.length co, .slice Ac m.c.length cc, .slice Ap m.p.length cp⟩) := Lib.hid (MsgOk.keeps (x := ⟨{ m with q := (-1) }, .slice Ab m.b.length cb, .slice Ao m.o.length co, .slice Ac m.c.length cc, .slice Ap m.p.length cp⟩) HM2.out ⟨by simp [World.setCell], fun b hb hlt => ⟨Below.heap_setCell W2 ⟨w1.heap.size, 4, none⟩ _ b (by show b ≠ w1.heap.size; omega), hb⟩⟩)
  obtain ⟨W3, hW3⟩ : ∃ W, W2.setCell ⟨w1.heap.size, 4, none⟩ (.int .i64 (-1)) = W := ⟨_, rfl⟩
  rw [hW3] at hc3 HB3' HM3' ⊢
  have HC3 := Lib.hid hc3
  have HB3 := HB3'
  have HM3 := HM3'
  clear hW3 hc3 hc2 HB3' HM3' HB2 HC2 HM2
  have hm3 := HC3.out
  obtain ⟨y0, y1, y2, y3, y4, y5, y6, y7, y8, y9⟩ := box_cells hm3
  clear hm3
  go_wp2_with fail
  clear y0 y1 y2 y3 y4 y5 y6 y7 y8 y9
  refine (form_any { m with q := (-1) } (.slice Ab m.b.length cb) (.slice Ao m.o.length co) (.slice Ac m.c.length cc) (.slice Ap m.p.length cp) (1 + f1) (1 + c1) W3 _ HM3.out ⟨Hwf.out.1, Hwf.out.2.1, Hwf.out.2.2.1, Hwf.out.2.2.2.1, ⟨by show (-9223372036854775808 : Int) ≤ (-1); omega, by show ((-1) : Int) ≤ 9223372036854775807; omega⟩, Hwf.out.2.2.2.2.2.1, Hwf.out.2.2.2.2.2.2⟩ (fun _ => ⟨by omega, by omega⟩)).mono ?_
  rw [show Psp.formM { m with q := (-1) } (1 + f1) (1 + c1) = false from spoil_4 HRok.out]
  rintro e w4 ⟨rfl, hb⟩
  have HB4 := Lib.hid (Below.then HB3.out hb HB3.out.size)
  have HC4 := Lib.hid (box_below HC3.out hb (Nat.le_refl _))
  have HM4 := Lib.hid (HM3.out.keeps (Keeps.below hb))
  clear hb HB3 HC3 HM3
  obtain ⟨y0, y1, y2, y3, y4, y5, y6, y7, y8, y9⟩ := box_cells HC4.out
  go_wp2_with fail
  clear y0 y1 y2 y3 y4 y5 y6 y7 y8 y9
  refine (rform_any { m with q := (-1) } (.slice Ab m.b.length cb) (.slice Ao m.o.length co) (.slice Ac m.c.length cc) (.slice Ap m.p.length cp) (1 + f1) (1 + c1) w4 _ HM4.out ⟨Hwf.out.1, Hwf.out.2.1, Hwf.out.2.2.1, Hwf.out.2.2.2.1, ⟨by show (-9223372036854775808 : Int) ≤ (-1); omega, by show ((-1) : Int) ≤ 9223372036854775807; omega⟩, Hwf.out.2.2.2.2.2.1, Hwf.out.2.2.2.2.2.2⟩).mono ?_
  rw [show Psp.formM { m with q := (-1) } (1 + f1) (1 + c1) = false from spoil_4 HRok.out]
  rintro e w5 ⟨rfl, hb⟩
  have HB5 := Lib.hid (Below.then HB4.out hb HB4.out.size)
  clear hb HB4 HC4 HM4
  go_wp2_with fail
  refine (wakes06 _).mono ?_
  rintro e wz ⟨rfl, hbz⟩
  have HBz := Lib.hid (Below.then HB5.out hbz HB5.out.size)
  clear hbz
  go_wp2_with fail
  go_ret
  exact ⟨rfl, HBz.out⟩

set_option maxRecDepth 100000 in
set_option maxHeartbeats 8000000 in
theorem walk_5 (k0 f0 c0 v0 i0 q0 o0 p0 z0 turn : Int) (w : World) (hk : isI64 k0) (hf : isI64 f0) (hc : isI64 c0) (hv : isI64 v0) (hi : isI64 i0) (hq : isI64 q0) (hp : isI64 p0) (hz : isI64 z0) (htu : isI64 turn) (ht : Psp.within turn 9 = 5) (hk10 : (rightA k0 f0 c0 v0 i0 q0 p0 z0 ((2 * (1 + Psp.within f0 4) + 1).toNat)).k = 10) :
    Calls Try.prog 7 #[.int .i64 k0, .int .i64 f0, .int .i64 c0, .int .i64 v0, .int .i64 i0, .int .i64 q0, .agg #[.int .i64 o0, .int .i64 p0, .int .i64 z0], .int .i64 turn] w fun e w' => e = .returned (.bool true) ∧ Below w.heap.size w w' := by
  have f1a : 0 ≤ Psp.within f0 4 := Psp.within_lo _ _
  have f1b : Psp.within f0 4 < 4 := Psp.within_hi _ _ (by omega)
  have c1a : 0 ≤ Psp.within c0 4 := Psp.within_lo _ _
  have c1b : Psp.within c0 4 < 4 := Psp.within_hi _ _ (by omega)
  obtain ⟨q, hqd⟩ : ∃ q : Nat, (2 * (1 + Psp.within f0 4) + 1).toNat = q := ⟨_, rfl⟩
  have hqq : (q : Int) = 2 * (1 + Psp.within f0 4) + 1 := by omega
  have hR := fun W => right_any k0 f0 c0 v0 i0 q0 o0 p0 z0 W hk hf hc hv hi hq hp hz q hqq
  obtain ⟨hSm, _⟩ := right_is k0 f0 c0 v0 i0 q0 p0 z0 q hqq
  have hRok := right_rok k0 f0 c0 v0 i0 q0 p0 z0 q hqq
  have hAl := right_alone k0 f0 c0 v0 i0 q0 p0 z0 q
  rw [hqd] at hk10
  obtain ⟨m, hm⟩ : ∃ m, rightA k0 f0 c0 v0 i0 q0 p0 z0 q = m := ⟨_, rfl⟩
  rw [hm] at hSm hRok hAl hk10
  have HR : Hid (∀ W : World, Calls Try.prog 27 #[.int .i64 k0, .int .i64 f0, .int .i64 c0, .int .i64 v0, .int .i64 i0, .int .i64 q0, .agg #[.int .i64 o0, .int .i64 p0, .int .i64 z0]] W (Gives m W)) := Lib.hid fun W => by rw [← hm]; exact hR W
  obtain ⟨f1, hf1⟩ : ∃ x, Psp.within f0 4 = x := ⟨_, rfl⟩
  obtain ⟨c1, hc1⟩ : ∃ x, Psp.within c0 4 = x := ⟨_, rfl⟩
  have HWi : Hid (∀ x n : Int, ((x = f0 ∨ x = c0) ∧ n = 4) ∨ (x = turn ∧ n = 9) → ∀ W : World, Calls Try.prog 17 #[.int .i64 x, .int .i64 n] W fun e w' => e = .returned (.int .i64 (Psp.within x n)) ∧ W = w') := Lib.hid fun x n hx W => by
    rcases hx with ⟨rfl | rfl, rfl⟩ | ⟨rfl, rfl⟩
    · exact within_any _ 4 W hf.1 hf.2 (by omega) (by omega)
    · exact within_any _ 4 W hc.1 hc.2 (by omega) (by omega)
    · exact within_any _ 9 W htu.1 htu.2 (by omega) (by omega)
  have HE := Lib.hid (And.intro hf1 (And.intro hc1 ht))
  rw [hf1, hc1] at hRok
  rw [hf1] at f1a f1b
  rw [hc1] at c1a c1b
  have HSm := Lib.hid hSm
  have HRok := Lib.hid hRok
  have HAl := Lib.hid hAl
  have Hwf := Lib.hid (wf_of_ok hSm.ok)
  have Hk10 := Lib.hid hk10
  clear hR hm hSm hRok hAl hqq hqd hk hf hc hv hi hq hp hz htu hf1 hc1 ht hk10
  go_enter Try.func7, Try.ntmps7
  go_wp2_with fail
  refine (HR.out _).mono ?_
  rintro e w1 ⟨Ab, Ao, Ac, Ap, cb, co, cc, cp, rfl, hmo, hb1, how⟩
  have hbw : Below w.heap.size w w1 := (alloc_below w _).trans (hb1.mono (by simp))
  have hz1 := hbw.size
  go_upto_region 2 with fail
  have hb2 := alloc_below w1 (.cells #[.int .i64 m.k, .int .i64 m.f, .int .i64 m.v, .int .i64 m.i, .int .i64 m.q, .int .i64 m.r, .slice Ab m.b.length cb, .slice Ao m.o.length co, .slice Ac m.c.length cc, .slice Ap m.p.length cp] 27)
  have hc2 := heap_alloc_new w1 (.cells #[.int .i64 m.k, .int .i64 m.f, .int .i64 m.v, .int .i64 m.i, .int .i64 m.q, .int .i64 m.r, .slice Ab m.b.length cb, .slice Ao m.o.length co, .slice Ac m.c.length cc, .slice Ap m.p.length cp] 27)
  have hs2 : (w1.alloc (.cells #[.int .i64 m.k, .int .i64 m.f, .int .i64 m.v, .int .i64 m.i, .int .i64 m.q, .int .i64 m.r, .slice Ab m.b.length cb, .slice Ao m.o.length co, .slice Ac m.c.length cc, .slice Ap m.p.length cp] 27)).heap.size = w1.heap.size + 1 := by simp
  obtain ⟨W2, hW2⟩ : ∃ W, w1.alloc (.cells #[.int .i64 m.k, .int .i64 m.f, .int .i64 m.v, .int .i64 m.i, .int .i64 m.q, .int .i64 m.r, .slice Ab m.b.length cb, .slice Ao m.o.length co, .slice Ac m.c.length cc, .slice Ap m.p.length cp] 27) = W := ⟨_, rfl⟩
  rw [hW2] at hb2 hc2 hs2 ⊢
  replace hs2 : w1.heap.size + 1 ≤ W2.heap.size := by omega
  have HB2 := Lib.hid (Below.then hbw hb2 hz1)
  have HC2 := Lib.hid hc2
  have HM2 := Lib.hid ((hmo.keeps (P' := fun b => b < w1.heap.size) (Keeps.mono fun b hb _ => hb)).keeps (Keeps.below hb2))
  have hz0 : w.heap.size ≤ (w.alloc (.cells #[.int .i64 o0, .int .i64 p0, .int .i64 z0] 47)).heap.size := by simp
  obtain ⟨N0, hN0⟩ : ∃ n, (w.alloc (.cells #[.int .i64 o0, .int .i64 p0, .int .i64 z0] 47)).heap.size = n := ⟨_, rfl⟩
  have hzN := hb1.size
  rw [hN0] at hz0 hzN
  clear hN0 hW2 hb2 hmo hb1 how hbw
  obtain ⟨hf1, hc1, ht⟩ := HE.out
  have x0 : W2.cell? ⟨w1.heap.size, 0, none⟩ = some (.int .i64 m.k) := by rw [cell_of_row W2 _ 0 _ _ _ hc2]; rfl
  have x5 : W2.cell? ⟨w1.heap.size, 5, none⟩ = some (.int .i64 m.r) := by rw [cell_of_row W2 _ 5 _ _ _ hc2]; rfl
  have fz := frozen_of_row W2 _ 5 _ _ hc2
  have hkk := Hk10.out
  go_upto_region 23 with (go_at_call 17; refine (HWi.out _ _ (by first | exact Or.inl ⟨Or.inl rfl, rfl⟩ | exact Or.inl ⟨Or.inr rfl, rfl⟩ | exact Or.inr ⟨rfl, rfl⟩) _).mono ?_; rintro e w' ⟨rfl, rfl⟩)
  clear hf1 hc1 ht x0 x5 fz hkk
  have hc3 : (W2.setCell ⟨w1.heap.size, 5, none⟩ (.int .i64 549755813888)).heap[w1.heap.size]? = some (.cells #[.int .i64 m.k, .int .i64 m.f, .int .i64 m.v, .int .i64 m.i, .int .i64 m.q, .int .i64 549755813888, .slice Ab m.b.length cb, .slice Ao m.o.length co, .slice Ac m.c.length cc, .slice Ap m.p.length cp] 27 (0, 0)) := by
    rw [heap_setCell_same W2 w1.heap.size 5 _ _ _ hc2]; rfl
  have HB3' := Lib.hid (HB2.out.setCell (p := ⟨w1.heap.size, 5, none⟩) (by show w.heap.size ≤ w1.heap.size; omega) (.int .i64 549755813888))
  have HM3' : Hid (MsgOk (W2.setCell ⟨w1.heap.size, 5, none⟩ (.int .i64 549755813888)) (fun b => b < w1.heap.size) ⟨{ m with r := 549755813888 }, .slice Ab m.b.length cb, .slice Ao m.o.length co, .slice Ac m.c.length cc, .slice Ap m.p.length cp⟩) := Lib.hid (MsgOk.keeps (x := ⟨{ m with r := 549755813888 }, .slice Ab m.b.length cb, .slice Ao m.o.length co, .slice Ac m.c.length cc, .slice Ap m.p.length cp⟩) HM2.out ⟨by simp [World.setCell], fun b hb hlt => ⟨Below.heap_setCell W2 ⟨w1.heap.size, 5, none⟩ _ b (by show b ≠ w1.heap.size; omega), hb⟩⟩)
  obtain ⟨W3, hW3⟩ : ∃ W, W2.setCell ⟨w1.heap.size, 5, none⟩ (.int .i64 549755813888) = W := ⟨_, rfl⟩
  rw [hW3] at hc3 HB3' HM3' ⊢
  have HC3 := Lib.hid hc3
  have HB3 := HB3'
  have HM3 := HM3'
  clear hW3 hc3 hc2 HB3' HM3' HB2 HC2 HM2
  have hm3 := HC3.out
  obtain ⟨y0, y1, y2, y3, y4, y5, y6, y7, y8, y9⟩ := box_cells hm3
  clear hm3
  go_wp2_with fail
  clear y0 y1 y2 y3 y4 y5 y6 y7 y8 y9
  refine (form_any { m with r := 549755813888 } (.slice Ab m.b.length cb) (.slice Ao m.o.length co) (.slice Ac m.c.length cc) (.slice Ap m.p.length cp) (1 + f1) (1 + c1) W3 _ HM3.out ⟨Hwf.out.1, Hwf.out.2.1, Hwf.out.2.2.1, Hwf.out.2.2.2.1, Hwf.out.2.2.2.2.1, ⟨by show (-9223372036854775808 : Int) ≤ 549755813888; omega, by show (549755813888 : Int) ≤ 9223372036854775807; omega⟩, Hwf.out.2.2.2.2.2.2⟩ (fun _ => ⟨by omega, by omega⟩)).mono ?_
  rw [show Psp.formM { m with r := 549755813888 } (1 + f1) (1 + c1) = false from spoil_5 HRok.out Hk10.out]
  rintro e w4 ⟨rfl, hb⟩
  have HB4 := Lib.hid (Below.then HB3.out hb HB3.out.size)
  have HC4 := Lib.hid (box_below HC3.out hb (Nat.le_refl _))
  have HM4 := Lib.hid (HM3.out.keeps (Keeps.below hb))
  clear hb HB3 HC3 HM3
  obtain ⟨y0, y1, y2, y3, y4, y5, y6, y7, y8, y9⟩ := box_cells HC4.out
  go_wp2_with fail
  clear y0 y1 y2 y3 y4 y5 y6 y7 y8 y9
  refine (rform_any { m with r := 549755813888 } (.slice Ab m.b.length cb) (.slice Ao m.o.length co) (.slice Ac m.c.length cc) (.slice Ap m.p.length cp) (1 + f1) (1 + c1) w4 _ HM4.out ⟨Hwf.out.1, Hwf.out.2.1, Hwf.out.2.2.1, Hwf.out.2.2.2.1, Hwf.out.2.2.2.2.1, ⟨by show (-9223372036854775808 : Int) ≤ 549755813888; omega, by show (549755813888 : Int) ≤ 9223372036854775807; omega⟩, Hwf.out.2.2.2.2.2.2⟩).mono ?_
  rw [show Psp.formM { m with r := 549755813888 } (1 + f1) (1 + c1) = false from spoil_5 HRok.out Hk10.out]
  rintro e w5 ⟨rfl, hb⟩
  have HB5 := Lib.hid (Below.then HB4.out hb HB4.out.size)
  clear hb HB4 HC4 HM4
  go_wp2_with fail
  refine (wakes06 _).mono ?_
  rintro e wz ⟨rfl, hbz⟩
  have HBz := Lib.hid (Below.then HB5.out hbz HB5.out.size)
  clear hbz
  go_wp2_with fail
  go_ret
  exact ⟨rfl, HBz.out⟩

set_option maxRecDepth 100000 in
set_option maxHeartbeats 8000000 in
theorem walk_55 (k0 f0 c0 v0 i0 q0 o0 p0 z0 turn : Int) (w : World) (hk : isI64 k0) (hf : isI64 f0) (hc : isI64 c0) (hv : isI64 v0) (hi : isI64 i0) (hq : isI64 q0) (hp : isI64 p0) (hz : isI64 z0) (htu : isI64 turn) (ht : Psp.within turn 9 = 5) (hk10 : (rightA k0 f0 c0 v0 i0 q0 p0 z0 ((2 * (1 + Psp.within f0 4) + 1).toNat)).k ≠ 10) :
    Calls Try.prog 7 #[.int .i64 k0, .int .i64 f0, .int .i64 c0, .int .i64 v0, .int .i64 i0, .int .i64 q0, .agg #[.int .i64 o0, .int .i64 p0, .int .i64 z0], .int .i64 turn] w fun e w' => e = .returned (.bool true) ∧ Below w.heap.size w w' := by
  have f1a : 0 ≤ Psp.within f0 4 := Psp.within_lo _ _
  have f1b : Psp.within f0 4 < 4 := Psp.within_hi _ _ (by omega)
  have c1a : 0 ≤ Psp.within c0 4 := Psp.within_lo _ _
  have c1b : Psp.within c0 4 < 4 := Psp.within_hi _ _ (by omega)
  obtain ⟨q, hqd⟩ : ∃ q : Nat, (2 * (1 + Psp.within f0 4) + 1).toNat = q := ⟨_, rfl⟩
  have hqq : (q : Int) = 2 * (1 + Psp.within f0 4) + 1 := by omega
  have hR := fun W => right_any k0 f0 c0 v0 i0 q0 o0 p0 z0 W hk hf hc hv hi hq hp hz q hqq
  obtain ⟨hSm, _⟩ := right_is k0 f0 c0 v0 i0 q0 p0 z0 q hqq
  have hRok := right_rok k0 f0 c0 v0 i0 q0 p0 z0 q hqq
  have hAl := right_alone k0 f0 c0 v0 i0 q0 p0 z0 q
  rw [hqd] at hk10
  obtain ⟨m, hm⟩ : ∃ m, rightA k0 f0 c0 v0 i0 q0 p0 z0 q = m := ⟨_, rfl⟩
  rw [hm] at hSm hRok hAl hk10
  have HR : Hid (∀ W : World, Calls Try.prog 27 #[.int .i64 k0, .int .i64 f0, .int .i64 c0, .int .i64 v0, .int .i64 i0, .int .i64 q0, .agg #[.int .i64 o0, .int .i64 p0, .int .i64 z0]] W (Gives m W)) := Lib.hid fun W => by rw [← hm]; exact hR W
  obtain ⟨f1, hf1⟩ : ∃ x, Psp.within f0 4 = x := ⟨_, rfl⟩
  obtain ⟨c1, hc1⟩ : ∃ x, Psp.within c0 4 = x := ⟨_, rfl⟩
  have HWi : Hid (∀ x n : Int, ((x = f0 ∨ x = c0) ∧ n = 4) ∨ (x = turn ∧ n = 9) → ∀ W : World, Calls Try.prog 17 #[.int .i64 x, .int .i64 n] W fun e w' => e = .returned (.int .i64 (Psp.within x n)) ∧ W = w') := Lib.hid fun x n hx W => by
    rcases hx with ⟨rfl | rfl, rfl⟩ | ⟨rfl, rfl⟩
    · exact within_any _ 4 W hf.1 hf.2 (by omega) (by omega)
    · exact within_any _ 4 W hc.1 hc.2 (by omega) (by omega)
    · exact within_any _ 9 W htu.1 htu.2 (by omega) (by omega)
  have HE := Lib.hid (And.intro hf1 (And.intro hc1 ht))
  rw [hf1, hc1] at hRok
  rw [hf1] at f1a f1b
  rw [hc1] at c1a c1b
  have HSm := Lib.hid hSm
  have HRok := Lib.hid hRok
  have HAl := Lib.hid hAl
  have Hwf := Lib.hid (wf_of_ok hSm.ok)
  have Hk10 := Lib.hid hk10
  clear hR hm hSm hRok hAl hqq hqd hk hf hc hv hi hq hp hz htu hf1 hc1 ht hk10
  go_enter Try.func7, Try.ntmps7
  go_wp2_with fail
  refine (HR.out _).mono ?_
  rintro e w1 ⟨Ab, Ao, Ac, Ap, cb, co, cc, cp, rfl, hmo, hb1, how⟩
  have hbw : Below w.heap.size w w1 := (alloc_below w _).trans (hb1.mono (by simp))
  have hz1 := hbw.size
  go_upto_region 2 with fail
  have hb2 := alloc_below w1 (.cells #[.int .i64 m.k, .int .i64 m.f, .int .i64 m.v, .int .i64 m.i, .int .i64 m.q, .int .i64 m.r, .slice Ab m.b.length cb, .slice Ao m.o.length co, .slice Ac m.c.length cc, .slice Ap m.p.length cp] 27)
  have hc2 := heap_alloc_new w1 (.cells #[.int .i64 m.k, .int .i64 m.f, .int .i64 m.v, .int .i64 m.i, .int .i64 m.q, .int .i64 m.r, .slice Ab m.b.length cb, .slice Ao m.o.length co, .slice Ac m.c.length cc, .slice Ap m.p.length cp] 27)
  have hs2 : (w1.alloc (.cells #[.int .i64 m.k, .int .i64 m.f, .int .i64 m.v, .int .i64 m.i, .int .i64 m.q, .int .i64 m.r, .slice Ab m.b.length cb, .slice Ao m.o.length co, .slice Ac m.c.length cc, .slice Ap m.p.length cp] 27)).heap.size = w1.heap.size + 1 := by simp
  obtain ⟨W2, hW2⟩ : ∃ W, w1.alloc (.cells #[.int .i64 m.k, .int .i64 m.f, .int .i64 m.v, .int .i64 m.i, .int .i64 m.q, .int .i64 m.r, .slice Ab m.b.length cb, .slice Ao m.o.length co, .slice Ac m.c.length cc, .slice Ap m.p.length cp] 27) = W := ⟨_, rfl⟩
  rw [hW2] at hb2 hc2 hs2 ⊢
  replace hs2 : w1.heap.size + 1 ≤ W2.heap.size := by omega
  have HB2 := Lib.hid (Below.then hbw hb2 hz1)
  have HC2 := Lib.hid hc2
  have HM2 := Lib.hid ((hmo.keeps (P' := fun b => b < w1.heap.size) (Keeps.mono fun b hb _ => hb)).keeps (Keeps.below hb2))
  have hz0 : w.heap.size ≤ (w.alloc (.cells #[.int .i64 o0, .int .i64 p0, .int .i64 z0] 47)).heap.size := by simp
  obtain ⟨N0, hN0⟩ : ∃ n, (w.alloc (.cells #[.int .i64 o0, .int .i64 p0, .int .i64 z0] 47)).heap.size = n := ⟨_, rfl⟩
  have hzN := hb1.size
  rw [hN0] at hz0 hzN
  clear hN0 hW2 hb2 hmo hb1 how hbw
  obtain ⟨hf1, hc1, ht⟩ := HE.out
  have x0 : W2.cell? ⟨w1.heap.size, 0, none⟩ = some (.int .i64 m.k) := by rw [cell_of_row W2 _ 0 _ _ _ hc2]; rfl
  have x5 : W2.cell? ⟨w1.heap.size, 5, none⟩ = some (.int .i64 m.r) := by rw [cell_of_row W2 _ 5 _ _ _ hc2]; rfl
  have fz := frozen_of_row W2 _ 5 _ _ hc2
  have hkk : (m.k == 10) = false := beq_eq_false_iff_ne.2 Hk10.out
  go_upto_region 23 with (go_at_call 17; refine (HWi.out _ _ (by first | exact Or.inl ⟨Or.inl rfl, rfl⟩ | exact Or.inl ⟨Or.inr rfl, rfl⟩ | exact Or.inr ⟨rfl, rfl⟩) _).mono ?_; rintro e w' ⟨rfl, rfl⟩)
  clear hf1 hc1 ht x0 x5 fz hkk
  have hc3 : (W2.setCell ⟨w1.heap.size, 5, none⟩ (.int .i64 1)).heap[w1.heap.size]? = some (.cells #[.int .i64 m.k, .int .i64 m.f, .int .i64 m.v, .int .i64 m.i, .int .i64 m.q, .int .i64 1, .slice Ab m.b.length cb, .slice Ao m.o.length co, .slice Ac m.c.length cc, .slice Ap m.p.length cp] 27 (0, 0)) := by
    rw [heap_setCell_same W2 w1.heap.size 5 _ _ _ hc2]; rfl
  have HB3' := Lib.hid (HB2.out.setCell (p := ⟨w1.heap.size, 5, none⟩) (by show w.heap.size ≤ w1.heap.size; omega) (.int .i64 1))
  have HM3' : Hid (MsgOk (W2.setCell ⟨w1.heap.size, 5, none⟩ (.int .i64 1)) (fun b => b < w1.heap.size) ⟨{ m with r := 1 }, .slice Ab m.b.length cb, .slice Ao m.o.length co, .slice Ac m.c.length cc, .slice Ap m.p.length cp⟩) := Lib.hid (MsgOk.keeps (x := ⟨{ m with r := 1 }, .slice Ab m.b.length cb, .slice Ao m.o.length co, .slice Ac m.c.length cc, .slice Ap m.p.length cp⟩) HM2.out ⟨by simp [World.setCell], fun b hb hlt => ⟨Below.heap_setCell W2 ⟨w1.heap.size, 5, none⟩ _ b (by show b ≠ w1.heap.size; omega), hb⟩⟩)
  obtain ⟨W3, hW3⟩ : ∃ W, W2.setCell ⟨w1.heap.size, 5, none⟩ (.int .i64 1) = W := ⟨_, rfl⟩
  rw [hW3] at hc3 HB3' HM3' ⊢
  have HC3 := Lib.hid hc3
  have HB3 := HB3'
  have HM3 := HM3'
  clear hW3 hc3 hc2 HB3' HM3' HB2 HC2 HM2
  have hm3 := HC3.out
  obtain ⟨y0, y1, y2, y3, y4, y5, y6, y7, y8, y9⟩ := box_cells hm3
  clear hm3
  go_wp2_with fail
  clear y0 y1 y2 y3 y4 y5 y6 y7 y8 y9
  refine (form_any { m with r := 1 } (.slice Ab m.b.length cb) (.slice Ao m.o.length co) (.slice Ac m.c.length cc) (.slice Ap m.p.length cp) (1 + f1) (1 + c1) W3 _ HM3.out ⟨Hwf.out.1, Hwf.out.2.1, Hwf.out.2.2.1, Hwf.out.2.2.2.1, Hwf.out.2.2.2.2.1, ⟨by show (-9223372036854775808 : Int) ≤ 1; omega, by show (1 : Int) ≤ 9223372036854775807; omega⟩, Hwf.out.2.2.2.2.2.2⟩ (fun _ => ⟨by omega, by omega⟩)).mono ?_
  rw [show Psp.formM { m with r := 1 } (1 + f1) (1 + c1) = false from spoil_6 HRok.out Hk10.out]
  rintro e w4 ⟨rfl, hb⟩
  have HB4 := Lib.hid (Below.then HB3.out hb HB3.out.size)
  have HC4 := Lib.hid (box_below HC3.out hb (Nat.le_refl _))
  have HM4 := Lib.hid (HM3.out.keeps (Keeps.below hb))
  clear hb HB3 HC3 HM3
  obtain ⟨y0, y1, y2, y3, y4, y5, y6, y7, y8, y9⟩ := box_cells HC4.out
  go_wp2_with fail
  clear y0 y1 y2 y3 y4 y5 y6 y7 y8 y9
  refine (rform_any { m with r := 1 } (.slice Ab m.b.length cb) (.slice Ao m.o.length co) (.slice Ac m.c.length cc) (.slice Ap m.p.length cp) (1 + f1) (1 + c1) w4 _ HM4.out ⟨Hwf.out.1, Hwf.out.2.1, Hwf.out.2.2.1, Hwf.out.2.2.2.1, Hwf.out.2.2.2.2.1, ⟨by show (-9223372036854775808 : Int) ≤ 1; omega, by show (1 : Int) ≤ 9223372036854775807; omega⟩, Hwf.out.2.2.2.2.2.2⟩).mono ?_
  rw [show Psp.formM { m with r := 1 } (1 + f1) (1 + c1) = false from spoil_6 HRok.out Hk10.out]
  rintro e w5 ⟨rfl, hb⟩
  have HB5 := Lib.hid (Below.then HB4.out hb HB4.out.size)
  clear hb HB4 HC4 HM4
  go_wp2_with fail
  refine (wakes06 _).mono ?_
  rintro e wz ⟨rfl, hbz⟩
  have HBz := Lib.hid (Below.then HB5.out hbz HB5.out.size)
  clear hbz
  go_wp2_with fail
  go_ret
  exact ⟨rfl, HBz.out⟩

set_option maxRecDepth 100000 in
set_option maxHeartbeats 8000000 in
theorem walk_6 (k0 f0 c0 v0 i0 q0 o0 p0 z0 turn : Int) (w : World) (hk : isI64 k0) (hf : isI64 f0) (hc : isI64 c0) (hv : isI64 v0) (hi : isI64 i0) (hq : isI64 q0) (hp : isI64 p0) (hz : isI64 z0) (htu : isI64 turn) (ht : Psp.within turn 9 = 6) :
    Calls Try.prog 7 #[.int .i64 k0, .int .i64 f0, .int .i64 c0, .int .i64 v0, .int .i64 i0, .int .i64 q0, .agg #[.int .i64 o0, .int .i64 p0, .int .i64 z0], .int .i64 turn] w fun e w' => e = .returned (.bool true) ∧ Below w.heap.size w w' := by
  have f1a : 0 ≤ Psp.within f0 4 := Psp.within_lo _ _
  have f1b : Psp.within f0 4 < 4 := Psp.within_hi _ _ (by omega)
  have c1a : 0 ≤ Psp.within c0 4 := Psp.within_lo _ _
  have c1b : Psp.within c0 4 < 4 := Psp.within_hi _ _ (by omega)
  obtain ⟨q, hqd⟩ : ∃ q : Nat, (2 * (1 + Psp.within f0 4) + 1).toNat = q := ⟨_, rfl⟩
  have hqq : (q : Int) = 2 * (1 + Psp.within f0 4) + 1 := by omega
  have hR := fun W => right_any k0 f0 c0 v0 i0 q0 o0 p0 z0 W hk hf hc hv hi hq hp hz q hqq
  obtain ⟨hSm, _⟩ := right_is k0 f0 c0 v0 i0 q0 p0 z0 q hqq
  have hRok := right_rok k0 f0 c0 v0 i0 q0 p0 z0 q hqq
  have hAl := right_alone k0 f0 c0 v0 i0 q0 p0 z0 q
  skip
  obtain ⟨m, hm⟩ : ∃ m, rightA k0 f0 c0 v0 i0 q0 p0 z0 q = m := ⟨_, rfl⟩
  rw [hm] at hSm hRok hAl 
  have HR : Hid (∀ W : World, Calls Try.prog 27 #[.int .i64 k0, .int .i64 f0, .int .i64 c0, .int .i64 v0, .int .i64 i0, .int .i64 q0, .agg #[.int .i64 o0, .int .i64 p0, .int .i64 z0]] W (Gives m W)) := Lib.hid fun W => by rw [← hm]; exact hR W
  obtain ⟨f1, hf1⟩ : ∃ x, Psp.within f0 4 = x := ⟨_, rfl⟩
  obtain ⟨c1, hc1⟩ : ∃ x, Psp.within c0 4 = x := ⟨_, rfl⟩
  have HWi : Hid (∀ x n : Int, ((x = f0 ∨ x = c0) ∧ n = 4) ∨ (x = turn ∧ n = 9) → ∀ W : World, Calls Try.prog 17 #[.int .i64 x, .int .i64 n] W fun e w' => e = .returned (.int .i64 (Psp.within x n)) ∧ W = w') := Lib.hid fun x n hx W => by
    rcases hx with ⟨rfl | rfl, rfl⟩ | ⟨rfl, rfl⟩
    · exact within_any _ 4 W hf.1 hf.2 (by omega) (by omega)
    · exact within_any _ 4 W hc.1 hc.2 (by omega) (by omega)
    · exact within_any _ 9 W htu.1 htu.2 (by omega) (by omega)
  have HE := Lib.hid (And.intro hf1 (And.intro hc1 ht))
  rw [hf1, hc1] at hRok
  rw [hf1] at f1a f1b
  rw [hc1] at c1a c1b
  have HSm := Lib.hid hSm
  have HRok := Lib.hid hRok
  have HAl := Lib.hid hAl
  have Hwf := Lib.hid (wf_of_ok hSm.ok)
  skip
  clear hR hm hSm hRok hAl hqq hqd hk hf hc hv hi hq hp hz htu hf1 hc1 ht 
  go_enter Try.func7, Try.ntmps7
  go_wp2_with fail
  refine (HR.out _).mono ?_
  rintro e w1 ⟨Ab, Ao, Ac, Ap, cb, co, cc, cp, rfl, hmo, hb1, how⟩
  have hbw : Below w.heap.size w w1 := (alloc_below w _).trans (hb1.mono (by simp))
  have hz1 := hbw.size
  go_upto_region 2 with fail
  have hb2 := alloc_below w1 (.cells #[.int .i64 m.k, .int .i64 m.f, .int .i64 m.v, .int .i64 m.i, .int .i64 m.q, .int .i64 m.r, .slice Ab m.b.length cb, .slice Ao m.o.length co, .slice Ac m.c.length cc, .slice Ap m.p.length cp] 27)
  have hc2 := heap_alloc_new w1 (.cells #[.int .i64 m.k, .int .i64 m.f, .int .i64 m.v, .int .i64 m.i, .int .i64 m.q, .int .i64 m.r, .slice Ab m.b.length cb, .slice Ao m.o.length co, .slice Ac m.c.length cc, .slice Ap m.p.length cp] 27)
  have hs2 : (w1.alloc (.cells #[.int .i64 m.k, .int .i64 m.f, .int .i64 m.v, .int .i64 m.i, .int .i64 m.q, .int .i64 m.r, .slice Ab m.b.length cb, .slice Ao m.o.length co, .slice Ac m.c.length cc, .slice Ap m.p.length cp] 27)).heap.size = w1.heap.size + 1 := by simp
  obtain ⟨W2, hW2⟩ : ∃ W, w1.alloc (.cells #[.int .i64 m.k, .int .i64 m.f, .int .i64 m.v, .int .i64 m.i, .int .i64 m.q, .int .i64 m.r, .slice Ab m.b.length cb, .slice Ao m.o.length co, .slice Ac m.c.length cc, .slice Ap m.p.length cp] 27) = W := ⟨_, rfl⟩
  rw [hW2] at hb2 hc2 hs2 ⊢
  replace hs2 : w1.heap.size + 1 ≤ W2.heap.size := by omega
  have HB2 := Lib.hid (Below.then hbw hb2 hz1)
  have HC2 := Lib.hid hc2
  have HM2 := Lib.hid ((hmo.keeps (P' := fun b => b < w1.heap.size) (Keeps.mono fun b hb _ => hb)).keeps (Keeps.below hb2))
  have hz0 : w.heap.size ≤ (w.alloc (.cells #[.int .i64 o0, .int .i64 p0, .int .i64 z0] 47)).heap.size := by simp
  obtain ⟨N0, hN0⟩ : ∃ n, (w.alloc (.cells #[.int .i64 o0, .int .i64 p0, .int .i64 z0] 47)).heap.size = n := ⟨_, rfl⟩
  have HOw := Lib.hid (own_below how.b hb2)
  have HOl := Lib.hid how.b
  have Hzz := Lib.hid how.zb
  rw [hN0] at HOw HOl
  have hzN := hb1.size
  rw [hN0] at hz0 hzN
  clear hN0 hW2 hb2 hmo hb1 how hbw
  obtain ⟨hf1, hc1, ht⟩ := HE.out
  have x6 : W2.cell? ⟨w1.heap.size, 6, none⟩ = some (.slice Ab m.b.length cb) := by rw [cell_of_row W2 _ 6 _ _ _ hc2]; rfl
  have hl := okL_len HSm.out.b.1
  have Hjl := Lib.hid (fun j hj => (HOl.out.lt j hj).2)
  go_upto_region 23 with (first | (go_at_call 17; refine (HWi.out _ _ (by first | exact Or.inl ⟨Or.inl rfl, rfl⟩ | exact Or.inl ⟨Or.inr rfl, rfl⟩ | exact Or.inr ⟨rfl, rfl⟩) _).mono ?_; rintro e w' ⟨rfl, rfl⟩) | (at_builtin; refine wpList_app1 reqE rfl _ _ rfl N0 (.slice Ab m.b.length cb) m.b.length _ rfl HOw.out _ rfl rfl (by simp [Value.oneCell']) (by omega) (by decide) (by omega) ?_; intro v' w4 hown4 hg4 _ hv4; have Hown4 := Lib.hid hown4; have Hg4 := Lib.hid hg4; have Hv4 := Lib.hid hv4; obtain ⟨A4, c4, rfl, _, _, _⟩ := own_slice hown4; have hc4 := (hg4.block w1.heap.size (by omega) (fun he => (by have := Hjl.out _ he.symm; omega))).trans HC2.out; have z6 : w4.cell? ⟨w1.heap.size, 6, none⟩ = some (.slice Ab m.b.length cb) := (by rw [cell_of_row w4 _ 6 _ _ _ hc4]; rfl); have fz := frozen_of_row w4 _ 6 _ _ hc4; have HC4' := Lib.hid hc4; clear hown4 hg4 hv4 hc4))
  clear hf1 hc1 ht x6 z6 fz hc2
  have hk4 : Keeps (fun b => b < w1.heap.size) (fun b => b < w1.heap.size) w4 (w4.setCell ⟨w1.heap.size, 6, none⟩ (.slice A4 (m.b.length + 1) c4)) := ⟨by simp [World.setCell], fun b hb hlt => ⟨Below.heap_setCell w4 ⟨w1.heap.size, 6, none⟩ _ b (by show b ≠ w1.heap.size; omega), hb⟩⟩
  have hk5 : Keeps (fun b => b ≠ w1.heap.size) (fun b => b ≠ w1.heap.size) w4 (w4.setCell ⟨w1.heap.size, 6, none⟩ (.slice A4 (m.b.length + 1) c4)) := ⟨by simp [World.setCell], fun b hb hlt => ⟨Below.heap_setCell w4 ⟨w1.heap.size, 6, none⟩ _ b hb, hb⟩⟩
  have hlow : ∀ b, (Value.slice A4 (m.b.length + 1) c4).ownBlock = some b → b ≠ w1.heap.size := fun b hb => by
    rcases Hv4.out with hv | hv
    · rw [hv] at hb; have := Hjl.out _ hb; omega
    · rw [hv] at hb; injection hb with hb; omega
  have hoo : RdV (w4.setCell ⟨w1.heap.size, 6, none⟩ (.slice A4 (m.b.length + 1) c4)) (fun b => b ≠ w1.heap.size) (.slice Ao m.o.length co) m.o ∧ RdC (w4.setCell ⟨w1.heap.size, 6, none⟩ (.slice A4 (m.b.length + 1) c4)) (fun b => b ≠ w1.heap.size) (.slice Ac m.c.length cc) m.c ∧ RdA (w4.setCell ⟨w1.heap.size, 6, none⟩ (.slice A4 (m.b.length + 1) c4)) (fun b => b ≠ w1.heap.size) (.slice Ap m.p.length cp) m.p := by
    by_cases hbn : m.b = []
    · have hkk : Keeps (fun b => b < w1.heap.size) (fun b => b < w1.heap.size) W2 w4 := grown_keeps Hg4.out (Hzz.out hbn)
      have hk6 : Keeps (fun b => b < w1.heap.size) (fun b => b ≠ w1.heap.size) (w4.setCell ⟨w1.heap.size, 6, none⟩ (.slice A4 (m.b.length + 1) c4)) (w4.setCell ⟨w1.heap.size, 6, none⟩ (.slice A4 (m.b.length + 1) c4)) := Keeps.mono fun b _ hb => (by show b ≠ w1.heap.size; omega)
      exact ⟨RdV.keeps' (RdV.keeps' (RdV.keeps' HM2.out.2.1 hkk) hk4) hk6, (((HM2.out.2.2.1).keeps hkk).keeps hk4).keeps hk6, (((HM2.out.2.2.2).keeps hkk).keeps hk4).keeps hk6⟩
    · obtain ⟨a1, a2, a3⟩ := HAl.out.b hbn
      exact ⟨nilV HM2.out.2.1 a1, nilC HM2.out.2.2.1 a2, nilA HM2.out.2.2.2 a3⟩
  have hom := RdP.of_own Hown4.out
  have hor : RdR (w4.setCell ⟨w1.heap.size, 6, none⟩ (.slice A4 (m.b.length + 1) c4)) (fun b => b ≠ w1.heap.size) (.slice A4 (m.b.length + 1) c4) (m.b ++ [(⟨-1, 0, 0, 0, 0, 0⟩ : Psp.Req)]) := by
    unfold RdR
    rw [List.length_append, List.flatMap_append]
    exact (hom.mono (P' := fun b => b ≠ w1.heap.size) fun b _ hb => hlow b hb.1).keeps hk5
  have hc3 : (w4.setCell ⟨w1.heap.size, 6, none⟩ (.slice A4 (m.b.length + 1) c4)).heap[w1.heap.size]? = some (.cells #[.int .i64 m.k, .int .i64 m.f, .int .i64 m.v, .int .i64 m.i, .int .i64 m.q, .int .i64 m.r, .slice A4 (m.b.length + 1) c4, .slice Ao m.o.length co, .slice Ac m.c.length cc, .slice Ap m.p.length cp] 27 (0, 0)) := by
    rw [heap_setCell_same w4 w1.heap.size 6 _ _ _ HC4'.out]; rfl
  have HB3' := Lib.hid ((HB2.out.grown Hg4.out (by have := HB2.out.size; omega) (fun k hk => (by have := (HOl.out.lt k hk).1; omega))).setCell (p := ⟨w1.heap.size, 6, none⟩) (by show w.heap.size ≤ w1.heap.size; omega) (.slice A4 (m.b.length + 1) c4))
  have HM3' : Hid (MsgOk (w4.setCell ⟨w1.heap.size, 6, none⟩ (.slice A4 (m.b.length + 1) c4)) (fun b => b ≠ w1.heap.size) ⟨{ m with b := m.b ++ [(⟨-1, 0, 0, 0, 0, 0⟩ : Psp.Req)] }, .slice A4 (m.b.length + 1) c4, .slice Ao m.o.length co, .slice Ac m.c.length cc, .slice Ap m.p.length cp⟩) := Lib.hid ⟨hor, hoo.1, hoo.2.1, hoo.2.2⟩
  obtain ⟨W3, hW3⟩ : ∃ W, w4.setCell ⟨w1.heap.size, 6, none⟩ (.slice A4 (m.b.length + 1) c4) = W := ⟨_, rfl⟩
  rw [hW3] at hc3 HB3' HM3' ⊢
  have HC3 := Lib.hid hc3
  have HB3 := HB3'
  have HM3 := HM3'
  clear hW3 hc3 HB3' HM3' HB2 HC2 HM2 HC4' hk4 hk5 hlow hoo hor hom
  have hm3 := HC3.out
  obtain ⟨y0, y1, y2, y3, y4, y5, y6, y7, y8, y9⟩ := box_cells hm3
  clear hm3
  go_wp2_with fail
  clear y0 y1 y2 y3 y4 y5 y6 y7 y8 y9
  refine (form_any { m with b := m.b ++ [(⟨-1, 0, 0, 0, 0, 0⟩ : Psp.Req)] } (.slice A4 (m.b.length + 1) c4) (.slice Ao m.o.length co) (.slice Ac m.c.length cc) (.slice Ap m.p.length cp) (1 + f1) (1 + c1) W3 _ HM3.out ⟨Hwf.out.1, Hwf.out.2.1, Hwf.out.2.2.1, Hwf.out.2.2.2.1, Hwf.out.2.2.2.2.1, Hwf.out.2.2.2.2.2.1, fun r hr => (by rcases List.mem_append.1 hr with h | h; exact Hwf.out.2.2.2.2.2.2.1 r h; rw [List.mem_singleton.1 h]; exact ⟨⟨by decide, by decide⟩, ⟨by decide, by decide⟩, ⟨by decide, by decide⟩, ⟨by decide, by decide⟩, ⟨by decide, by decide⟩, ⟨by decide, by decide⟩⟩), Hwf.out.2.2.2.2.2.2.2⟩ (fun _ => ⟨by omega, by omega⟩)).mono ?_
  rw [show Psp.formM { m with b := m.b ++ [(⟨-1, 0, 0, 0, 0, 0⟩ : Psp.Req)] } (1 + f1) (1 + c1) = false from spoil_7 HRok.out]
  rintro e w4 ⟨rfl, hb⟩
  have HB4 := Lib.hid (Below.then HB3.out hb HB3.out.size)
  have HC4 := Lib.hid (box_below HC3.out hb (Nat.le_refl _))
  have HM4 := Lib.hid (HM3.out.keeps (Keeps.below hb))
  clear hb HB3 HC3 HM3
  obtain ⟨y0, y1, y2, y3, y4, y5, y6, y7, y8, y9⟩ := box_cells HC4.out
  go_wp2_with fail
  clear y0 y1 y2 y3 y4 y5 y6 y7 y8 y9
  refine (rform_any { m with b := m.b ++ [(⟨-1, 0, 0, 0, 0, 0⟩ : Psp.Req)] } (.slice A4 (m.b.length + 1) c4) (.slice Ao m.o.length co) (.slice Ac m.c.length cc) (.slice Ap m.p.length cp) (1 + f1) (1 + c1) w4 _ HM4.out ⟨Hwf.out.1, Hwf.out.2.1, Hwf.out.2.2.1, Hwf.out.2.2.2.1, Hwf.out.2.2.2.2.1, Hwf.out.2.2.2.2.2.1, fun r hr => (by rcases List.mem_append.1 hr with h | h; exact Hwf.out.2.2.2.2.2.2.1 r h; rw [List.mem_singleton.1 h]; exact ⟨⟨by decide, by decide⟩, ⟨by decide, by decide⟩, ⟨by decide, by decide⟩, ⟨by decide, by decide⟩, ⟨by decide, by decide⟩, ⟨by decide, by decide⟩⟩), Hwf.out.2.2.2.2.2.2.2⟩).mono ?_
  rw [show Psp.formM { m with b := m.b ++ [(⟨-1, 0, 0, 0, 0, 0⟩ : Psp.Req)] } (1 + f1) (1 + c1) = false from spoil_7 HRok.out]
  rintro e w5 ⟨rfl, hb⟩
  have HB5 := Lib.hid (Below.then HB4.out hb HB4.out.size)
  clear hb HB4 HC4 HM4
  go_wp2_with fail
  refine (wakes06 _).mono ?_
  rintro e wz ⟨rfl, hbz⟩
  have HBz := Lib.hid (Below.then HB5.out hbz HB5.out.size)
  clear hbz
  go_wp2_with fail
  go_ret
  exact ⟨rfl, HBz.out⟩

set_option maxRecDepth 100000 in
set_option maxHeartbeats 8000000 in
theorem walk_7 (k0 f0 c0 v0 i0 q0 o0 p0 z0 turn : Int) (w : World) (hk : isI64 k0) (hf : isI64 f0) (hc : isI64 c0) (hv : isI64 v0) (hi : isI64 i0) (hq : isI64 q0) (hp : isI64 p0) (hz : isI64 z0) (htu : isI64 turn) (ht : Psp.within turn 9 = 7) :
    Calls Try.prog 7 #[.int .i64 k0, .int .i64 f0, .int .i64 c0, .int .i64 v0, .int .i64 i0, .int .i64 q0, .agg #[.int .i64 o0, .int .i64 p0, .int .i64 z0], .int .i64 turn] w fun e w' => e = .returned (.bool true) ∧ Below w.heap.size w w' := by
  have f1a : 0 ≤ Psp.within f0 4 := Psp.within_lo _ _
  have f1b : Psp.within f0 4 < 4 := Psp.within_hi _ _ (by omega)
  have c1a : 0 ≤ Psp.within c0 4 := Psp.within_lo _ _
  have c1b : Psp.within c0 4 < 4 := Psp.within_hi _ _ (by omega)
  obtain ⟨q, hqd⟩ : ∃ q : Nat, (2 * (1 + Psp.within f0 4) + 1).toNat = q := ⟨_, rfl⟩
  have hqq : (q : Int) = 2 * (1 + Psp.within f0 4) + 1 := by omega
  have hR := fun W => right_any k0 f0 c0 v0 i0 q0 o0 p0 z0 W hk hf hc hv hi hq hp hz q hqq
  obtain ⟨hSm, _⟩ := right_is k0 f0 c0 v0 i0 q0 p0 z0 q hqq
  have hRok := right_rok k0 f0 c0 v0 i0 q0 p0 z0 q hqq
  have hAl := right_alone k0 f0 c0 v0 i0 q0 p0 z0 q
  skip
  obtain ⟨m, hm⟩ : ∃ m, rightA k0 f0 c0 v0 i0 q0 p0 z0 q = m := ⟨_, rfl⟩
  rw [hm] at hSm hRok hAl 
  have HR : Hid (∀ W : World, Calls Try.prog 27 #[.int .i64 k0, .int .i64 f0, .int .i64 c0, .int .i64 v0, .int .i64 i0, .int .i64 q0, .agg #[.int .i64 o0, .int .i64 p0, .int .i64 z0]] W (Gives m W)) := Lib.hid fun W => by rw [← hm]; exact hR W
  obtain ⟨f1, hf1⟩ : ∃ x, Psp.within f0 4 = x := ⟨_, rfl⟩
  obtain ⟨c1, hc1⟩ : ∃ x, Psp.within c0 4 = x := ⟨_, rfl⟩
  have HWi : Hid (∀ x n : Int, ((x = f0 ∨ x = c0) ∧ n = 4) ∨ (x = turn ∧ n = 9) → ∀ W : World, Calls Try.prog 17 #[.int .i64 x, .int .i64 n] W fun e w' => e = .returned (.int .i64 (Psp.within x n)) ∧ W = w') := Lib.hid fun x n hx W => by
    rcases hx with ⟨rfl | rfl, rfl⟩ | ⟨rfl, rfl⟩
    · exact within_any _ 4 W hf.1 hf.2 (by omega) (by omega)
    · exact within_any _ 4 W hc.1 hc.2 (by omega) (by omega)
    · exact within_any _ 9 W htu.1 htu.2 (by omega) (by omega)
  have HE := Lib.hid (And.intro hf1 (And.intro hc1 ht))
  rw [hf1, hc1] at hRok
  rw [hf1] at f1a f1b
  rw [hc1] at c1a c1b
  have HSm := Lib.hid hSm
  have HRok := Lib.hid hRok
  have HAl := Lib.hid hAl
  have Hwf := Lib.hid (wf_of_ok hSm.ok)
  skip
  clear hR hm hSm hRok hAl hqq hqd hk hf hc hv hi hq hp hz htu hf1 hc1 ht 
  go_enter Try.func7, Try.ntmps7
  go_wp2_with fail
  refine (HR.out _).mono ?_
  rintro e w1 ⟨Ab, Ao, Ac, Ap, cb, co, cc, cp, rfl, hmo, hb1, how⟩
  have hbw : Below w.heap.size w w1 := (alloc_below w _).trans (hb1.mono (by simp))
  have hz1 := hbw.size
  go_upto_region 2 with fail
  have hb2 := alloc_below w1 (.cells #[.int .i64 m.k, .int .i64 m.f, .int .i64 m.v, .int .i64 m.i, .int .i64 m.q, .int .i64 m.r, .slice Ab m.b.length cb, .slice Ao m.o.length co, .slice Ac m.c.length cc, .slice Ap m.p.length cp] 27)
  have hc2 := heap_alloc_new w1 (.cells #[.int .i64 m.k, .int .i64 m.f, .int .i64 m.v, .int .i64 m.i, .int .i64 m.q, .int .i64 m.r, .slice Ab m.b.length cb, .slice Ao m.o.length co, .slice Ac m.c.length cc, .slice Ap m.p.length cp] 27)
  have hs2 : (w1.alloc (.cells #[.int .i64 m.k, .int .i64 m.f, .int .i64 m.v, .int .i64 m.i, .int .i64 m.q, .int .i64 m.r, .slice Ab m.b.length cb, .slice Ao m.o.length co, .slice Ac m.c.length cc, .slice Ap m.p.length cp] 27)).heap.size = w1.heap.size + 1 := by simp
  obtain ⟨W2, hW2⟩ : ∃ W, w1.alloc (.cells #[.int .i64 m.k, .int .i64 m.f, .int .i64 m.v, .int .i64 m.i, .int .i64 m.q, .int .i64 m.r, .slice Ab m.b.length cb, .slice Ao m.o.length co, .slice Ac m.c.length cc, .slice Ap m.p.length cp] 27) = W := ⟨_, rfl⟩
  rw [hW2] at hb2 hc2 hs2 ⊢
  replace hs2 : w1.heap.size + 1 ≤ W2.heap.size := by omega
  have HB2 := Lib.hid (Below.then hbw hb2 hz1)
  have HC2 := Lib.hid hc2
  have HM2 := Lib.hid ((hmo.keeps (P' := fun b => b < w1.heap.size) (Keeps.mono fun b hb _ => hb)).keeps (Keeps.below hb2))
  have hz0 : w.heap.size ≤ (w.alloc (.cells #[.int .i64 o0, .int .i64 p0, .int .i64 z0] 47)).heap.size := by simp
  obtain ⟨N0, hN0⟩ : ∃ n, (w.alloc (.cells #[.int .i64 o0, .int .i64 p0, .int .i64 z0] 47)).heap.size = n := ⟨_, rfl⟩
  have HOw := Lib.hid (own_below how.o hb2)
  have HOl := Lib.hid how.o
  have Hzz := Lib.hid how.zo
  rw [hN0] at HOw HOl
  have hzN := hb1.size
  rw [hN0] at hz0 hzN
  clear hN0 hW2 hb2 hmo hb1 how hbw
  obtain ⟨hf1, hc1, ht⟩ := HE.out
  have x7 : W2.cell? ⟨w1.heap.size, 7, none⟩ = some (.slice Ao m.o.length co) := by rw [cell_of_row W2 _ 7 _ _ _ hc2]; rfl
  have hl := okL_len HSm.out.o.1
  have Hjl := Lib.hid (fun j hj => (HOl.out.lt j hj).2)
  go_upto_region 23 with (first | (go_at_call 17; refine (HWi.out _ _ (by first | exact Or.inl ⟨Or.inl rfl, rfl⟩ | exact Or.inl ⟨Or.inr rfl, rfl⟩ | exact Or.inr ⟨rfl, rfl⟩) _).mono ?_; rintro e w' ⟨rfl, rfl⟩) | (at_builtin; refine wpList_app1 votE rfl _ _ rfl N0 (.slice Ao m.o.length co) m.o.length _ rfl HOw.out _ rfl rfl (by simp [Value.oneCell']) (by omega) (by decide) (by omega) ?_; intro v' w4 hown4 hg4 _ hv4; have Hown4 := Lib.hid hown4; have Hg4 := Lib.hid hg4; have Hv4 := Lib.hid hv4; obtain ⟨A4, c4, rfl, _, _, _⟩ := own_slice hown4; have hc4 := (hg4.block w1.heap.size (by omega) (fun he => (by have := Hjl.out _ he.symm; omega))).trans HC2.out; have z7 : w4.cell? ⟨w1.heap.size, 7, none⟩ = some (.slice Ao m.o.length co) := (by rw [cell_of_row w4 _ 7 _ _ _ hc4]; rfl); have fz := frozen_of_row w4 _ 7 _ _ hc4; have HC4' := Lib.hid hc4; clear hown4 hg4 hv4 hc4))
  clear hf1 hc1 ht x7 z7 fz hc2
  have hk4 : Keeps (fun b => b < w1.heap.size) (fun b => b < w1.heap.size) w4 (w4.setCell ⟨w1.heap.size, 7, none⟩ (.slice A4 (m.o.length + 1) c4)) := ⟨by simp [World.setCell], fun b hb hlt => ⟨Below.heap_setCell w4 ⟨w1.heap.size, 7, none⟩ _ b (by show b ≠ w1.heap.size; omega), hb⟩⟩
  have hk5 : Keeps (fun b => b ≠ w1.heap.size) (fun b => b ≠ w1.heap.size) w4 (w4.setCell ⟨w1.heap.size, 7, none⟩ (.slice A4 (m.o.length + 1) c4)) := ⟨by simp [World.setCell], fun b hb hlt => ⟨Below.heap_setCell w4 ⟨w1.heap.size, 7, none⟩ _ b hb, hb⟩⟩
  have hlow : ∀ b, (Value.slice A4 (m.o.length + 1) c4).ownBlock = some b → b ≠ w1.heap.size := fun b hb => by
    rcases Hv4.out with hv | hv
    · rw [hv] at hb; have := Hjl.out _ hb; omega
    · rw [hv] at hb; injection hb with hb; omega
  have hoo : RdR (w4.setCell ⟨w1.heap.size, 7, none⟩ (.slice A4 (m.o.length + 1) c4)) (fun b => b ≠ w1.heap.size) (.slice Ab m.b.length cb) m.b ∧ RdC (w4.setCell ⟨w1.heap.size, 7, none⟩ (.slice A4 (m.o.length + 1) c4)) (fun b => b ≠ w1.heap.size) (.slice Ac m.c.length cc) m.c ∧ RdA (w4.setCell ⟨w1.heap.size, 7, none⟩ (.slice A4 (m.o.length + 1) c4)) (fun b => b ≠ w1.heap.size) (.slice Ap m.p.length cp) m.p := by
    by_cases hbn : m.o = []
    · have hkk : Keeps (fun b => b < w1.heap.size) (fun b => b < w1.heap.size) W2 w4 := grown_keeps Hg4.out (Hzz.out hbn)
      have hk6 : Keeps (fun b => b < w1.heap.size) (fun b => b ≠ w1.heap.size) (w4.setCell ⟨w1.heap.size, 7, none⟩ (.slice A4 (m.o.length + 1) c4)) (w4.setCell ⟨w1.heap.size, 7, none⟩ (.slice A4 (m.o.length + 1) c4)) := Keeps.mono fun b _ hb => (by show b ≠ w1.heap.size; omega)
      exact ⟨RdR.keeps' (RdR.keeps' (RdR.keeps' HM2.out.1 hkk) hk4) hk6, (((HM2.out.2.2.1).keeps hkk).keeps hk4).keeps hk6, (((HM2.out.2.2.2).keeps hkk).keeps hk4).keeps hk6⟩
    · obtain ⟨a1, a2, a3⟩ := HAl.out.o hbn
      exact ⟨nilR HM2.out.1 a1, nilC HM2.out.2.2.1 a2, nilA HM2.out.2.2.2 a3⟩
  have hom := RdP.of_own Hown4.out
  have hor : RdV (w4.setCell ⟨w1.heap.size, 7, none⟩ (.slice A4 (m.o.length + 1) c4)) (fun b => b ≠ w1.heap.size) (.slice A4 (m.o.length + 1) c4) (m.o ++ [(⟨99, 0⟩ : Psp.Vote)]) := by
    unfold RdV
    rw [List.length_append, List.flatMap_append]
    exact (hom.mono (P' := fun b => b ≠ w1.heap.size) fun b _ hb => hlow b hb.1).keeps hk5
  have hc3 : (w4.setCell ⟨w1.heap.size, 7, none⟩ (.slice A4 (m.o.length + 1) c4)).heap[w1.heap.size]? = some (.cells #[.int .i64 m.k, .int .i64 m.f, .int .i64 m.v, .int .i64 m.i, .int .i64 m.q, .int .i64 m.r, .slice Ab m.b.length cb, .slice A4 (m.o.length + 1) c4, .slice Ac m.c.length cc, .slice Ap m.p.length cp] 27 (0, 0)) := by
    rw [heap_setCell_same w4 w1.heap.size 7 _ _ _ HC4'.out]; rfl
  have HB3' := Lib.hid ((HB2.out.grown Hg4.out (by have := HB2.out.size; omega) (fun k hk => (by have := (HOl.out.lt k hk).1; omega))).setCell (p := ⟨w1.heap.size, 7, none⟩) (by show w.heap.size ≤ w1.heap.size; omega) (.slice A4 (m.o.length + 1) c4))
  have HM3' : Hid (MsgOk (w4.setCell ⟨w1.heap.size, 7, none⟩ (.slice A4 (m.o.length + 1) c4)) (fun b => b ≠ w1.heap.size) ⟨{ m with o := m.o ++ [(⟨99, 0⟩ : Psp.Vote)] }, .slice Ab m.b.length cb, .slice A4 (m.o.length + 1) c4, .slice Ac m.c.length cc, .slice Ap m.p.length cp⟩) := Lib.hid ⟨hoo.1, hor, hoo.2.1, hoo.2.2⟩
  obtain ⟨W3, hW3⟩ : ∃ W, w4.setCell ⟨w1.heap.size, 7, none⟩ (.slice A4 (m.o.length + 1) c4) = W := ⟨_, rfl⟩
  rw [hW3] at hc3 HB3' HM3' ⊢
  have HC3 := Lib.hid hc3
  have HB3 := HB3'
  have HM3 := HM3'
  clear hW3 hc3 HB3' HM3' HB2 HC2 HM2 HC4' hk4 hk5 hlow hoo hor hom
  have hm3 := HC3.out
  obtain ⟨y0, y1, y2, y3, y4, y5, y6, y7, y8, y9⟩ := box_cells hm3
  clear hm3
  go_wp2_with fail
  clear y0 y1 y2 y3 y4 y5 y6 y7 y8 y9
  refine (form_any { m with o := m.o ++ [(⟨99, 0⟩ : Psp.Vote)] } (.slice Ab m.b.length cb) (.slice A4 (m.o.length + 1) c4) (.slice Ac m.c.length cc) (.slice Ap m.p.length cp) (1 + f1) (1 + c1) W3 _ HM3.out ⟨Hwf.out.1, Hwf.out.2.1, Hwf.out.2.2.1, Hwf.out.2.2.2.1, Hwf.out.2.2.2.2.1, Hwf.out.2.2.2.2.2.1, Hwf.out.2.2.2.2.2.2.1, fun r hr => (by rcases List.mem_append.1 hr with h | h; exact Hwf.out.2.2.2.2.2.2.2.1 r h; rw [List.mem_singleton.1 h]; exact ⟨⟨by decide, by decide⟩, ⟨by decide, by decide⟩⟩), Hwf.out.2.2.2.2.2.2.2.2⟩ (fun _ => ⟨by omega, by omega⟩)).mono ?_
  rw [show Psp.formM { m with o := m.o ++ [(⟨99, 0⟩ : Psp.Vote)] } (1 + f1) (1 + c1) = false from spoil_8 HRok.out]
  rintro e w4 ⟨rfl, hb⟩
  have HB4 := Lib.hid (Below.then HB3.out hb HB3.out.size)
  have HC4 := Lib.hid (box_below HC3.out hb (Nat.le_refl _))
  have HM4 := Lib.hid (HM3.out.keeps (Keeps.below hb))
  clear hb HB3 HC3 HM3
  obtain ⟨y0, y1, y2, y3, y4, y5, y6, y7, y8, y9⟩ := box_cells HC4.out
  go_wp2_with fail
  clear y0 y1 y2 y3 y4 y5 y6 y7 y8 y9
  refine (rform_any { m with o := m.o ++ [(⟨99, 0⟩ : Psp.Vote)] } (.slice Ab m.b.length cb) (.slice A4 (m.o.length + 1) c4) (.slice Ac m.c.length cc) (.slice Ap m.p.length cp) (1 + f1) (1 + c1) w4 _ HM4.out ⟨Hwf.out.1, Hwf.out.2.1, Hwf.out.2.2.1, Hwf.out.2.2.2.1, Hwf.out.2.2.2.2.1, Hwf.out.2.2.2.2.2.1, Hwf.out.2.2.2.2.2.2.1, fun r hr => (by rcases List.mem_append.1 hr with h | h; exact Hwf.out.2.2.2.2.2.2.2.1 r h; rw [List.mem_singleton.1 h]; exact ⟨⟨by decide, by decide⟩, ⟨by decide, by decide⟩⟩), Hwf.out.2.2.2.2.2.2.2.2⟩).mono ?_
  rw [show Psp.formM { m with o := m.o ++ [(⟨99, 0⟩ : Psp.Vote)] } (1 + f1) (1 + c1) = false from spoil_8 HRok.out]
  rintro e w5 ⟨rfl, hb⟩
  have HB5 := Lib.hid (Below.then HB4.out hb HB4.out.size)
  clear hb HB4 HC4 HM4
  go_wp2_with fail
  refine (wakes06 _).mono ?_
  rintro e wz ⟨rfl, hbz⟩
  have HBz := Lib.hid (Below.then HB5.out hbz HB5.out.size)
  clear hbz
  go_wp2_with fail
  go_ret
  exact ⟨rfl, HBz.out⟩

set_option maxRecDepth 100000 in
set_option maxHeartbeats 8000000 in
theorem walk_8 (k0 f0 c0 v0 i0 q0 o0 p0 z0 turn : Int) (w : World) (hk : isI64 k0) (hf : isI64 f0) (hc : isI64 c0) (hv : isI64 v0) (hi : isI64 i0) (hq : isI64 q0) (hp : isI64 p0) (hz : isI64 z0) (htu : isI64 turn) (ht : Psp.within turn 9 = 8) :
    Calls Try.prog 7 #[.int .i64 k0, .int .i64 f0, .int .i64 c0, .int .i64 v0, .int .i64 i0, .int .i64 q0, .agg #[.int .i64 o0, .int .i64 p0, .int .i64 z0], .int .i64 turn] w fun e w' => e = .returned (.bool true) ∧ Below w.heap.size w w' := by
  have f1a : 0 ≤ Psp.within f0 4 := Psp.within_lo _ _
  have f1b : Psp.within f0 4 < 4 := Psp.within_hi _ _ (by omega)
  have c1a : 0 ≤ Psp.within c0 4 := Psp.within_lo _ _
  have c1b : Psp.within c0 4 < 4 := Psp.within_hi _ _ (by omega)
  obtain ⟨q, hqd⟩ : ∃ q : Nat, (2 * (1 + Psp.within f0 4) + 1).toNat = q := ⟨_, rfl⟩
  have hqq : (q : Int) = 2 * (1 + Psp.within f0 4) + 1 := by omega
  have hR := fun W => right_any k0 f0 c0 v0 i0 q0 o0 p0 z0 W hk hf hc hv hi hq hp hz q hqq
  obtain ⟨hSm, _⟩ := right_is k0 f0 c0 v0 i0 q0 p0 z0 q hqq
  have hRok := right_rok k0 f0 c0 v0 i0 q0 p0 z0 q hqq
  have hAl := right_alone k0 f0 c0 v0 i0 q0 p0 z0 q
  skip
  obtain ⟨m, hm⟩ : ∃ m, rightA k0 f0 c0 v0 i0 q0 p0 z0 q = m := ⟨_, rfl⟩
  rw [hm] at hSm hRok hAl 
  have HR : Hid (∀ W : World, Calls Try.prog 27 #[.int .i64 k0, .int .i64 f0, .int .i64 c0, .int .i64 v0, .int .i64 i0, .int .i64 q0, .agg #[.int .i64 o0, .int .i64 p0, .int .i64 z0]] W (Gives m W)) := Lib.hid fun W => by rw [← hm]; exact hR W
  obtain ⟨f1, hf1⟩ : ∃ x, Psp.within f0 4 = x := ⟨_, rfl⟩
  obtain ⟨c1, hc1⟩ : ∃ x, Psp.within c0 4 = x := ⟨_, rfl⟩
  have HWi : Hid (∀ x n : Int, ((x = f0 ∨ x = c0) ∧ n = 4) ∨ (x = turn ∧ n = 9) → ∀ W : World, Calls Try.prog 17 #[.int .i64 x, .int .i64 n] W fun e w' => e = .returned (.int .i64 (Psp.within x n)) ∧ W = w') := Lib.hid fun x n hx W => by
    rcases hx with ⟨rfl | rfl, rfl⟩ | ⟨rfl, rfl⟩
    · exact within_any _ 4 W hf.1 hf.2 (by omega) (by omega)
    · exact within_any _ 4 W hc.1 hc.2 (by omega) (by omega)
    · exact within_any _ 9 W htu.1 htu.2 (by omega) (by omega)
  have HE := Lib.hid (And.intro hf1 (And.intro hc1 ht))
  rw [hf1, hc1] at hRok
  rw [hf1] at f1a f1b
  rw [hc1] at c1a c1b
  have HSm := Lib.hid hSm
  have HRok := Lib.hid hRok
  have HAl := Lib.hid hAl
  have Hwf := Lib.hid (wf_of_ok hSm.ok)
  skip
  clear hR hm hSm hRok hAl hqq hqd hk hf hc hv hi hq hp hz htu hf1 hc1 ht 
  go_enter Try.func7, Try.ntmps7
  go_wp2_with fail
  refine (HR.out _).mono ?_
  rintro e w1 ⟨Ab, Ao, Ac, Ap, cb, co, cc, cp, rfl, hmo, hb1, how⟩
  have hbw : Below w.heap.size w w1 := (alloc_below w _).trans (hb1.mono (by simp))
  have hz1 := hbw.size
  go_upto_region 2 with fail
  have hb2 := alloc_below w1 (.cells #[.int .i64 m.k, .int .i64 m.f, .int .i64 m.v, .int .i64 m.i, .int .i64 m.q, .int .i64 m.r, .slice Ab m.b.length cb, .slice Ao m.o.length co, .slice Ac m.c.length cc, .slice Ap m.p.length cp] 27)
  have hc2 := heap_alloc_new w1 (.cells #[.int .i64 m.k, .int .i64 m.f, .int .i64 m.v, .int .i64 m.i, .int .i64 m.q, .int .i64 m.r, .slice Ab m.b.length cb, .slice Ao m.o.length co, .slice Ac m.c.length cc, .slice Ap m.p.length cp] 27)
  have hs2 : (w1.alloc (.cells #[.int .i64 m.k, .int .i64 m.f, .int .i64 m.v, .int .i64 m.i, .int .i64 m.q, .int .i64 m.r, .slice Ab m.b.length cb, .slice Ao m.o.length co, .slice Ac m.c.length cc, .slice Ap m.p.length cp] 27)).heap.size = w1.heap.size + 1 := by simp
  obtain ⟨W2, hW2⟩ : ∃ W, w1.alloc (.cells #[.int .i64 m.k, .int .i64 m.f, .int .i64 m.v, .int .i64 m.i, .int .i64 m.q, .int .i64 m.r, .slice Ab m.b.length cb, .slice Ao m.o.length co, .slice Ac m.c.length cc, .slice Ap m.p.length cp] 27) = W := ⟨_, rfl⟩
  rw [hW2] at hb2 hc2 hs2 ⊢
  replace hs2 : w1.heap.size + 1 ≤ W2.heap.size := by omega
  have HB2 := Lib.hid (Below.then hbw hb2 hz1)
  have HC2 := Lib.hid hc2
  have HM2 := Lib.hid ((hmo.keeps (P' := fun b => b < w1.heap.size) (Keeps.mono fun b hb _ => hb)).keeps (Keeps.below hb2))
  have hz0 : w.heap.size ≤ (w.alloc (.cells #[.int .i64 o0, .int .i64 p0, .int .i64 z0] 47)).heap.size := by simp
  obtain ⟨N0, hN0⟩ : ∃ n, (w.alloc (.cells #[.int .i64 o0, .int .i64 p0, .int .i64 z0] 47)).heap.size = n := ⟨_, rfl⟩
  obtain ⟨xs, hxs, hxo, hxi⟩ := how.p
  have HOw := Lib.hid (own_below hxo hb2)
  have HOl := Lib.hid hxo
  have Hxs := Lib.hid hxs
  have Hxi := Lib.hid (fun y hy => (hxi y hy).keeps (w' := W2) (P' := fun k => (N0 ≤ k ∧ (Value.slice Ap m.p.length cp).ownBlock ≠ some k) ∧ k < w1.heap.size) ⟨hb2.size, fun b hb hlt => ⟨hb2.block b hlt, by rw [← hN0]; exact hb, hlt⟩⟩)
  have Hzz := Lib.hid how.zp
  rw [hN0] at HOw HOl
  have hzN := hb1.size
  rw [hN0] at hz0 hzN
  clear hN0 hW2 hb2 hmo hb1 how hbw
  obtain ⟨hf1, hc1, ht⟩ := HE.out
  have x9 : W2.cell? ⟨w1.heap.size, 9, none⟩ = some (.slice Ap m.p.length cp) := by rw [cell_of_row W2 _ 9 _ _ _ hc2]; rfl
  have hl := okL_len HSm.out.p.1
  have Hjl := Lib.hid (fun j hj => (HOl.out.lt j hj).2)
  go_upto_region 23 with (first | (go_at_call 17; refine (HWi.out _ _ (by first | exact Or.inl ⟨Or.inl rfl, rfl⟩ | exact Or.inl ⟨Or.inr rfl, rfl⟩ | exact Or.inr ⟨rfl, rfl⟩) _).mono ?_; rintro e w' ⟨rfl, rfl⟩) | (at_builtin; refine wpList_app1 partE rfl _ _ rfl N0 (.slice Ap m.p.length cp) m.p.length _ rfl HOw.out _ rfl rfl (by simp [Value.oneCell']) (by omega) (by decide) (by omega) ?_; intro v' w4 hown4 hg4 _ hv4; have Hown4 := Lib.hid hown4; have Hg4 := Lib.hid hg4; have Hv4 := Lib.hid hv4; obtain ⟨A4, c4, rfl, _, _, _⟩ := own_slice hown4; have hc4 := (hg4.block w1.heap.size (by omega) (fun he => (by have := Hjl.out _ he.symm; omega))).trans HC2.out; have z9 : w4.cell? ⟨w1.heap.size, 9, none⟩ = some (.slice Ap m.p.length cp) := (by rw [cell_of_row w4 _ 9 _ _ _ hc4]; rfl); have fz := frozen_of_row w4 _ 9 _ _ hc4; have HC4' := Lib.hid hc4; clear hown4 hg4 hv4 hc4))
  clear hf1 hc1 ht x9 z9 fz hc2
  have hk4 : Keeps (fun b => b < w1.heap.size) (fun b => b < w1.heap.size) w4 (w4.setCell ⟨w1.heap.size, 9, none⟩ (.slice A4 (m.p.length + 1) c4)) := ⟨by simp [World.setCell], fun b hb hlt => ⟨Below.heap_setCell w4 ⟨w1.heap.size, 9, none⟩ _ b (by show b ≠ w1.heap.size; omega), hb⟩⟩
  have hk5 : Keeps (fun b => b ≠ w1.heap.size) (fun b => b ≠ w1.heap.size) w4 (w4.setCell ⟨w1.heap.size, 9, none⟩ (.slice A4 (m.p.length + 1) c4)) := ⟨by simp [World.setCell], fun b hb hlt => ⟨Below.heap_setCell w4 ⟨w1.heap.size, 9, none⟩ _ b hb, hb⟩⟩
  have hlow : ∀ b, (Value.slice A4 (m.p.length + 1) c4).ownBlock = some b → b ≠ w1.heap.size := fun b hb => by
    rcases Hv4.out with hv | hv
    · rw [hv] at hb; have := Hjl.out _ hb; omega
    · rw [hv] at hb; injection hb with hb; omega
  have hoo : RdR (w4.setCell ⟨w1.heap.size, 9, none⟩ (.slice A4 (m.p.length + 1) c4)) (fun b => b ≠ w1.heap.size) (.slice Ab m.b.length cb) m.b ∧ RdV (w4.setCell ⟨w1.heap.size, 9, none⟩ (.slice A4 (m.p.length + 1) c4)) (fun b => b ≠ w1.heap.size) (.slice Ao m.o.length co) m.o ∧ RdC (w4.setCell ⟨w1.heap.size, 9, none⟩ (.slice A4 (m.p.length + 1) c4)) (fun b => b ≠ w1.heap.size) (.slice Ac m.c.length cc) m.c := by
    by_cases hbn : m.p = []
    · have hkk : Keeps (fun b => b < w1.heap.size) (fun b => b < w1.heap.size) W2 w4 := grown_keeps Hg4.out (Hzz.out hbn)
      have hk6 : Keeps (fun b => b < w1.heap.size) (fun b => b ≠ w1.heap.size) (w4.setCell ⟨w1.heap.size, 9, none⟩ (.slice A4 (m.p.length + 1) c4)) (w4.setCell ⟨w1.heap.size, 9, none⟩ (.slice A4 (m.p.length + 1) c4)) := Keeps.mono fun b _ hb => (by show b ≠ w1.heap.size; omega)
      exact ⟨RdR.keeps' (RdR.keeps' (RdR.keeps' HM2.out.1 hkk) hk4) hk6, RdV.keeps' (RdV.keeps' (RdV.keeps' HM2.out.2.1 hkk) hk4) hk6, (((HM2.out.2.2.1).keeps hkk).keeps hk4).keeps hk6⟩
    · obtain ⟨a1, a2, a3⟩ := HAl.out.p hbn
      exact ⟨nilR HM2.out.1 a1, nilV HM2.out.2.1 a2, nilC HM2.out.2.2.1 a3⟩
  have hom := RdP.of_own Hown4.out
  have hor : RdA (w4.setCell ⟨w1.heap.size, 9, none⟩ (.slice A4 (m.p.length + 1) c4)) (fun b => b ≠ w1.heap.size) (.slice A4 (m.p.length + 1) c4) (m.p ++ [(⟨99, [], [], 0⟩ : Psp.Part)]) := by
    have hxl : xs.length = m.p.length := by rw [← Hxs.out, List.length_map]
    refine ⟨xs ++ [(⟨(⟨99, [], [], 0⟩ : Psp.Part), .slice none 0 0, .slice none 0 0⟩ : PartV)], by rw [List.map_append, Hxs.out]; rfl, ?_, fun y hy => ?_⟩
    · rw [List.length_append, List.flatMap_append, hxl]
      exact (hom.mono (P' := fun b => b ≠ w1.heap.size) fun b _ hb => hlow b hb.1).keeps hk5
    · rcases List.mem_append.1 hy with h | h
      · refine (((Hxi.out y h).keeps (w' := w4) (P' := fun b => b < w1.heap.size) ⟨Hg4.out.size, fun b hb hlt => ⟨Hg4.out.block b (by omega) (fun he => hb.1.2 he.symm), hb.2⟩⟩).keeps hk4).keeps (Keeps.mono fun b _ hb => (by show b ≠ w1.heap.size; omega))
      · rw [List.mem_singleton.1 h]; exact ⟨RdP.none_, RdC.nil⟩
  have hc3 : (w4.setCell ⟨w1.heap.size, 9, none⟩ (.slice A4 (m.p.length + 1) c4)).heap[w1.heap.size]? = some (.cells #[.int .i64 m.k, .int .i64 m.f, .int .i64 m.v, .int .i64 m.i, .int .i64 m.q, .int .i64 m.r, .slice Ab m.b.length cb, .slice Ao m.o.length co, .slice Ac m.c.length cc, .slice A4 (m.p.length + 1) c4] 27 (0, 0)) := by
    rw [heap_setCell_same w4 w1.heap.size 9 _ _ _ HC4'.out]; rfl
  have HB3' := Lib.hid ((HB2.out.grown Hg4.out (by have := HB2.out.size; omega) (fun k hk => (by have := (HOl.out.lt k hk).1; omega))).setCell (p := ⟨w1.heap.size, 9, none⟩) (by show w.heap.size ≤ w1.heap.size; omega) (.slice A4 (m.p.length + 1) c4))
  have HM3' : Hid (MsgOk (w4.setCell ⟨w1.heap.size, 9, none⟩ (.slice A4 (m.p.length + 1) c4)) (fun b => b ≠ w1.heap.size) ⟨{ m with p := m.p ++ [(⟨99, [], [], 0⟩ : Psp.Part)] }, .slice Ab m.b.length cb, .slice Ao m.o.length co, .slice Ac m.c.length cc, .slice A4 (m.p.length + 1) c4⟩) := Lib.hid ⟨hoo.1, hoo.2.1, hoo.2.2, hor⟩
  obtain ⟨W3, hW3⟩ : ∃ W, w4.setCell ⟨w1.heap.size, 9, none⟩ (.slice A4 (m.p.length + 1) c4) = W := ⟨_, rfl⟩
  rw [hW3] at hc3 HB3' HM3' ⊢
  have HC3 := Lib.hid hc3
  have HB3 := HB3'
  have HM3 := HM3'
  clear hW3 hc3 HB3' HM3' HB2 HC2 HM2 HC4' hk4 hk5 hlow hoo hor hom
  have hm3 := HC3.out
  obtain ⟨y0, y1, y2, y3, y4, y5, y6, y7, y8, y9⟩ := box_cells hm3
  clear hm3
  go_wp2_with fail
  clear y0 y1 y2 y3 y4 y5 y6 y7 y8 y9
  refine (form_any { m with p := m.p ++ [(⟨99, [], [], 0⟩ : Psp.Part)] } (.slice Ab m.b.length cb) (.slice Ao m.o.length co) (.slice Ac m.c.length cc) (.slice A4 (m.p.length + 1) c4) (1 + f1) (1 + c1) W3 _ HM3.out ⟨Hwf.out.1, Hwf.out.2.1, Hwf.out.2.2.1, Hwf.out.2.2.2.1, Hwf.out.2.2.2.2.1, Hwf.out.2.2.2.2.2.1, Hwf.out.2.2.2.2.2.2.1, Hwf.out.2.2.2.2.2.2.2.1, Hwf.out.2.2.2.2.2.2.2.2.1, fun r hr => (by rcases List.mem_append.1 hr with h | h; exact Hwf.out.2.2.2.2.2.2.2.2.2 r h; rw [List.mem_singleton.1 h]; exact ⟨⟨by decide, by decide⟩, (fun _ h => by cases h), (fun _ h => by cases h), ⟨by decide, by decide⟩⟩)⟩ (fun _ => ⟨by omega, by omega⟩)).mono ?_
  rw [show Psp.formM { m with p := m.p ++ [(⟨99, [], [], 0⟩ : Psp.Part)] } (1 + f1) (1 + c1) = false from spoil_9 HRok.out]
  rintro e w4 ⟨rfl, hb⟩
  have HB4 := Lib.hid (Below.then HB3.out hb HB3.out.size)
  have HC4 := Lib.hid (box_below HC3.out hb (Nat.le_refl _))
  have HM4 := Lib.hid (HM3.out.keeps (Keeps.below hb))
  clear hb HB3 HC3 HM3
  obtain ⟨y0, y1, y2, y3, y4, y5, y6, y7, y8, y9⟩ := box_cells HC4.out
  go_wp2_with fail
  clear y0 y1 y2 y3 y4 y5 y6 y7 y8 y9
  refine (rform_any { m with p := m.p ++ [(⟨99, [], [], 0⟩ : Psp.Part)] } (.slice Ab m.b.length cb) (.slice Ao m.o.length co) (.slice Ac m.c.length cc) (.slice A4 (m.p.length + 1) c4) (1 + f1) (1 + c1) w4 _ HM4.out ⟨Hwf.out.1, Hwf.out.2.1, Hwf.out.2.2.1, Hwf.out.2.2.2.1, Hwf.out.2.2.2.2.1, Hwf.out.2.2.2.2.2.1, Hwf.out.2.2.2.2.2.2.1, Hwf.out.2.2.2.2.2.2.2.1, Hwf.out.2.2.2.2.2.2.2.2.1, fun r hr => (by rcases List.mem_append.1 hr with h | h; exact Hwf.out.2.2.2.2.2.2.2.2.2 r h; rw [List.mem_singleton.1 h]; exact ⟨⟨by decide, by decide⟩, (fun _ h => by cases h), (fun _ h => by cases h), ⟨by decide, by decide⟩⟩)⟩).mono ?_
  rw [show Psp.formM { m with p := m.p ++ [(⟨99, [], [], 0⟩ : Psp.Part)] } (1 + f1) (1 + c1) = false from spoil_9 HRok.out]
  rintro e w5 ⟨rfl, hb⟩
  have HB5 := Lib.hid (Below.then HB4.out hb HB4.out.size)
  clear hb HB4 HC4 HM4
  go_wp2_with fail
  refine (wakes06 _).mono ?_
  rintro e wz ⟨rfl, hbz⟩
  have HBz := Lib.hid (Below.then HB5.out hbz HB5.out.size)
  clear hbz
  go_wp2_with fail
  go_ret
  exact ⟨rfl, HBz.out⟩

theorem walk (k0 f0 c0 v0 i0 q0 : Int) (op : Int × Int × Int) (turn : Int) (w : World) (hk : isI64 k0) (hf : isI64 f0) (hc : isI64 c0) (hv : isI64 v0) (hi : isI64 i0) (hq : isI64 q0) (ho : isI64 op.1 ∧ isI64 op.2.1 ∧ isI64 op.2.2) (htu : isI64 turn) :
    Calls Try.prog 7 #[.int .i64 k0, .int .i64 f0, .int .i64 c0, .int .i64 v0, .int .i64 i0, .int .i64 q0, .agg ([iv op.1, iv op.2.1, iv op.2.2] : List Value).toArray, .int .i64 turn] w fun e w' => e = .returned (.bool true) ∧ Below w.heap.size w w' := by
  obtain ⟨o0, p0, z0⟩ := op
  simp only [iv]
  simp only at ho
  have a0 : 0 ≤ Psp.within turn 9 := Psp.within_lo _ _
  have a1 : Psp.within turn 9 < 9 := Psp.within_hi _ _ (by omega)
  have ts : Psp.within turn 9 = 0 ∨ Psp.within turn 9 = 1 ∨ Psp.within turn 9 = 2 ∨ Psp.within turn 9 = 3 ∨ Psp.within turn 9 = 4 ∨ Psp.within turn 9 = 5 ∨ Psp.within turn 9 = 6 ∨ Psp.within turn 9 = 7 ∨ Psp.within turn 9 = 8 := by omega
  rcases ts with h | h | h | h | h | h | h | h | h
  · exact walk_0 k0 f0 c0 v0 i0 q0 o0 p0 z0 turn w hk hf hc hv hi hq ho.2.1 ho.2.2 htu h
  · exact walk_1 k0 f0 c0 v0 i0 q0 o0 p0 z0 turn w hk hf hc hv hi hq ho.2.1 ho.2.2 htu h
  · exact walk_2 k0 f0 c0 v0 i0 q0 o0 p0 z0 turn w hk hf hc hv hi hq ho.2.1 ho.2.2 htu h
  · exact walk_3 k0 f0 c0 v0 i0 q0 o0 p0 z0 turn w hk hf hc hv hi hq ho.2.1 ho.2.2 htu h
  · exact walk_4 k0 f0 c0 v0 i0 q0 o0 p0 z0 turn w hk hf hc hv hi hq ho.2.1 ho.2.2 htu h
  · by_cases h10 : (rightA k0 f0 c0 v0 i0 q0 p0 z0 ((2 * (1 + Psp.within f0 4) + 1).toNat)).k = 10
    · exact walk_5 k0 f0 c0 v0 i0 q0 o0 p0 z0 turn w hk hf hc hv hi hq ho.2.1 ho.2.2 htu h h10
    · exact walk_55 k0 f0 c0 v0 i0 q0 o0 p0 z0 turn w hk hf hc hv hi hq ho.2.1 ho.2.2 htu h h10
  · exact walk_6 k0 f0 c0 v0 i0 q0 o0 p0 z0 turn w hk hf hc hv hi hq ho.2.1 ho.2.2 htu h
  · exact walk_7 k0 f0 c0 v0 i0 q0 o0 p0 z0 turn w hk hf hc hv hi hq ho.2.1 ho.2.2 htu h
  · exact walk_8 k0 f0 c0 v0 i0 q0 o0 p0 z0 turn w hk hf hc hv hi hq ho.2.1 ho.2.2 htu h
end Go.Proofs.Ytljfoajhobambaa.msgsSpoilt
