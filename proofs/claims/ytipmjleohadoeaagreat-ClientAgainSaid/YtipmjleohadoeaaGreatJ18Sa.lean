/- Package msgs: Form, kind by kind. Printed by gen_fg.py. Package msgs: Form, kind by kind. Printed by gen_fg.py. -/
import Derived.Test.YtipmjleohadoeaaGreatFp2Sa
import Derived.Deep.QuietTactic
import Derived.Deep.RegionHeld3
section
namespace Go.Proofs.YtipmjleohadoeaaGreat
open Go.RowKit
set_option linter.unusedVariables false
set_option linter.unusedSimpArgs false

/-- The numbers of a message are int64s. -/
def wfMsg (m : Psp.Msg) : Prop := isI64 m.k ∧ isI64 m.f ∧ isI64 m.v ∧ isI64 m.i ∧ isI64 m.q ∧ isI64 m.r ∧ (∀ r ∈ m.b, wfReq r) ∧ (∀ v ∈ m.o, wfVote v) ∧ (∀ c ∈ m.c, wfCert c) ∧ ∀ p ∈ m.p, wfPart p
/-- The message's box, the looks. -/
structure Fb (w0 W : World) (m : Psp.Msg) (vb vo vc vp : Value) (f cl : Int) : Prop where
  box : W.heap[w0.heap.size]? = some (.cells #[.int .i64 m.k, .int .i64 m.f, .int .i64 m.v, .int .i64 m.i, .int .i64 m.q, .int .i64 m.r, vb, vo, vc, vp] 56 (0, 0))
  lk : W.rangeAt (w0.heap.size + 1) 0 [.int .i64 f, .int .i64 cl]
  sz : w0.heap.size + 1 < W.heap.size
  be : Below w0.heap.size w0 W
theorem Fb.below {w0 W W' : World} {m : Psp.Msg} {vb vo vc vp : Value} {f cl : Int} (h : Fb w0 W m vb vo vc vp f cl) (hb : Below W.heap.size W W') : Fb w0 W' m vb vo vc vp f cl := by
  have := h.sz
  exact ⟨(hb.block _ (by omega)).trans h.box, range_keep h.lk (hb.block _ h.sz), Nat.lt_of_lt_of_le h.sz hb.size, h.be.trans (hb.mono (by omega))⟩
theorem Fb.cell {w0 W : World} {m : Psp.Msg} {vb vo vc vp : Value} {f cl : Int} (h : Fb w0 W m vb vo vc vp f cl) {j : Nat} {u : Value} (hj : (#[.int .i64 m.k, .int .i64 m.f, .int .i64 m.v, .int .i64 m.i, .int .i64 m.q, .int .i64 m.r, vb, vo, vc, vp] : Array Value)[j]? = some u) : W.cell? ⟨w0.heap.size, j, none⟩ = some u := by
  rw [cell_of_row _ _ j _ _ _ h.box]; exact hj
theorem keepF {w0 W W' : World} {m : Psp.Msg} {vb vo vc vp : Value} {f cl : Int} (h : Hid (Fb w0 W m vb vo vc vp f cl)) (hb : Below W.heap.size W W') : Hid (Fb w0 W' m vb vo vc vp f cl) ∧ W'.cell? ⟨w0.heap.size, 0, none⟩ = some (.int .i64 m.k) ∧ W'.cell? ⟨w0.heap.size, 1, none⟩ = some (.int .i64 m.f) ∧ W'.cell? ⟨w0.heap.size, 2, none⟩ = some (.int .i64 m.v) ∧ W'.cell? ⟨w0.heap.size, 3, none⟩ = some (.int .i64 m.i) ∧ W'.cell? ⟨w0.heap.size, 4, none⟩ = some (.int .i64 m.q) ∧ W'.cell? ⟨w0.heap.size, 5, none⟩ = some (.int .i64 m.r) ∧ W'.cell? ⟨w0.heap.size, 6, none⟩ = some (vb) ∧ W'.cell? ⟨w0.heap.size, 7, none⟩ = some (vo) ∧ W'.cell? ⟨w0.heap.size, 8, none⟩ = some (vc) ∧ W'.cell? ⟨w0.heap.size, 9, none⟩ = some (vp) ∧ W'.cell? ⟨w0.heap.size + 1, 0, none⟩ = some (.int .i64 f) ∧ W'.cell? ⟨w0.heap.size + 1, 1, none⟩ = some (.int .i64 cl) := by
  have h2 := h.out.below hb
  refine ⟨Lib.hid h2, h2.cell (j := 0) rfl, h2.cell (j := 1) rfl, h2.cell (j := 2) rfl, h2.cell (j := 3) rfl, h2.cell (j := 4) rfl, h2.cell (j := 5) rfl, h2.cell (j := 6) rfl, h2.cell (j := 7) rfl, h2.cell (j := 8) rfl, h2.cell (j := 9) rfl, ?_, ?_⟩
  · have := h2.lk 0 _ rfl; simpa using this
  · have := h2.lk 1 _ rfl; simpa using this
theorem fb_start (w : World) (m : Psp.Msg) (vb vo vc vp : Value) (f cl : Int) : Hid (Fb w ((w.alloc (.cells #[.int .i64 m.k, .int .i64 m.f, .int .i64 m.v, .int .i64 m.i, .int .i64 m.q, .int .i64 m.r, vb, vo, vc, vp] 56)).alloc (.cells #[.int .i64 f, .int .i64 cl] 153)) m vb vo vc vp f cl) := by
  refine Lib.hid ⟨?_, ?_, by simp, (alloc_below w _).trans ((alloc_below _ _).mono (by simp))⟩
  · rw [(alloc_below _ _).block _ (by simp)]; exact heap_alloc_new w _
  · have := range_new (w.alloc (.cells #[.int .i64 m.k, .int .i64 m.f, .int .i64 m.v, .int .i64 m.i, .int .i64 m.q, .int .i64 m.r, vb, vo, vc, vp] 56)) #[.int .i64 f, .int .i64 cl] 153
    simpa using this
/-- The slices of a message, as the walk wants them. -/
theorem msg_slices {w : World} {P : Nat → Prop} {m : Psp.Msg} {vb vo vc vp : Value} (h : MsgOk w P ⟨m, vb, vo, vc, vp⟩) : ∃ Ab Ao Ac Ap cb co cc cp, vb = .slice Ab m.b.length cb ∧ vo = .slice Ao m.o.length co ∧ vc = .slice Ac m.c.length cc ∧ vp = .slice Ap m.p.length cp := by
  obtain ⟨h1, h2, h3, h4⟩ := h
  obtain ⟨_, Ab, cb, e1, _⟩ := RdP.parts (show RdP _ _ 6 vb m.b.length (m.b.flatMap rq) from h1)
  obtain ⟨_, Ao, co, e2, _⟩ := RdP.parts (show RdP _ _ 2 vo m.o.length (m.o.flatMap vt) from h2)
  obtain ⟨Lc, hc1, hc2, _⟩ := h3
  obtain ⟨_, Ac, cc, e3, _⟩ := hc2.parts
  obtain ⟨Lp, hp1, hp2, _⟩ := h4
  obtain ⟨_, Ap, cp, e4, _⟩ := hp2.parts
  dsimp only at hc1 hp1
  refine ⟨Ab, Ao, Ac, Ap, cb, co, cc, cp, e1, e2, ?_, ?_⟩
  · rw [← hc1, List.length_map]; exact e3
  · rw [← hp1, List.length_map]; exact e4

end Go.Proofs.YtipmjleohadoeaaGreat
end
section
namespace Go.Proofs.YtipmjleohadoeaaGreat
open Go.RowKit
set_option linter.unusedVariables false
set_option linter.unusedSimpArgs false

theorem Fb.range {w0 W : World} {m : Psp.Msg} {vb vo vc vp : Value} {f cl : Int} (h : Fb w0 W m vb vo vc vp f cl) : W.rangeAt w0.heap.size 0 [.int .i64 m.k, .int .i64 m.f, .int .i64 m.v, .int .i64 m.i, .int .i64 m.q, .int .i64 m.r, vb, vo, vc, vp] := fun j v hv => by
  rw [Nat.zero_add, cell_of_row _ _ j _ _ _ h.box]; simpa using hv

end Go.Proofs.YtipmjleohadoeaaGreat
end
