/- A view change as a message: what is asked of it, its form for every f. -/
import Derived.Test.YtadpkjgjciodnaaGreatVtdVi
import Derived.Test.YtadpkjgjciodnaaGreatFhVi
import Derived.Test.YtadpkjgjciodnaaGreatGbVi
import Derived.Laws.Strings
import Derived.Test.YtadpkjgjciodnaaGreatFp2Vi
import Derived.Test.YtadpkjgjciodnaaGreatFp3Vi
import Derived.Test.YtadpkjgjciodnaaGreatFp4Vi
import Derived.Test.YtadpkjgjciodnaaGreatJ21Vi
import Derived.Test.YtadpkjgjciodnaaGreatJ14Vi
namespace Go.Proofs.YtadpkjgjciodnaaGreat
open Go.RowKit
set_option linter.unusedVariables false
set_option linter.unusedSimpArgs false

theorem take_at {α : Type} {l : List α} {k : Nat} {x : α} (h : l[k]? = some x) : l.take (k + 1) = l.take k ++ [x] := by
  obtain ⟨hk, rfl⟩ := List.getElem?_eq_some_iff.1 h
  exact List.take_succ_eq_append_getElem hk
/-- A view change. -/
def vcM (view : Int) (p : Psp.Part) : Psp.Msg := ⟨7, p.f, view, 0, 0, 0, [], p.o, p.c, []⟩
/-- Is it a node's view change for a view? -/
def viewedB (K : List Key) (view : Int) (p : Psp.Part) (f cl : Int) : Bool := Psp.formM (vcM view p) f cl && (sealedB K (vcM view p) p.s && (changedB K (view - 1) p.o f && p.c.all fun c => certifiedB K 4 c f cl))
theorem vc_form (view : Int) (p : Psp.Part) (f cl : Int) : Psp.formM (vcM view p) f cl = (Psp.may f && (Psp.nodeB p.f f && (Psp.noB [0, 0, 0] && (Psp.bareB (vcM view p) false true true false && Psp.changeB view p.o p.c f cl)))) := by
  unfold Psp.formM
  rfl
theorem vc_form1 {view : Int} {p : Psp.Part} {f cl : Int} (h : Psp.formM (vcM view p) f cl = true) : 1 ≤ view := by
  rw [vc_form] at h
  simp only [Bool.and_eq_true] at h
  have h1 := h.2.2.2.2
  unfold Psp.changeB at h1
  rw [Bool.and_eq_true] at h1
  exact ((Psp.win_iff _ _ _).1 h1.1).1
theorem vc_wf {view : Int} {p : Psp.Part} (hv : isI64 view) (hw : wfPart p) : wfMsg (vcM view p) :=
  have h0 : isI64 0 := ⟨by decide, by decide⟩
  have h7 : isI64 7 := ⟨by decide, by decide⟩
  ⟨h7, hw.1, hv, h0, h0, h0, fun r h => (by cases h), hw.2.1, hw.2.2.1, fun r h => (by cases h)⟩

set_option maxRecDepth 100000 in
set_option maxHeartbeats 2000000 in
theorem form_may0 (m : Psp.Msg) (vb vo vc vp : Value) (f cl : Int) (w : World) (P : Nat → Prop) (hx : MsgOk w P ⟨m, vb, vo, vc, vp⟩) (hf : Psp.may f = false) :
    Calls Tryz.prog 46 #[.agg #[.int .i64 m.k, .int .i64 m.f, .int .i64 m.v, .int .i64 m.i, .int .i64 m.q, .int .i64 m.r, vb, vo, vc, vp], .int .i64 f, .int .i64 cl] w fun e w' => e = .returned (.bool (Psp.formM m f cl)) ∧ Below w.heap.size w w' := by
  obtain ⟨Ab, Ao, Ac, Ap, cb, co, cc, cp, rfl, rfl, rfl, rfl⟩ := msg_slices hx
  have hq : Psp.nodes f = 0 := by
    have h : (Psp.nodes f == 0) = true := by rw [may_zero, hf]; rfl
    simpa using h
  have hbn := b_nodes_any f
  rw [hq] at hbn
  have HNn := Lib.hid hbn
  have Hr : Hid (Psp.formM m f cl = false) := Lib.hid (by unfold Psp.formM; rw [hf]; rfl)
  have HF0 := fb_start w m (.slice Ab m.b.length cb) (.slice Ao m.o.length co) (.slice Ac m.c.length cc) (.slice Ap m.p.length cp) f cl
  clear hq hbn hx hf
  go_enter Tryz.func46, Tryz.ntmps46
  go_wp2_with (first | (go_at_call 89; refine (HNn.out _).mono ?_; rintro e w' ⟨rfl, rfl⟩))
  go_ret
  exact ⟨by rw [Hr.out]; rfl, HF0.out.be⟩
theorem form_7a (m : Psp.Msg) (vb vo vc vp : Value) (f cl : Int) (w : World) (P : Nat → Prop) (hx : MsgOk w P ⟨m, vb, vo, vc, vp⟩) (hw : wfMsg m) (hk : m.k = 7) :
    Calls Tryz.prog 46 #[.agg #[.int .i64 m.k, .int .i64 m.f, .int .i64 m.v, .int .i64 m.i, .int .i64 m.q, .int .i64 m.r, vb, vo, vc, vp], .int .i64 f, .int .i64 cl] w fun e w' => e = .returned (.bool (Psp.formM m f cl)) ∧ Below w.heap.size w w' := by
  cases hf : Psp.may f with
  | false => exact form_may0 m vb vo vc vp f cl w P hx hf
  | true => exact form_7 m vb vo vc vp f cl w P hx hw hf hk

end Go.Proofs.YtadpkjgjciodnaaGreat
