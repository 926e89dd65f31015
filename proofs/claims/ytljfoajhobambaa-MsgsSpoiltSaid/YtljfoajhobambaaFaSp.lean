/- Package msgs: Form, every kind. -/
import Derived.Test.YtljfoajhobambaaFq1Sp
import Derived.Test.YtljfoajhobambaaFq8Sp
import Derived.Test.YtljfoajhobambaaFq9Sp
import Derived.Test.YtljfoajhobambaaFhSp
import Derived.Test.YtljfoajhobambaaOpSp
namespace Go.Proofs.Ytljfoajhobambaa
open Go.RowKit
set_option linter.unusedVariables false
set_option linter.unusedSimpArgs false

set_option maxRecDepth 100000 in
set_option maxHeartbeats 2000000 in
theorem form_0 (m : Psp.Msg) (vb vo vc vp : Value) (f cl : Int) (w : World) (P : Nat → Prop) (hx : MsgOk w P ⟨m, vb, vo, vc, vp⟩) (hf : Psp.may f = false) :
    Calls Try.prog 24 #[.agg #[.int .i64 m.k, .int .i64 m.f, .int .i64 m.v, .int .i64 m.i, .int .i64 m.q, .int .i64 m.r, vb, vo, vc, vp], .int .i64 f, .int .i64 cl] w fun e w' => e = .returned (.bool (Psp.formM m f cl)) ∧ Below w.heap.size w w' := by
  obtain ⟨Ab, Ao, Ac, Ap, cb, co, cc, cp, rfl, rfl, rfl, rfl⟩ := msg_slices hx
  have hq : Psp.nodes f = 0 := by
    have h : (Psp.nodes f == 0) = true := by rw [may_zero, hf]; rfl
    simpa using h
  have hbn := b_nodes_any f
  rw [hq] at hbn
  have HNn := Lib.hid hbn
  have Hr : Hid (Psp.formM m f cl = false) := Lib.hid (by unfold Psp.formM; rw [hf]; rfl)
  have HF0 := fb_start w m (.slice Ab m.b.length cb) (.slice Ao m.o.length co) (.slice Ac m.c.length cc) (.slice Ap m.p.length cp) f cl
  clear hq hbn hx hf
  go_enter Try.func24, Try.ntmps24
  go_wp2_with (first | (go_at_call 73; refine (HNn.out _).mono ?_; rintro e w' ⟨rfl, rfl⟩))
  go_ret
  exact ⟨by rw [Hr.out]; rfl, HF0.out.be⟩

/-- Form, of any message: where 'clients' is the least int it is not told. -/
theorem form_any (m : Psp.Msg) (vb vo vc vp : Value) (f cl : Int) (w : World) (P : Nat → Prop) (hx : MsgOk w P ⟨m, vb, vo, vc, vp⟩) (hw : wfMsg m) (hcl : m.k = 10 → -9223372036854775808 < cl ∧ cl ≤ 9223372036854775807) :
    Calls Try.prog 24 #[.agg #[.int .i64 m.k, .int .i64 m.f, .int .i64 m.v, .int .i64 m.i, .int .i64 m.q, .int .i64 m.r, vb, vo, vc, vp], .int .i64 f, .int .i64 cl] w fun e w' => e = .returned (.bool (Psp.formM m f cl)) ∧ Below w.heap.size w w' := by
  cases hf : Psp.may f with
  | false => exact form_0 m vb vo vc vp f cl w P hx hf
  | true =>
    by_cases h1 : m.k = 1; · exact form_1 m vb vo vc vp f cl w P hx hw hf h1
    by_cases h2 : m.k = 2; · exact form_2 m vb vo vc vp f cl w P hx hw hf h2
    by_cases h3 : m.k = 3; · exact form_3 m vb vo vc vp f cl w P hx hw hf h3
    by_cases h4 : m.k = 4; · exact form_4 m vb vo vc vp f cl w P hx hw hf h4
    by_cases h5 : m.k = 5; · exact form_5 m vb vo vc vp f cl w P hx hw hf h5
    by_cases h6 : m.k = 6; · exact form_6 m vb vo vc vp f cl w P hx hw hf h6
    by_cases h7 : m.k = 7; · exact form_7 m vb vo vc vp f cl w P hx hw hf h7
    by_cases h8 : m.k = 8; · exact form_8 m vb vo vc vp f cl w P hx hw hf h8
    by_cases h9 : m.k = 9; · exact form_9 m vb vo vc vp f cl w P hx hw hf h9
    by_cases h10 : m.k = 10; · exact form_10 m vb vo vc vp f cl w P hx hw hf h10 (hcl h10).1 (hcl h10).2
    exact form_11 m vb vo vc vp f cl w P hx hw hf fun j hj1 hj2 hj => by
      have : j = 1 ∨ j = 2 ∨ j = 3 ∨ j = 4 ∨ j = 5 ∨ j = 6 ∨ j = 7 ∨ j = 8 ∨ j = 9 ∨ j = 10 := by omega
      rcases this with rfl | rfl | rfl | rfl | rfl | rfl | rfl | rfl | rfl | rfl <;> contradiction
end Go.Proofs.Ytljfoajhobambaa
