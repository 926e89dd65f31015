/- The reference's Form, of any message. -/
import Derived.Test.YtljfoajhobambaaRk1
import Derived.Test.YtljfoajhobambaaRk3
import Derived.Test.YtljfoajhobambaaRk4
import Derived.Test.YtljfoajhobambaaRk5
import Derived.Test.YtljfoajhobambaaRk6
import Derived.Test.YtljfoajhobambaaRk7
import Derived.Test.YtljfoajhobambaaRk8
import Derived.Test.YtljfoajhobambaaRk9
import Derived.Test.YtljfoajhobambaaRk10
import Derived.Test.YtljfoajhobambaaRk11
namespace Go.Proofs.Ytljfoajhobambaa
open Go.RowKit
set_option linter.unusedVariables false
set_option linter.unusedSimpArgs false

set_option maxRecDepth 100000 in
set_option maxHeartbeats 4000000 in
theorem rform_0 (m : Psp.Msg) (vb vo vc vp : Value) (f cl : Int) (w : World) (P : Nat → Prop) (hx : MsgOk w P ⟨m, vb, vo, vc, vp⟩) (hf : Psp.may f = false) :
    Calls Try.prog 23 #[.agg #[.int .i64 m.k, .int .i64 m.f, .int .i64 m.v, .int .i64 m.i, .int .i64 m.q, .int .i64 m.r, vb, vo, vc, vp], .int .i64 f, .int .i64 cl] w fun e w' => e = .returned (.bool (Psp.formM m f cl)) ∧ Below w.heap.size w w' := by
  obtain ⟨Ab, Ao, Ac, Ap, cb, co, cc, cp, rfl, rfl, rfl, rfl⟩ := msg_slices hx
  have hq : Psp.nodes f = 0 := by
    have h : (Psp.nodes f == 0) = true := by rw [may_zero, hf]; rfl
    simpa using h
  have HN : Hid (∀ W : World, Calls Try.prog 64 #[.int .i64 f] W fun e w' => e = .returned (.int .i64 0) ∧ W = w') := Lib.hid fun W => by rw [← hq]; exact r_nodes_any f W
  have Hr : Hid (Psp.formM m f cl = false) := Lib.hid (by unfold Psp.formM; rw [hf]; rfl)
  have HL0 := Lib.hid (Mk.new w #[.int .i64 m.k, .int .i64 m.f, .int .i64 m.v, .int .i64 m.i, .int .i64 m.q, .int .i64 m.r, .slice Ab m.b.length cb, .slice Ao m.o.length co, .slice Ac m.c.length cc, .slice Ap m.p.length cp])
  clear hq hx hf
  go_enter Try.func23, Try.ntmps23
  go_wp2_with fail
  refine (HN.out _).mono ?_
  rintro e w' ⟨rfl, rfl⟩
  go_wp2_with fail
  go_ret
  exact ⟨by rw [Hr.out]; rfl, HL0.out.be⟩

/-- The reference's Form is the plain one, for every 'clients'. -/
theorem rform_any (m : Psp.Msg) (vb vo vc vp : Value) (f cl : Int) (w : World) (P : Nat → Prop) (hx : MsgOk w P ⟨m, vb, vo, vc, vp⟩) (hw : wfMsg m) :
    Calls Try.prog 23 #[.agg #[.int .i64 m.k, .int .i64 m.f, .int .i64 m.v, .int .i64 m.i, .int .i64 m.q, .int .i64 m.r, vb, vo, vc, vp], .int .i64 f, .int .i64 cl] w fun e w' => e = .returned (.bool (Psp.formM m f cl)) ∧ Below w.heap.size w w' := by
  cases hf : Psp.may f with
  | false => exact rform_0 m vb vo vc vp f cl w P hx hf
  | true =>
    by_cases h1 : m.k = 1; · exact rform_1 m vb vo vc vp f cl w P hx hw hf h1
    by_cases h2 : m.k = 2; · exact rform_2 m vb vo vc vp f cl w P hx hw hf h2
    by_cases h3 : m.k = 3; · exact rform_3 m vb vo vc vp f cl w P hx hw hf h3
    by_cases h4 : m.k = 4; · exact rform_4 m vb vo vc vp f cl w P hx hw hf h4
    by_cases h5 : m.k = 5; · exact rform_5 m vb vo vc vp f cl w P hx hw hf h5
    by_cases h6 : m.k = 6; · exact rform_6 m vb vo vc vp f cl w P hx hw hf h6
    by_cases h7 : m.k = 7; · exact rform_7 m vb vo vc vp f cl w P hx hw hf h7
    by_cases h8 : m.k = 8; · exact rform_8 m vb vo vc vp f cl w P hx hw hf h8
    by_cases h9 : m.k = 9; · exact rform_9 m vb vo vc vp f cl w P hx hw hf h9
    by_cases h10 : m.k = 10; · exact rform_10 m vb vo vc vp f cl w P hx hw hf h10
    exact rform_11 m vb vo vc vp f cl w P hx hw hf fun j hj1 hj2 hj => by
      have : j = 1 ∨ j = 2 ∨ j = 3 ∨ j = 4 ∨ j = 5 ∨ j = 6 ∨ j = 7 ∨ j = 8 ∨ j = 9 ∨ j = 10 := by omega
      rcases this with rfl | rfl | rfl | rfl | rfl | rfl | rfl | rfl | rfl | rfl <;> contradiction
end Go.Proofs.Ytljfoajhobambaa
