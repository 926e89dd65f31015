/- Messages in cells; what a call that parses returns, both ways in one. -/
import Derived.Test.YtipmjleohadoeaaGreatBalCsp
import Derived.Test.YtipmjleohadoeaaGreatBxCsp
import Derived.Test.YtipmjleohadoeaaGreatWk6Csp
import Derived.Test.YtipmjleohadoeaaGreatMqCsp
import Derived.Test.YtipmjleohadoeaaGreatGfCsp
import Derived.Test.YtipmjleohadoeaaGreatGeCsp
import Derived.Test.YtipmjleohadoeaaGreatTkCsp
import Derived.Test.YtipmjleohadoeaaGreatFgCsp
import Derived.ChangeSame
namespace Go.Proofs.YtipmjleohadoeaaGreat
open Go.RowKit
set_option linter.unusedVariables false
set_option linter.unusedSimpArgs false

theorem TakenM.any {b : List UInt8} {w w' : World} {e : Ending} (h : TakenM b w e w') : ∃ (m : Psp.Msg) (Ab Ao Ac Ap : Option Addr) (cb co cc cp : Nat),
    e = .returned (.tuple #[.agg #[.int .i64 m.k, .int .i64 m.f, .int .i64 m.v, .int .i64 m.i, .int .i64 m.q, .int .i64 m.r, .slice Ab m.b.length cb, .slice Ao m.o.length co, .slice Ac m.c.length cc, .slice Ap m.p.length cp], .bool (Psp.parseM b).isSome]) ∧
    MsgOk w' (fun k => w.heap.size ≤ k) ⟨m, .slice Ab m.b.length cb, .slice Ao m.o.length co, .slice Ac m.c.length cc, .slice Ap m.p.length cp⟩ ∧ (Psp.parseM b).getD zM = m ∧ Below w.heap.size w w' := by
  obtain ⟨h1, h2, h3⟩ := h
  cases hp : Psp.parseM b with
  | none => exact ⟨zM, none, none, none, none, 0, 0, 0, 0, h2 hp, zM_ok, rfl, h3⟩
  | some m =>
    obtain ⟨vb, vo, vc, vp, he, hm⟩ := h1 m hp
    obtain ⟨Ab, Ao, Ac, Ap, cb, co, cc, cp, rfl, rfl, rfl, rfl⟩ := msg_slices hm
    exact ⟨m, Ab, Ao, Ac, Ap, cb, co, cc, cp, he, hm, rfl, h3⟩
end Go.Proofs.YtipmjleohadoeaaGreat
