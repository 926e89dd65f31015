/- Package msgs: Form, kind by kind. Printed by gen_fg.py. -/
import Derived.Test.YtipmjleohadoeaaGreatFgCsp
import Derived.Deep.RegionHeld3
namespace Go.Proofs.YtipmjleohadoeaaGreat
open Go.RowKit
set_option linter.unusedVariables false
set_option linter.unusedSimpArgs false

theorem Fb.range {w0 W : World} {m : Psp.Msg} {vb vo vc vp : Value} {f cl : Int} (h : Fb w0 W m vb vo vc vp f cl) : W.rangeAt w0.heap.size 0 [.int .i64 m.k, .int .i64 m.f, .int .i64 m.v, .int .i64 m.i, .int .i64 m.q, .int .i64 m.r, vb, vo, vc, vp] := fun j v hv => by
  rw [Nat.zero_add, cell_of_row _ _ j _ _ _ h.box]; simpa using hv

end Go.Proofs.YtipmjleohadoeaaGreat
