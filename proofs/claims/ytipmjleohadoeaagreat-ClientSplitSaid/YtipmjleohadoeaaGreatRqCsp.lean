/- Package reqs: Body, Make, Sealed; the reference's ReqBody. -/
import Derived.Test.YtipmjleohadoeaaGreatGgCsp
namespace Go.Proofs.YtipmjleohadoeaaGreat
open Go.RowKit
set_option linter.unusedVariables false

/-- A request without its seal. -/
def bare (r : Psp.Req) : Psp.Req := { r with s := 0 }
/-- What a client seals, as a key. -/
def kR (r : Psp.Req) : Key := (100 + r.c, res (Psp.encR (bare r)) (Psp.okR (bare r)))

set_option maxRecDepth 100000 in
theorem Bytes.from_ {e : List UInt8} {ok : Bool} {w w1 w' : World} {en : Ending} (h : Bytes e ok w1 en w') (hb : Below w.heap.size w w1) : Bytes e ok w en w' := by
  obtain ⟨v, h1, h2, h3⟩ := h
  exact ⟨v, h1, own_more h2 hb.size, hb.trans (h3.mono hb.size)⟩
set_option maxRecDepth 100000 in
theorem body_any (r : Psp.Req) (w : World) : Calls Tryz.prog 55 #[.agg #[.int .i64 r.c, .int .i64 r.t, .int .i64 r.k, .int .i64 r.y, .int .i64 r.v, .int .i64 r.s]] w (Bytes (Psp.encR (bare r)) (Psp.okR (bare r)) w) := by
  have hbl := alloc_below w (.cells #[.int .i64 r.c, .int .i64 r.t, .int .i64 r.k, .int .i64 r.y, .int .i64 r.v, .int .i64 0] 42)
  go_enter Tryz.func55, Tryz.ntmps55
  go_wp2_with fail
  refine (pk_req r.c r.t r.k r.y r.v 0 _).mono ?_
  intro e w1 h
  have H := Lib.hid (h.from_ hbl)
  obtain ⟨A, c, rfl, _, _⟩ := h.open_
  clear h
  go_wp2_with fail
  go_ret2
  exact H.out
end Go.Proofs.YtipmjleohadoeaaGreat
