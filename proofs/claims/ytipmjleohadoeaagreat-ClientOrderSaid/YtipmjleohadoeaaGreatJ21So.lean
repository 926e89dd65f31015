/- The example of the document's chapter 6. Messages in cells; what a call that parses returns, both ways in one. -/
import Derived.Test.YtipmjleohadoeaaGreatOpSo
import Derived.Test.YtipmjleohadoeaaGreatFhSo
import Derived.Test.YtipmjleohadoeaaGreatJ14So
import Derived.Test.YtipmjleohadoeaaGreatBxSo
import Derived.Test.YtipmjleohadoeaaGreatMqSo
import Derived.Test.YtipmjleohadoeaaGreatGfSo
import Derived.Test.YtipmjleohadoeaaGreatGeSo
import Derived.Test.YtipmjleohadoeaaGreatJ18So
import Derived.ChangeSame
section
namespace Go.Proofs.YtipmjleohadoeaaGreat
open Go.RowKit
set_option linter.unusedVariables false
set_option linter.unusedSimpArgs false

/-- What an envelope that was sealed opens as. -/
theorem open_back {m : Psp.Msg} {s f cl : Int} {K : List Key} (h : Psp.okB m = true) (hs : okE s (Psp.encM m) = true) :
    openM (Psp.encN s ++ Psp.encM m) f cl K = if (Psp.formM m f cl && chkB K (kM m) s) = true then some (m, s) else none := by
  unfold okE at hs
  rw [Bool.and_eq_true, decide_eq_true_eq] at hs
  rw [open_short (by rw [List.length_append]; exact hs.2), codec_N.back hs.1]
  simp only [Option.bind_some, Int.toNat_natCast, List.drop_left, Psp.parse_back h]
  rfl
theorem open_form {m : Psp.Msg} {s f cl : Int} (h : Psp.okB m = true) (hs : Psp.okN s = true) (hF : FormOk f cl m) :
    ∀ n a m', dN (Psp.encN s ++ Psp.encM m) 0 = some (n, a) → Psp.parseM ((Psp.encN s ++ Psp.encM m).drop a.toNat) = some m' → FormOk f cl m' := by
  intro n a m' h1 h2
  rw [codec_N.back hs] at h1
  injection h1 with h1
  injection h1 with h1 h3
  subst h3
  rw [Int.toNat_natCast, List.drop_left, Psp.parse_back h] at h2
  injection h2 with h2
  subst h2
  exact hF

end Go.Proofs.YtipmjleohadoeaaGreat
end
section
namespace Go.Proofs.YtipmjleohadoeaaGreat
open Go.RowKit
set_option linter.unusedVariables false
set_option linter.unusedSimpArgs false

theorem TakenM.any {b : List UInt8} {w w' : World} {e : Ending} (h : TakenM b w e w') : ∃ (m : Psp.Msg) (Ab Ao Ac Ap : Option Addr) (cb co cc cp : Nat),
    e = .returned (.tuple #[.agg #[.int .i64 m.k, .int .i64 m.f, .int .i64 m.v, .int .i64 m.i, .int .i64 m.q, .int .i64 m.r, .slice Ab m.b.length cb, .slice Ao m.o.length co, .slice Ac m.c.length cc, .slice Ap m.p.length cp], .bool (Psp.parseM b).isSome]) ∧
    MsgOk w' (fun k => w.heap.size ≤ k) ⟨m, .slice Ab m.b.length cb, .slice Ao m.o.length co, .slice Ac m.c.length cc, .slice Ap m.p.length cp⟩ ∧ (Psp.parseM b).getD zM = m ∧ Below w.heap.size w w' := by
  obtain ⟨h1, h2, h3⟩ := h
  cases hp : Psp.parseM b with
  | none => exact ⟨zM, none, none, none, none, 0, 0, 0, 0, h2 hp, zM_ok, rfl, h3⟩
  | some m =>
    obtain ⟨vb, vo, vc, vp, he, hm⟩ := h1 m hp
    obtain ⟨Ab, Ao, Ac, Ap, cb, co, cc, cp, rfl, rfl, rfl, rfl⟩ := msg_slices hm
    exact ⟨m, Ab, Ao, Ac, Ap, cb, co, cc, cp, he, hm, rfl, h3⟩
end Go.Proofs.YtipmjleohadoeaaGreat
end
