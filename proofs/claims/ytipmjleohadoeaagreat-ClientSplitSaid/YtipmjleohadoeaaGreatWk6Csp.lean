/- The example of the document's chapter 6. -/
import Derived.Test.YtipmjleohadoeaaGreatOpCsp
import Derived.Test.YtipmjleohadoeaaGreatFhCsp
namespace Go.Proofs.YtipmjleohadoeaaGreat
open Go.RowKit
set_option linter.unusedVariables false
set_option linter.unusedSimpArgs false

/-- What an envelope that was sealed opens as. -/
theorem open_back {m : Psp.Msg} {s f cl : Int} {K : List Key} (h : Psp.okB m = true) (hs : okE s (Psp.encM m) = true) :
    openM (Psp.encN s ++ Psp.encM m) f cl K = if (Psp.formM m f cl && chkB K (kM m) s) = true then some (m, s) else none := by
  unfold okE at hs
  rw [Bool.and_eq_true, decide_eq_true_eq] at hs
  rw [open_short (by rw [List.length_append]; exact hs.2), codec_N.back hs.1]
  simp only [Option.bind_some, Int.toNat_natCast, List.drop_left, Psp.parse_back h]
  rfl
theorem open_form {m : Psp.Msg} {s f cl : Int} (h : Psp.okB m = true) (hs : Psp.okN s = true) (hF : FormOk f cl m) :
    ∀ n a m', dN (Psp.encN s ++ Psp.encM m) 0 = some (n, a) → Psp.parseM ((Psp.encN s ++ Psp.encM m).drop a.toNat) = some m' → FormOk f cl m' := by
  intro n a m' h1 h2
  rw [codec_N.back hs] at h1
  injection h1 with h1
  injection h1 with h1 h3
  subst h3
  rw [Int.toNat_natCast, List.drop_left, Psp.parse_back h] at h2
  injection h2 with h2
  subst h2
  exact hF

end Go.Proofs.YtipmjleohadoeaaGreat
