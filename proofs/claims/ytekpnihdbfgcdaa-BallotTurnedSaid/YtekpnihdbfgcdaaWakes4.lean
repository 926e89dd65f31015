/- The walk of chapter 4's examples. -/
import Derived.Test.YtekpnihdbfgcdaaInts
namespace Go.Proofs.Ytekpnihdbfgcdaa
open Go.RowKit
set_option linter.unusedVariables false

theorem wakes4 (w : World) : Calls Try.prog 23 #[] w fun e w' => e = .returned (.bool true) ∧ w = w' := by
  have h1 : Psp.quorum 1 = 3 := by decide
  have h2 : Psp.primary 1 3 2 = -1 := by decide
  go_enter Try.func23, Try.ntmps23
  go_wp2_with (first | (go_at_call 25; refine (b_quorum_any _ _).mono ?_; rintro e w' ⟨rfl, rfl⟩) | (go_at_call 22; refine (b_primary_any _ _ _ _ (by omega) (by omega) (by omega) (by omega)).mono ?_; rintro e w' ⟨rfl, rfl⟩))
  go_ret
  exact ⟨rfl, rfl⟩
end Go.Proofs.Ytekpnihdbfgcdaa
