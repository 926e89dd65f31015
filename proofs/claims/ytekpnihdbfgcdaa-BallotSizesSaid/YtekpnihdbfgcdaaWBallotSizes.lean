/- The walk of the law BallotSizes. -/
import Derived.Test.YtekpnihdbfgcdaaWakes4
import Derived.Test.YtekpnihdbfgcdaaOpen
namespace Go.Proofs.Ytekpnihdbfgcdaa.ballotSizes
open Go.RowKit
set_option linter.unusedVariables false

theorem walk (a0 a1 a2 : Int) (w : World) (b0 : isI64 a0) (b1 : isI64 a1) (b2 : isI64 a2) :
    Calls Try.prog 4 #[.int .i64 a0, .int .i64 a1, .int .i64 a2] w fun e w' => e = .returned (.bool true) ∧ Below w.heap.size w w' := by
  obtain ⟨c0, d0⟩ := b0
  obtain ⟨c1, d1⟩ := b1
  obtain ⟨c2, d2⟩ := b2
  have x0 := Psp.within_lo a0 4
  have x1 := Psp.within_hi a0 4 (by omega)
  obtain ⟨x, hx⟩ : ∃ x, Psp.within a0 4 = x := ⟨_, rfl⟩
  rw [hx] at x0 x1
  obtain ⟨p, hp⟩ : ∃ p, Psp.primary a0 a1 a2 = p := ⟨_, rfl⟩
  obtain ⟨n, hn⟩ : ∃ p, Psp.nodes a0 = p := ⟨_, rfl⟩
  obtain ⟨q, hq⟩ : ∃ p, Psp.quorum a0 = p := ⟨_, rfl⟩
  obtain ⟨k, hk⟩ : ∃ p, Psp.weak a0 = p := ⟨_, rfl⟩
  have hn' : Psp.nodes (1 + x) = 3 * (1 + x) + 1 := by unfold Psp.nodes; rw [if_pos ⟨by omega, by omega⟩]
  have hq' : Psp.quorum (1 + x) = 2 * (1 + x) + 1 := by unfold Psp.quorum; rw [if_pos ⟨by omega, by omega⟩]
  have hk' : Psp.weak (1 + x) = (1 + x) + 1 := by unfold Psp.weak; rw [if_pos ⟨by omega, by omega⟩]
  go_enter Try.func4, Try.ntmps4
  go_wp2_with (first | (go_at_call 20; refine (within_any _ _ _ (by omega) (by omega) (by omega) (by omega)).mono ?_; rintro e w' ⟨rfl, rfl⟩) | (go_at_call 21; refine (b_nodes_any _ _).mono ?_; rintro e w' ⟨rfl, rfl⟩) | (go_at_call 24; refine (r_nodes_any _ _).mono ?_; rintro e w' ⟨rfl, rfl⟩) | (go_at_call 25; refine (b_quorum_any _ _).mono ?_; rintro e w' ⟨rfl, rfl⟩) | (go_at_call 26; refine (r_quorum_any _ _).mono ?_; rintro e w' ⟨rfl, rfl⟩) | (go_at_call 27; refine (b_weak_any _ _).mono ?_; rintro e w' ⟨rfl, rfl⟩) | (go_at_call 28; refine (r_weak_any _ _).mono ?_; rintro e w' ⟨rfl, rfl⟩) | (go_at_call 22; refine (b_primary_any _ _ _ _ (by omega) (by omega) (by omega) (by omega)).mono ?_; rintro e w' ⟨rfl, rfl⟩) | (go_at_call 29; refine (r_primary_any _ _ _ _ (by omega) (by omega) (by omega) (by omega)).mono ?_; rintro e w' ⟨rfl, rfl⟩) | (go_at_call 23; refine (wakes4 _).mono ?_; rintro e w' ⟨rfl, rfl⟩))
  go_ret
  exact ⟨rfl, Below.refl _ _⟩
end Go.Proofs.Ytekpnihdbfgcdaa.ballotSizes
