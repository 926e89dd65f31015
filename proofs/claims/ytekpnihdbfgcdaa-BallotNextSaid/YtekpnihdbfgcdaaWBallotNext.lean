/- The walk of the law BallotNext. -/
import Derived.Test.YtekpnihdbfgcdaaWakes4
import Derived.Test.YtekpnihdbfgcdaaOpen
namespace Go.Proofs.Ytekpnihdbfgcdaa.ballotNext
open Go.RowKit
set_option linter.unusedVariables false

theorem prim_in {f v i : Int} (h1 : 1 ≤ f) (h2 : f ≤ 4) (h3 : 0 ≤ v) (h4 : v ≤ 12) (h5 : 0 ≤ i) (h6 : i ≤ f) : Psp.primary f v i = (v + i) % (3 * f + 1) := by
  unfold Psp.primary; rw [if_pos ⟨h1, h2, h3, h4, h5, h6⟩]
theorem prim_out {f v i : Int} (h : ¬ (1 ≤ f ∧ f ≤ 4 ∧ 0 ≤ v ∧ v ≤ 12 ∧ 0 ≤ i ∧ i ≤ f)) : Psp.primary f v i = -1 := by
  unfold Psp.primary; rw [if_neg h]
theorem nodes_in {f : Int} (h1 : 1 ≤ f) (h2 : f ≤ 4) : Psp.nodes f = 3 * f + 1 := by unfold Psp.nodes; rw [if_pos ⟨h1, h2⟩]

theorem step_mod {x n : Int} (h : 0 < n) : (x % n + 1) % n = (x + 1) % n := by rw [Int.emod_add_emod]

theorem walk (a0 a1 a2 : Int) (w : World) (b0 : isI64 a0) (b1 : isI64 a1) (b2 : isI64 a2) :
    Calls Try.prog 3 #[.int .i64 a0, .int .i64 a1, .int .i64 a2] w fun e w' => e = .returned (.bool true) ∧ Below w.heap.size w w' := by
  obtain ⟨c0, d0⟩ := b0
  obtain ⟨c1, d1⟩ := b1
  obtain ⟨c2, d2⟩ := b2
  have x0 := Psp.within_lo a0 4
  have x1 := Psp.within_hi a0 4 (by omega)
  obtain ⟨x, hx⟩ : ∃ x, Psp.within a0 4 = x := ⟨_, rfl⟩
  rw [hx] at x0 x1
  have y0 := Psp.within_lo a1 12
  have y1 := Psp.within_hi a1 12 (by omega)
  obtain ⟨y, hy⟩ : ∃ x, Psp.within a1 12 = x := ⟨_, rfl⟩
  rw [hy] at y0 y1
  have z0 := Psp.within_lo a2 (1 + x + 1)
  have z1 := Psp.within_hi a2 (1 + x + 1) (by omega)
  obtain ⟨z, hz⟩ : ∃ z, Psp.within a2 (1 + x + 1) = z := ⟨_, rfl⟩
  rw [hz] at z0 z1
  have hn : Psp.nodes (1 + x) = 3 * (1 + x) + 1 := nodes_in (by omega) (by omega)
  have hp := prim_in (f := 1 + x) (v := y) (i := z) (by omega) (by omega) (by omega) (by omega) (by omega) (by omega)
  have hq := prim_in (f := 1 + x) (v := y + 1) (i := z) (by omega) (by omega) (by omega) (by omega) (by omega) (by omega)
  have hz0 : Psp.primary (1 + x) 0 z = z := by
    rw [prim_in (by omega) (by omega) (by omega) (by omega) (by omega) (by omega), Int.zero_add, Int.emod_eq_of_lt (by omega) (by omega)]
  have e1 : Psp.primary (1 + x) y (1 + x + 1) = -1 := prim_out (by omega)
  have e2 : Psp.primary (1 + x) 13 z = -1 := prim_out (by omega)
  have e3 : Psp.primary 0 y 0 = -1 := prim_out (by omega)
  have pb := Psp.primary_bd (1 + x) y z
  have qb := Psp.primary_bd (1 + x) (y + 1) z
  have hs : (Psp.primary (1 + x) y z + 1) % Psp.nodes (1 + x) = Psp.primary (1 + x) (y + 1) z := by
    rw [hn, hp, hq, step_mod (by omega), show y + z + 1 = y + 1 + z by omega]
  have p0 : 0 ≤ Psp.primary (1 + x) y z := by rw [hp]; exact Int.emod_nonneg _ (by omega)
  obtain ⟨p, hp'⟩ : ∃ p, Psp.primary (1 + x) y z = p := ⟨_, rfl⟩
  obtain ⟨q, hq'⟩ : ∃ p, Psp.primary (1 + x) (y + 1) z = p := ⟨_, rfl⟩
  obtain ⟨n, hn'⟩ : ∃ p, Psp.nodes (1 + x) = p := ⟨_, rfl⟩
  rw [hp', hq', hn'] at hs
  rw [hp'] at pb p0
  have n1 : 4 ≤ n := by rw [← hn', hn]; omega
  have n2 : n ≤ 13 := by rw [← hn', hn]; omega
  clear hn hp hq qb
  obtain ⟨pb1, pb2⟩ := pb
  go_enter Try.func3, Try.ntmps3
  go_wp2_with (first | (go_at_call 20; refine (within_any _ _ _ (by omega) (by omega) (by omega) (by omega)).mono ?_; rintro e w' ⟨rfl, rfl⟩) | (go_at_call 21; refine (b_nodes_any _ _).mono ?_; rintro e w' ⟨rfl, rfl⟩) | (go_at_call 22; refine (b_primary_any _ _ _ _ (by omega) (by omega) (by omega) (by omega)).mono ?_; rintro e w' ⟨rfl, rfl⟩) | (go_at_call 23; refine (wakes4 _).mono ?_; rintro e w' ⟨rfl, rfl⟩))
  go_ret
  exact ⟨rfl, Below.refl _ _⟩
end Go.Proofs.Ytekpnihdbfgcdaa.ballotNext
