/- The walk of the law CodeZigs. -/
import Derived.Test.YtekpnihdbfgcdaaWakes1
import Derived.Test.YtekpnihdbfgcdaaOpen
namespace Go.Proofs.Ytekpnihdbfgcdaa.codeZigs
open Go.RowKit
set_option linter.unusedVariables false

theorem par {n : Int} (h0 : -549755813888 ≤ n) (h : n < 549755813888) : (n < 0 → Psp.zig n % 2 = 1) ∧ (0 ≤ n → Psp.zig n % 2 = 0) := by
  unfold Psp.zig
  rw [if_neg (by omega)]
  split <;> omega

theorem walk (a0 : Int) (w : World) (b0 : isI64 a0) :
    Calls Try.prog 15 #[.int .i64 a0] w fun e w' => e = .returned (.bool true) ∧ Below w.heap.size w w' := by
  obtain ⟨b1, b2⟩ := b0
  have hz := Psp.zig_bd a0
  have hg := Psp.zag_bd a0
  obtain ⟨hz1, hz2⟩ := hz
  obtain ⟨hg1, hg2⟩ := hg
  by_cases h1 : -549755813888 ≤ a0
  · by_cases h2 : a0 < 549755813888
    · have hp := par h1 h2
      have hzz := Psp.zag_zig h1 h2
      by_cases h3 : a0 < 0
      · have hq : (Psp.zig a0 % 2 == 1) = true := by simpa using hp.1 h3
        have hg0 : Psp.zag a0 = 0 := by unfold Psp.zag; rw [if_pos (by omega)]
        clear hp
        go_enter Try.func15, Try.ntmps15
        go_wp2_with (first | (go_at_call 45; refine (zig_any _ _ (by omega) (by omega)).mono ?_; rintro e w' ⟨rfl, rfl⟩) | (go_at_call 46; refine (zag_any _ _ (by omega) (by omega)).mono ?_; rintro e w' ⟨rfl, rfl⟩) | (go_at_call 39; refine (wakes1 _).mono ?_; rintro e w' ⟨rfl, hb⟩))
        go_ret
        exact ⟨rfl, hb⟩
      · have hq : (Psp.zig a0 % 2 == 1) = false := by have := hp.2 (by omega); simp; omega
        have hzg := Psp.zig_zag (n := a0) (by omega) (by omega)
        clear hp
        go_enter Try.func15, Try.ntmps15
        go_wp2_with (first | (go_at_call 45; refine (zig_any _ _ (by omega) (by omega)).mono ?_; rintro e w' ⟨rfl, rfl⟩) | (go_at_call 46; refine (zag_any _ _ (by omega) (by omega)).mono ?_; rintro e w' ⟨rfl, rfl⟩) | (go_at_call 39; refine (wakes1 _).mono ?_; rintro e w' ⟨rfl, hb⟩))
        go_ret
        exact ⟨rfl, hb⟩
    · have hz0 : Psp.zig a0 = 0 := by unfold Psp.zig; rw [if_pos (by omega)]
      by_cases h4 : a0 < 1099511627776
      · have hzg := Psp.zig_zag (n := a0) (by omega) (by omega)
        go_enter Try.func15, Try.ntmps15
        go_wp2_with (first | (go_at_call 45; refine (zig_any _ _ (by omega) (by omega)).mono ?_; rintro e w' ⟨rfl, rfl⟩) | (go_at_call 46; refine (zag_any _ _ (by omega) (by omega)).mono ?_; rintro e w' ⟨rfl, rfl⟩) | (go_at_call 39; refine (wakes1 _).mono ?_; rintro e w' ⟨rfl, hb⟩))
        go_ret
        exact ⟨rfl, hb⟩
      · have hg0 : Psp.zag a0 = 0 := by unfold Psp.zag; rw [if_pos (by omega)]
        go_enter Try.func15, Try.ntmps15
        go_wp2_with (first | (go_at_call 45; refine (zig_any _ _ (by omega) (by omega)).mono ?_; rintro e w' ⟨rfl, rfl⟩) | (go_at_call 46; refine (zag_any _ _ (by omega) (by omega)).mono ?_; rintro e w' ⟨rfl, rfl⟩) | (go_at_call 39; refine (wakes1 _).mono ?_; rintro e w' ⟨rfl, hb⟩))
        go_ret
        exact ⟨rfl, hb⟩
  · have hz0 : Psp.zig a0 = 0 := by unfold Psp.zig; rw [if_pos (by omega)]
    have hg0 : Psp.zag a0 = 0 := by unfold Psp.zag; rw [if_pos (by omega)]
    go_enter Try.func15, Try.ntmps15
    go_wp2_with (first | (go_at_call 45; refine (zig_any _ _ (by omega) (by omega)).mono ?_; rintro e w' ⟨rfl, rfl⟩) | (go_at_call 46; refine (zag_any _ _ (by omega) (by omega)).mono ?_; rintro e w' ⟨rfl, rfl⟩) | (go_at_call 39; refine (wakes1 _).mono ?_; rintro e w' ⟨rfl, hb⟩))
    go_ret
    exact ⟨rfl, hb⟩
end Go.Proofs.Ytekpnihdbfgcdaa.codeZigs
