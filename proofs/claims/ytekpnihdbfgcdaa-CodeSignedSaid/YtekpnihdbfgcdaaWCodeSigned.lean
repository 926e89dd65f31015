/- The walk of the law CodeSigned. -/
import Derived.Test.YtekpnihdbfgcdaaWakes1
import Derived.Test.YtekpnihdbfgcdaaOpen
import Derived.Test.YtekpnihdbfgcdaaLater
namespace Go.Proofs.Ytekpnihdbfgcdaa.codeSigned
open Go.RowKit
set_option linter.unusedVariables false

theorem taken_num {N : Nat} (h : N < 1099511627776) : takeAt (Psp.num N) 0 = some (N, (Psp.num N).length) := by
  have := Psp.take_num [] h
  rw [List.append_nil] at this
  unfold takeAt
  rw [if_neg (by omega)]
  simpa using this

theorem walk (a0 : Int) (w : World) (b0 : isI64 a0) :
    Calls Try.prog 18 #[.int .i64 a0] w fun e w' => e = .returned (.bool true) ∧ Below w.heap.size w w' := by
  obtain ⟨b1, b2⟩ := b0
  have hz := Psp.zig_bd a0
  have hg := Psp.zag_bd a0
  obtain ⟨hz1, hz2⟩ := hz
  obtain ⟨hg1, hg2⟩ := hg
  by_cases h1 : -549755813888 ≤ a0
  · by_cases h2 : a0 < 549755813888
    · have hzz := Psp.zag_zig h1 h2
      obtain ⟨N, hN⟩ := Int.eq_ofNat_of_zero_le hz1
      have htN : (Psp.zig a0).toNat = N := by omega
      have htk := Lib.hid (taken_num (N := N) (by omega))
      have hzc : Psp.zag (N : Int) = a0 := by rw [← hN, hzz]
      have HN := Lib.hid htN
      clear hN htN
      go_enter Try.func18, Try.ntmps18
      go_wp2_with (first | (go_at_call 45; refine (zig_any _ _ (by omega) (by omega)).mono ?_; rintro e w' ⟨rfl, rfl⟩) | (go_at_call 46; refine (zag_any _ _ (by omega) (by omega)).mono ?_; rintro e w' ⟨rfl, rfl⟩) | (go_at_call 51; refine (r_zig_any _ _ (by omega) (by omega)).mono ?_; rintro e w' ⟨rfl, rfl⟩) | (go_at_call 49; refine (r_zag_any _ _ (by omega) (by omega)).mono ?_; rintro e w' ⟨rfl, rfl⟩) | fail)
      refine (signed_ok _ _ h1 h2).mono ?_
      rintro e w1 ⟨v1, rfl, ho1, hb1⟩
      rw [HN.out] at ho1
      have r1 := Lib.hid (Rd.of_own ho1)
      obtain ⟨g1, c1, rfl, hg1, hl1⟩ := ho1.form (Psp.num_pos _)
      clear ho1
      go_wp2_with fail
      refine (takes_yes _ _ _ _ N _ _ r1.out (by omega) htk.out).mono ?_
      rintro e w2 ⟨rfl, rfl⟩
      go_wp2_with (first | (go_at_call 46; refine (zag_any _ _ (by omega) (by omega)).mono ?_; rintro e w' ⟨rfl, rfl⟩) | (go_at_call 39; refine (wakes1 _).mono ?_; rintro e w' ⟨rfl, hb⟩))
      go_ret
      exact ⟨rfl, hb1.trans (hb.mono hb1.size)⟩
    · have hz0 : Psp.zig a0 = 0 := by unfold Psp.zig; rw [if_pos (by omega)]
      have hd : decide (a0 < 549755813888) = false := by simp; omega
      go_enter Try.func18, Try.ntmps18
      go_wp2_with (first | (go_at_call 45; refine (zig_any _ _ (by omega) (by omega)).mono ?_; rintro e w' ⟨rfl, rfl⟩) | (go_at_call 46; refine (zag_any _ _ (by omega) (by omega)).mono ?_; rintro e w' ⟨rfl, rfl⟩) | (go_at_call 51; refine (r_zig_any _ _ (by omega) (by omega)).mono ?_; rintro e w' ⟨rfl, rfl⟩) | (go_at_call 49; refine (r_zag_any _ _ (by omega) (by omega)).mono ?_; rintro e w' ⟨rfl, rfl⟩) | (go_at_call 50; refine (signed_no _ _ (.inr (by omega))).mono ?_; rintro e w' ⟨rfl, rfl⟩) | (go_at_call 39; refine (wakes1 _).mono ?_; rintro e w' ⟨rfl, hb⟩))
      go_ret
      exact ⟨rfl, hb⟩
  · have hz0 : Psp.zig a0 = 0 := by unfold Psp.zig; rw [if_pos (by omega)]
    go_enter Try.func18, Try.ntmps18
    go_wp2_with (first | (go_at_call 45; refine (zig_any _ _ (by omega) (by omega)).mono ?_; rintro e w' ⟨rfl, rfl⟩) | (go_at_call 46; refine (zag_any _ _ (by omega) (by omega)).mono ?_; rintro e w' ⟨rfl, rfl⟩) | (go_at_call 51; refine (r_zig_any _ _ (by omega) (by omega)).mono ?_; rintro e w' ⟨rfl, rfl⟩) | (go_at_call 49; refine (r_zag_any _ _ (by omega) (by omega)).mono ?_; rintro e w' ⟨rfl, rfl⟩) | (go_at_call 50; refine (signed_no _ _ (.inl (by omega))).mono ?_; rintro e w' ⟨rfl, rfl⟩) | (go_at_call 39; refine (wakes1 _).mono ?_; rintro e w' ⟨rfl, hb⟩))
    go_ret
    exact ⟨rfl, hb⟩
end Go.Proofs.Ytekpnihdbfgcdaa.codeSigned
