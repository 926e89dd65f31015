/- The walk of the law CodeCuts. -/
import Derived.Test.YtekpnihdbfgcdaaWakes1
import Derived.Test.YtekpnihdbfgcdaaOpen
import Derived.Test.YtekpnihdbfgcdaaLater
namespace Go.Proofs.Ytekpnihdbfgcdaa.codeCuts
open Go.RowKit
set_option linter.unusedVariables false

theorem cut_none {N k : Nat} (h : N < 1099511627776) (hk : k < (Psp.num N).length) : takeAt ((Psp.num N).take k) 0 = none := by
  unfold takeAt
  rw [if_neg (by omega)]
  simpa using Psp.take_cut h hk
theorem past_none {l : List UInt8} {a : Int} (h : (l.length : Int) ≤ a) : takeAt l a = none := by
  unfold takeAt
  rw [if_neg (by omega), List.drop_eq_nil_of_le (by omega)]; rfl
theorem neg_none {l : List UInt8} {a : Int} (h : a < 0) : takeAt l a = none := by
  unfold takeAt
  rw [if_pos h]

theorem walk (a0 a1 : Int) (w : World) (b0 : isI64 a0) (b1 : isI64 a1) :
    Calls Try.prog 13 #[.int .i64 a0, .int .i64 a1] w fun e w' => e = .returned (.bool true) ∧ Below w.heap.size w w' := by
  obtain ⟨b5, b6⟩ := b0
  obtain ⟨b3, b4⟩ := b1
  by_cases h0 : 0 ≤ a0
  · by_cases h1 : a0 < 1099511627776
    · have hw0 := Psp.within_lo a1 50
      have hw1 := Psp.within_hi a1 50 (by omega)
      go_enter Try.func13, Try.ntmps13
      go_wp2_with fail
      refine (number_ok _ _ h0 h1).mono ?_
      rintro e w1 ⟨v1, rfl, ho1, hb1⟩
      obtain ⟨n, hn⟩ : ∃ n, (Psp.num a0.toNat).length = n := ⟨_, rfl⟩
      have hn6 : n ≤ 6 := by rw [← hn]; exact Psp.num_len6 (by omega)
      have hn1 : 1 ≤ n := by rw [← hn]; exact Psp.num_pos _
      rw [hn] at ho1
      have R1 := Lib.hid (Rd.of_own ho1)
      obtain ⟨g1, c1, rfl, hg1, hl1⟩ := ho1.form (by omega)
      obtain ⟨hc1, hc1'⟩ := R1.out.cap
      have Hn := Lib.hid hn
      have hN : a0.toNat < 1099511627776 := by omega
      clear hn ho1
      generalize a0.toNat = N at *
      go_wp2
      go_loop [7] (fun i => ∃ k : Nat, i = .int .i64 (k : Int) ∧ k ≤ n) (fun i => n - (intOf i).toNat)
      case atStart => exact ⟨0, rfl, Nat.zero_le _⟩
      case round =>
        obtain ⟨k, rfl, hk⟩ := hrel
        by_cases hkn : k < n
        · have R2 : Hid (Rd w1 w1.heap.size 1 (.slice (some ⟨g1, 0, none⟩) k c1) k (((Psp.num N).take k).map bv)) := Lib.hid (by
            have := R1.out.take (j := k) (by omega)
            rw [Nat.mul_one, ← List.map_take] at this; exact this)
          have hcut := Lib.hid (cut_none hN (by rw [Hn.out]; exact hkn))
          go_wp2_with fail
          refine (taken_no _ _ _ _ _ R2.out (by omega) (by omega) hcut.out).mono ?_
          rintro e w' ⟨rfl, rfl⟩
          go_wp2
          go_round
          case rel => exact ⟨k + 1, by go_num, by omega⟩
          case measure => simp [intOf]; omega
        · have hp1 : takeAt (Psp.num N) ((n : Int) + Psp.within a1 50) = none := past_none (by rw [Hn.out]; omega)
          have hp2 : takeAt (Psp.num N) (-1 - Psp.within a1 50) = none := neg_none (by omega)
          have Hp1 := Lib.hid hp1
          have Hp2 := Lib.hid hp2
          clear hp1 hp2
          go_wp2_with fail
          refine (within_any _ _ _ (by omega) (by omega) (by omega) (by omega)).mono ?_
          rintro e w' ⟨rfl, rfl⟩
          go_wp2_with fail
          refine (taken_no _ _ _ _ _ R1.out (by omega) (by omega) Hp1.out).mono ?_
          rintro e w' ⟨rfl, rfl⟩
          go_wp2_with fail
          refine (taken_no _ _ _ _ _ R1.out (by omega) (by omega) Hp2.out).mono ?_
          rintro e w' ⟨rfl, rfl⟩
          go_wp2_with (go_at_call 39; refine (wakes1 _).mono ?_; rintro e w' ⟨rfl, hb⟩)
          go_ret
          exact ⟨rfl, hb1.trans (hb.mono hb1.size)⟩
    · go_enter Try.func13, Try.ntmps13
      go_wp2_with (first | (go_at_call 36; refine (number_no _ _ (.inr (by omega))).mono ?_; rintro e w' ⟨rfl, rfl⟩) | (go_at_call 39; refine (wakes1 _).mono ?_; rintro e w' ⟨rfl, hb⟩))
      go_ret
      exact ⟨rfl, hb⟩
  · go_enter Try.func13, Try.ntmps13
    go_wp2_with (first | (go_at_call 36; refine (number_no _ _ (.inl (by omega))).mono ?_; rintro e w' ⟨rfl, rfl⟩) | (go_at_call 39; refine (wakes1 _).mono ?_; rintro e w' ⟨rfl, hb⟩))
    go_ret
    exact ⟨rfl, hb⟩
end Go.Proofs.Ytekpnihdbfgcdaa.codeCuts
