/- The walk of the law CodeLengths. -/
import Derived.Test.YtekpnihdbfgcdaaWakes1
import Derived.Test.YtekpnihdbfgcdaaOpen
import Derived.Test.YtekpnihdbfgcdaaLater
namespace Go.Proofs.Ytekpnihdbfgcdaa.codeLengths
open Go.RowKit
set_option linter.unusedVariables false

theorem len_big {m : Int} (h : ¬ m < 128) : (Psp.num m.toNat).length = (Psp.num (m / 128).toNat).length + 1 := by
  rw [Psp.num_big (by omega), List.length_cons]
  have : (m / 128).toNat = m.toNat / 128 := by omega
  rw [this]
theorem len_small {m : Int} (h : m < 128) (h0 : 0 ≤ m) : (Psp.num m.toNat).length = 1 := by
  rw [Psp.num_small (by omega)]; rfl

theorem walk (a0 : Int) (w : World) (b0 : isI64 a0) :
    Calls Try.prog 12 #[.int .i64 a0] w fun e w' => e = .returned (.bool true) ∧ Below w.heap.size w w' := by
  obtain ⟨b1, b2⟩ := b0
  by_cases h0 : 0 ≤ a0
  · by_cases h1 : a0 < 1099511627776
    · go_enter Try.func12, Try.ntmps12
      go_wp2_with fail
      refine (number_ok _ _ h0 h1).mono ?_
      rintro e w1 ⟨v1, rfl, ho1, hb1⟩
      obtain ⟨n, hn⟩ : ∃ n, (Psp.num a0.toNat).length = n := ⟨_, rfl⟩
      have hn6 : n ≤ 6 := by rw [← hn]; exact Psp.num_len6 (by omega)
      have hn1 : 1 ≤ n := by rw [← hn]; exact Psp.num_pos _
      have hbits := Psp.num_bits n a0.toNat hn
      rw [hn] at ho1
      obtain ⟨g1, c1, rfl, hg1, hl1⟩ := ho1.form (by omega)
      have hcell : ∀ i, i < n → w1.cell? ⟨g1, i, none⟩ = some (.int .u8 (((Psp.num a0.toNat).getD i 0).toNat : Int)) := by
        intro i hi
        rw [ho1.cellAt i (by omega)]
        simp [bv, List.getD_eq_getElem?_getD, List.getElem?_eq_getElem (show i < (Psp.num a0.toNat).length by omega)]
      have Hn := Lib.hid hn
      have Hb := Lib.hid hbits
      have Hc := Lib.hid hcell
      clear hn hbits hcell ho1
      go_wp2
      go_loop [5, 6] (fun x k => ∃ (c m : Int), x = .int .i64 c ∧ k = .int .i64 m ∧ 1 ≤ c ∧ c ≤ 7 ∧ 0 ≤ m ∧ m < 1099511627776 ∧ Hid (c + ((Psp.num m.toNat).length : Int) = (n : Int) + 1)) (fun _ k => (intOf k).toNat)
      case atStart => exact ⟨1, a0, rfl, rfl, by omega, by omega, h0, h1, Lib.hid (by rw [Hn.out]; omega)⟩
      case round =>
        obtain ⟨c, m, rfl, rfl, hc0, hc1, hm0, hm1, HI⟩ := hrel
        by_cases hlt : m < 128
        · have hc : c = n := by have := HI.out; rw [len_small hlt hm0] at this; omega
          subst hc
          go_wp2
          go_loop [38] (fun i => ∃ k : Nat, i = .int .i64 (k : Int) ∧ k ≤ n) (fun i => n - (intOf i).toNat)
          case atStart => exact ⟨0, rfl, Nat.zero_le _⟩
          case round =>
            obtain ⟨k, rfl, hk⟩ := hrel
            by_cases hkn : k < n
            · have hcl := Hc.out k hkn
              have hbt := Hb.out k hkn
              by_cases hlast : k + 1 < n
              · have hge : (128 : Int) ≤ (((Psp.num a0.toNat).getD k 0).toNat : Int) := by have := hbt.2 hlast; omega
                clear hbt
                generalize (Psp.num a0.toNat).getD k 0 = ch at *
                have hbd := ch.toNat_lt
                have hd1 : decide ((128 : Int) ≤ (ch.toNat : Int)) = true := decide_eq_true hge
                have hd2 : decide ((k : Int) < (n : Int) - 1) = true := decide_eq_true (by omega)
                go_wp2
                go_round
                case rel => exact ⟨k + 1, by go_num, by omega⟩
                case measure => simp [intOf]; omega
              · have hge : ¬ (128 : Int) ≤ (((Psp.num a0.toNat).getD k 0).toNat : Int) := fun h => hlast (hbt.1 (by omega))
                clear hbt
                generalize (Psp.num a0.toNat).getD k 0 = ch at *
                have hbd := ch.toNat_lt
                have hd1 : decide ((128 : Int) ≤ (ch.toNat : Int)) = false := decide_eq_false hge
                have hd2 : decide ((k : Int) < (n : Int) - 1) = false := decide_eq_false (by omega)
                go_wp2
                go_round
                case rel => exact ⟨k + 1, by go_num, by omega⟩
                case measure => simp [intOf]; omega
            · go_wp2_with (go_at_call 39; refine (wakes1 _).mono ?_; rintro e w' ⟨rfl, hb⟩)
              go_ret
              exact ⟨rfl, hb1.trans (hb.mono hb1.size)⟩
        · have hlb := len_big hlt
          have HI2 : Hid (c + 1 + ((Psp.num (m / 128).toNat).length : Int) = (n : Int) + 1) := Lib.hid (by have := HI.out; omega)
          have hp := Psp.num_pos (m / 128).toNat
          have hc2 : c + 1 ≤ 7 := by have := HI2.out; omega
          clear hlb
          go_wp2
          go_round
          case rel => exact ⟨c + 1, m / 128, rfl, rfl, by omega, hc2, by omega, by omega, HI2⟩
          case measure => simp [intOf]; omega
    · go_enter Try.func12, Try.ntmps12
      go_wp2_with (first | (go_at_call 36; refine (number_no _ _ (.inr (by omega))).mono ?_; rintro e w' ⟨rfl, rfl⟩) | (go_at_call 39; refine (wakes1 _).mono ?_; rintro e w' ⟨rfl, hb⟩))
      go_ret
      exact ⟨rfl, hb⟩
  · go_enter Try.func12, Try.ntmps12
    go_wp2_with (first | (go_at_call 36; refine (number_no _ _ (.inl (by omega))).mono ?_; rintro e w' ⟨rfl, rfl⟩) | (go_at_call 39; refine (wakes1 _).mono ?_; rintro e w' ⟨rfl, hb⟩))
    go_ret
    exact ⟨rfl, hb⟩
end Go.Proofs.Ytekpnihdbfgcdaa.codeLengths
