/- The walk of the law CodeUnlike. -/
import Derived.Test.YtekpnihdbfgcdaaWakes1
import Derived.Test.YtekpnihdbfgcdaaOpen
import Derived.Test.YtekpnihdbfgcdaaLater
namespace Go.Proofs.Ytekpnihdbfgcdaa.codeUnlike
open Go.RowKit
set_option linter.unusedVariables false

theorem apart {m n k : Nat} (hm : m < 1099511627776) (hn : n < 1099511627776) (hne : m ≠ n) (hk : k = min (Psp.num m).length (Psp.num n).length) : (Psp.num m).take k ≠ (Psp.num n).take k := by
  intro h
  by_cases hle : (Psp.num m).length ≤ (Psp.num n).length
  · have e1 : k = (Psp.num m).length := by omega
    rw [e1, List.take_length] at h
    have e2 : Psp.num m ++ (Psp.num n).drop (Psp.num m).length = Psp.num n ++ [] := by
      rw [List.append_nil]
      conv => lhs; lhs; rw [h]
      exact List.take_append_drop _ _
    exact hne (Psp.num_inj hm hn e2).1
  · have e1 : k = (Psp.num n).length := by omega
    rw [e1, List.take_length] at h
    have e2 : Psp.num n ++ (Psp.num m).drop (Psp.num n).length = Psp.num m ++ [] := by
      rw [List.append_nil]
      conv => lhs; lhs; rw [← h]
      exact List.take_append_drop _ _
    exact hne (Psp.num_inj hn hm e2).1.symm

theorem walk (a0 a1 : Int) (w : World) (b0 : isI64 a0) (b1 : isI64 a1) :
    Calls Try.prog 10 #[.int .i64 a0, .int .i64 a1] w fun e w' => e = .returned (.bool true) ∧ Below w.heap.size w w' := by
  by_cases h0 : 0 ≤ a0 ∧ a0 < 1099511627776
  · by_cases h1 : 0 ≤ a1 ∧ a1 < 1099511627776
    · by_cases hne : a0 = a1
      · subst hne
        go_enter Try.func10, Try.ntmps10
        go_wp2_with fail
        refine (number_ok _ _ h0.1 h0.2).mono ?_
        rintro e w1 ⟨v1, rfl, ho1, hb1⟩
        go_wp2_with fail
        refine (number_ok _ _ h0.1 h0.2).mono ?_
        rintro e w2 ⟨v2, rfl, ho2, hb2⟩
        go_wp2_with fail
        refine (wakes1 _).mono ?_
        rintro e w3 ⟨rfl, hb3⟩
        go_wp2
        go_ret
        exact ⟨rfl, (hb1.trans (hb2.mono hb1.size)).trans (hb3.mono (Nat.le_trans hb1.size hb2.size))⟩
      · have hne' : (a0 == a1) = false := by simpa using hne
        have hap := Lib.hid (apart (m := a0.toNat) (n := a1.toNat) (k := min (Psp.num a0.toNat).length (Psp.num a1.toNat).length) (by omega) (by omega) (by omega) rfl)
        go_enter Try.func10, Try.ntmps10
        go_wp2_with fail
        refine (number_ok _ _ h0.1 h0.2).mono ?_
        rintro e w1 ⟨v1, rfl, ho1, hb1⟩
        go_wp2_with fail
        refine (number_ok _ _ h1.1 h1.2).mono ?_
        rintro e w2 ⟨v2, rfl, ho2, hb2⟩
        have r1 := (Rd.of_own ho1).below hb2
        have r2 := Rd.of_own ho2
        obtain ⟨g1, c1, rfl, hg1, hl1⟩ := ho1.form (Psp.num_pos _)
        obtain ⟨g2, c2, rfl, hg2, hl2⟩ := ho2.form (Psp.num_pos _)
        have hc1 := r1.cap
        have hc2 := r2.cap
        obtain ⟨hc1, hc1'⟩ := hc1
        obtain ⟨hc2, hc2'⟩ := hc2
        by_cases hmin : (Psp.num a1.toNat).length < (Psp.num a0.toNat).length
        · have R1 : Hid (∀ p : Later w2, Rd p.W p.W.heap.size 1 (.slice (some ⟨g1, 0, none⟩) (Psp.num a1.toNat).length c1) (Psp.num a1.toNat).length (((Psp.num a0.toNat).take (Psp.num a1.toNat).length).map bv)) := Lib.hid fun p => by
            have := (r1.take (j := (Psp.num a1.toNat).length) (by omega)).later hb2.size p
            rw [Nat.mul_one, ← List.map_take] at this; exact this
          have R2 : Hid (∀ p : Later w2, Rd p.W p.W.heap.size 1 (.slice (some ⟨g2, 0, none⟩) (Psp.num a1.toNat).length c2) (Psp.num a1.toNat).length (((Psp.num a1.toNat).take (Psp.num a1.toNat).length).map bv)) := Lib.hid fun p => by
            have := (r2.take (j := (Psp.num a1.toNat).length) (by omega)).later (Nat.le_refl _) p
            rw [Nat.mul_one, ← List.map_take] at this; exact this
          have hne2 := Lib.hid (show ((Psp.num a0.toNat).take (Psp.num a1.toNat).length) ≠ ((Psp.num a1.toNat).take (Psp.num a1.toNat).length) from by
            have := hap.out; rwa [Nat.min_eq_right (by omega)] at this)
          clear ho1 ho2 r1 r2
          go_wp2_with fail
          refine wp_region_later (by kernel_rfl) (by kernel_rfl) ?_
          repeat (first | go_big_quiet_step (first | (go_at_call 38; exact later_call _ (same_bytes_no _ _ _ _ _ _ _ (R1.out _) (R2.out _) hne2.out)) | (go_at_call 39; exact later_call _ (wakes1 _))) | quiet_step (first | (go_at_call 38; exact later_call _ (same_bytes_no _ _ _ _ _ _ _ (R1.out _) (R2.out _) hne2.out)) | (go_at_call 39; exact later_call _ (wakes1 _))))
          refine wpQuiet_nil ?_
          intro _ hw'
          obtain ⟨⟨w3, hb3⟩, hw'⟩ := hw'
          subst hw'
          go_wp2
          go_ret
          exact ⟨rfl, (hb1.trans (hb2.mono hb1.size)).trans (hb3.mono (Nat.le_trans hb1.size hb2.size))⟩
        · have R1 : Hid (∀ p : Later w2, Rd p.W p.W.heap.size 1 (.slice (some ⟨g1, 0, none⟩) (Psp.num a0.toNat).length c1) (Psp.num a0.toNat).length (((Psp.num a0.toNat).take (Psp.num a0.toNat).length).map bv)) := Lib.hid fun p => by
            have := (r1.take (j := (Psp.num a0.toNat).length) (by omega)).later hb2.size p
            rw [Nat.mul_one, ← List.map_take] at this; exact this
          have R2 : Hid (∀ p : Later w2, Rd p.W p.W.heap.size 1 (.slice (some ⟨g2, 0, none⟩) (Psp.num a0.toNat).length c2) (Psp.num a0.toNat).length (((Psp.num a1.toNat).take (Psp.num a0.toNat).length).map bv)) := Lib.hid fun p => by
            have := (r2.take (j := (Psp.num a0.toNat).length) (by omega)).later (Nat.le_refl _) p
            rw [Nat.mul_one, ← List.map_take] at this; exact this
          have hne2 := Lib.hid (show ((Psp.num a0.toNat).take (Psp.num a0.toNat).length) ≠ ((Psp.num a1.toNat).take (Psp.num a0.toNat).length) from by
            have := hap.out; rwa [Nat.min_eq_left (by omega)] at this)
          clear ho1 ho2 r1 r2
          go_wp2_with fail
          refine wp_region_later (by kernel_rfl) (by kernel_rfl) ?_
          repeat (first | go_big_quiet_step (first | (go_at_call 38; exact later_call _ (same_bytes_no _ _ _ _ _ _ _ (R1.out _) (R2.out _) hne2.out)) | (go_at_call 39; exact later_call _ (wakes1 _))) | quiet_step (first | (go_at_call 38; exact later_call _ (same_bytes_no _ _ _ _ _ _ _ (R1.out _) (R2.out _) hne2.out)) | (go_at_call 39; exact later_call _ (wakes1 _))))
          refine wpQuiet_nil ?_
          intro _ hw'
          obtain ⟨⟨w3, hb3⟩, hw'⟩ := hw'
          subst hw'
          go_wp2
          go_ret
          exact ⟨rfl, (hb1.trans (hb2.mono hb1.size)).trans (hb3.mono (Nat.le_trans hb1.size hb2.size))⟩
    · have hno : a1 < 0 ∨ 1099511627776 ≤ a1 := by omega
      have Hno := Lib.hid hno
      clear hno
      go_enter Try.func10, Try.ntmps10
      go_wp2_with fail
      refine (number_ok _ _ h0.1 h0.2).mono ?_
      rintro e w1 ⟨v1, rfl, ho1, hb1⟩
      go_wp2_with fail
      refine (number_no _ _ Hno.out).mono ?_
      rintro e w2 ⟨rfl, rfl⟩
      go_wp2_with fail
      refine (wakes1 _).mono ?_
      rintro e w3 ⟨rfl, hb3⟩
      go_wp2
      go_ret
      exact ⟨rfl, hb1.trans (hb3.mono hb1.size)⟩
  · have hno : a0 < 0 ∨ 1099511627776 ≤ a0 := by omega
    have Hno := Lib.hid hno
    clear hno
    by_cases h1 : 0 ≤ a1 ∧ a1 < 1099511627776
    · go_enter Try.func10, Try.ntmps10
      go_wp2_with fail
      refine (number_no _ _ Hno.out).mono ?_
      rintro e w2 ⟨rfl, rfl⟩
      go_wp2_with fail
      refine (number_ok _ _ h1.1 h1.2).mono ?_
      rintro e w1 ⟨v1, rfl, ho1, hb1⟩
      go_wp2_with fail
      refine (wakes1 _).mono ?_
      rintro e w3 ⟨rfl, hb3⟩
      go_wp2
      go_ret
      exact ⟨rfl, hb1.trans (hb3.mono hb1.size)⟩
    · have hno1 : a1 < 0 ∨ 1099511627776 ≤ a1 := by omega
      have Hno1 := Lib.hid hno1
      clear hno1
      go_enter Try.func10, Try.ntmps10
      go_wp2_with fail
      refine (number_no _ _ Hno.out).mono ?_
      rintro e w2 ⟨rfl, rfl⟩
      go_wp2_with fail
      refine (number_no _ _ Hno1.out).mono ?_
      rintro e w2 ⟨rfl, rfl⟩
      go_wp2_with fail
      refine (wakes1 _).mono ?_
      rintro e w3 ⟨rfl, hb3⟩
      go_wp2
      go_ret
      exact ⟨rfl, hb3⟩
end Go.Proofs.Ytekpnihdbfgcdaa.codeUnlike
