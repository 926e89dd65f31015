/- The walk of the law CodeNumbers. -/
import Derived.Test.YtekpnihdbfgcdaaWakes1
import Derived.Test.YtekpnihdbfgcdaaOpen
import Derived.Test.YtekpnihdbfgcdaaOwn
import Derived.Test.YtekpnihdbfgcdaaRef1
namespace Go.Proofs.Ytekpnihdbfgcdaa.codeNumbers
open Go.RowKit
set_option linter.unusedVariables false

theorem taken_mid (m : List UInt8) {N : Nat} (h : N < 1099511627776) : takeAt (m ++ Psp.num N ++ m) ((m.length : Nat) : Int) = some (N, (Psp.num N).length) := by
  unfold takeAt
  rw [if_neg (by omega), Int.toNat_natCast, List.append_assoc, List.drop_left]
  exact Psp.take_num _ h

theorem rd_cat {w : World} {B n : Nat} {v : Value} {a b c : List UInt8} (h : Rd w B 1 v n ((a.map bv ++ b.map bv) ++ c.map bv)) : Rd w B 1 v n ((a ++ b ++ c).map bv) := by
  simpa using h

set_option maxHeartbeats 1000000 in
theorem walk (a0 : Int) (v : Value) (l : List UInt8) (w : World) (b0 : isI64 a0) (hr : Rd w w.heap.size 1 v l.length (l.flatMap fun n => [bv n])) (hl : ∀ n ∈ l, True) :
    Calls Try.prog 9 #[.int .i64 a0, v] w fun e w' => e = .returned (.bool true) ∧ Below w.heap.size w w' := by
  clear hl
  obtain ⟨b5, b6⟩ := b0
  rw [flat_one] at hr
  have hbd := hr.bd
  by_cases hlong : 200 < l.length
  · obtain ⟨hrl, A, c, rfl, hc1, hc2, hcell⟩ := hr
    have hr' : Rd w w.heap.size 1 (.slice A l.length c) l.length (l.map bv) := ⟨hrl, A, c, rfl, hc1, hc2, hcell⟩
    have R0 : Hid (Rd w w.heap.size 1 (.slice A 200 c) 200 ((l.take 200).map bv)) := Lib.hid (by
      have := hr'.take (j := 200) (by omega)
      rw [Nat.mul_one, ← List.map_take] at this; exact this)
    obtain ⟨hc3, hc4⟩ := hr'.cap
    have hl200 : (l.take 200).length = 200 := by simp; omega
    generalize l.take 200 = m at *
    generalize l.length = len at *
    clear hr' hcell hc1 hc2 hrl
    by_cases h0 : 0 ≤ a0
    · by_cases h1 : a0 < 1099511627776
      · have Hl200 := Lib.hid hl200
        clear hl200
        go_enter Try.func9, Try.ntmps9
        go_wp2_with fail
        refine (number_ok _ _ h0 h1).mono ?_
        rintro e w1 ⟨v1, rfl, ho1, hb1⟩
        go_wp2_with fail
        refine (r_number_ok _ _ h0 h1).mono ?_
        rintro e w2 ⟨v2, rfl, ho2, hb2⟩
        have n6 := Psp.num_len6 (show a0.toNat < 1099511627776 by omega)
        have htk := Lib.hid (by have := taken_mid m (show a0.toNat < 1099511627776 by omega); rw [Hl200.out] at this; exact this)
        have Hn : Hid (((a0.toNat : Nat) : Int) = a0) := Lib.hid (Int.toNat_of_nonneg h0)
        generalize a0.toNat = N at *
        obtain rfl : (N : Int) = a0 := Hn.out
        have hs1 := hb1.size
        have hs2 := hb2.size
        have O1 := Lib.hid (own_below ho1 hb2)
        have O2 := Lib.hid ho2
        obtain ⟨A1, c1, rfl, hc11, hc12, hxx⟩ := own_slice ho1
        clear hxx ho1 ho2
        go_wp2_with fail
        refine (same_bytes_yes _ _ _ _ _ _ _ (Rd.of_own O1.out) (Rd.of_own O2.out) rfl).mono ?_
        rintro e w3 ⟨rfl, hb3⟩
        have hs3 := hb3.size
        have b03 : Hid (Below w.heap.size w w3) := Lib.hid ((hb1.trans (hb2.mono hs1)).trans (hb3.mono (by omega)))
        have R3 : Hid (Rd w3 w3.heap.size 1 (.slice A 200 c) 200 (m.map bv)) := Lib.hid ((R0.out.below b03.out).more (by omega))
        have O3 := Lib.hid (own_below O1.out hb3)
        have hL : 200 ≤ 200 := by omega
        go_wp2_with fail
        refine (copy_bytes _ _ _ _ R3.out (by simp [bv, Value.oneCell']) (by omega)).mono ?_
        rintro e w4 ⟨v4, rfl, o4, hb4⟩
        have hs4 := hb4.size
        have R4 : Hid (Rd w4 w4.heap.size 1 (.slice A1 (Psp.num N).length c1) (Psp.num N).length ((Psp.num N).map bv)) := Lib.hid (Rd.of_own (own_below O3.out hb4))
        have O4 := Lib.hid o4
        clear o4
        go_wp2_with (first | (at_builtin; refine wpList_app bytesE rfl (.tmp 41) (.tmp 42) rfl w3.heap.size v4 _ _ rfl O4.out _ _ _ _ rfl R4.out (by simp [bv, Value.oneCell']) (by unfold maxLen; omega) (by omega) (by omega) ?_; intro v5 w5 o5 g5 _; have b5 := (Below.refl w3.heap.size w4).grown g5 (by omega) (own_lt O4.out); have hs5 := b5.size; have O5 := Lib.hid o5; have R5 : Hid (Rd w5 w5.heap.size 1 (.slice A 200 c) 200 (m.map bv)) := Lib.hid (((R3.out.below hb4).below b5).more (by omega)); clear o5 g5) | (at_builtin; refine wpList_app bytesE rfl (.tmp 43) (.tmp 44) rfl w3.heap.size v5 _ _ rfl O5.out _ _ _ _ rfl R5.out (by simp [bv, Value.oneCell']) (by unfold maxLen; omega) (by omega) (by omega) ?_; intro v6 w6 o6 g6 _; have b6 := (Below.refl w3.heap.size w5).grown g6 (by omega) (own_lt O5.out); have hs6 := b6.size; have R6 := Lib.hid (rd_cat (Rd.of_own o6)); clear o6 g6) | (go_at_call 41; refine (taken_yes _ _ _ _ N _ _ R6.out (by omega) htk.out).mono ?_; rintro e w' ⟨rfl, rfl⟩) | (go_at_call 39; refine (wakes1 _).mono ?_; rintro e w' ⟨rfl, hb⟩))
        go_ret
        exact ⟨rfl, (((b03.out.trans (hb4.mono (by omega))).trans (b5.mono (by omega))).trans (b6.mono (by omega))).trans (hb.mono (by omega))⟩
      · have Hno : Hid (a0 < 0 ∨ 1099511627776 ≤ a0) := Lib.hid (by omega)
        go_enter Try.func9, Try.ntmps9
        go_wp2_with (first | (go_at_call 36; refine (number_no _ _ Hno.out).mono ?_; rintro e w' ⟨rfl, rfl⟩) | (go_at_call 37; refine (r_number_no _ _ Hno.out).mono ?_; rintro e w' ⟨rfl, rfl⟩) | (go_at_call 38; refine (same_bytes_yes _ _ 0 0 [] [] _ Rd.none_ Rd.none_ rfl).mono ?_; rintro e w1 ⟨rfl, hb1⟩) | (go_at_call 39; refine (wakes1 _).mono ?_; rintro e w' ⟨rfl, hb⟩))
        go_ret
        exact ⟨rfl, hb1.trans (hb.mono hb1.size)⟩
    · have Hno : Hid (a0 < 0 ∨ 1099511627776 ≤ a0) := Lib.hid (by omega)
      go_enter Try.func9, Try.ntmps9
      go_wp2_with (first | (go_at_call 36; refine (number_no _ _ Hno.out).mono ?_; rintro e w' ⟨rfl, rfl⟩) | (go_at_call 37; refine (r_number_no _ _ Hno.out).mono ?_; rintro e w' ⟨rfl, rfl⟩) | (go_at_call 38; refine (same_bytes_yes _ _ 0 0 [] [] _ Rd.none_ Rd.none_ rfl).mono ?_; rintro e w1 ⟨rfl, hb1⟩) | (go_at_call 39; refine (wakes1 _).mono ?_; rintro e w' ⟨rfl, hb⟩))
      go_ret
      exact ⟨rfl, hb1.trans (hb.mono hb1.size)⟩
  · obtain ⟨hrl, A, c, rfl, hc1, hc2, hcell⟩ := hr
    have R0 : Hid (Rd w w.heap.size 1 (.slice A l.length c) l.length (l.map bv)) := Lib.hid ⟨hrl, A, c, rfl, hc1, hc2, hcell⟩
    clear hcell hc1 hc2 hrl
    obtain ⟨len, hlen⟩ : ∃ len, l.length = len := ⟨_, rfl⟩
    rw [hlen] at R0 hlong hbd ⊢
    have Hlen := Lib.hid hlen
    clear hlen
    by_cases h0 : 0 ≤ a0
    · by_cases h1 : a0 < 1099511627776
      · go_enter Try.func9, Try.ntmps9
        go_wp2_with fail
        refine (number_ok _ _ h0 h1).mono ?_
        rintro e w1 ⟨v1, rfl, ho1, hb1⟩
        go_wp2_with fail
        refine (r_number_ok _ _ h0 h1).mono ?_
        rintro e w2 ⟨v2, rfl, ho2, hb2⟩
        have n6 := Psp.num_len6 (show a0.toNat < 1099511627776 by omega)
        have htk := Lib.hid (by have := taken_mid l (show a0.toNat < 1099511627776 by omega); rw [Hlen.out] at this; exact this)
        have Hn : Hid (((a0.toNat : Nat) : Int) = a0) := Lib.hid (Int.toNat_of_nonneg h0)
        generalize a0.toNat = N at *
        obtain rfl : (N : Int) = a0 := Hn.out
        have hs1 := hb1.size
        have hs2 := hb2.size
        have O1 := Lib.hid (own_below ho1 hb2)
        have O2 := Lib.hid ho2
        obtain ⟨A1, c1, rfl, hc11, hc12, hxx⟩ := own_slice ho1
        clear hxx ho1 ho2
        go_wp2_with fail
        refine (same_bytes_yes _ _ _ _ _ _ _ (Rd.of_own O1.out) (Rd.of_own O2.out) rfl).mono ?_
        rintro e w3 ⟨rfl, hb3⟩
        have hs3 := hb3.size
        have b03 : Hid (Below w.heap.size w w3) := Lib.hid ((hb1.trans (hb2.mono hs1)).trans (hb3.mono (by omega)))
        have R3 : Hid (Rd w3 w3.heap.size 1 (.slice A len c) len (l.map bv)) := Lib.hid ((R0.out.below b03.out).more (by omega))
        have O3 := Lib.hid (own_below O1.out hb3)
        have hL : len ≤ 200 := by omega
        go_wp2_with fail
        refine (copy_bytes _ _ _ _ R3.out (by simp [bv, Value.oneCell']) (by omega)).mono ?_
        rintro e w4 ⟨v4, rfl, o4, hb4⟩
        have hs4 := hb4.size
        have R4 : Hid (Rd w4 w4.heap.size 1 (.slice A1 (Psp.num N).length c1) (Psp.num N).length ((Psp.num N).map bv)) := Lib.hid (Rd.of_own (own_below O3.out hb4))
        have O4 := Lib.hid o4
        clear o4
        go_wp2_with (first | (at_builtin; refine wpList_app bytesE rfl (.tmp 41) (.tmp 42) rfl w3.heap.size v4 _ _ rfl O4.out _ _ _ _ rfl R4.out (by simp [bv, Value.oneCell']) (by unfold maxLen; omega) (by omega) (by omega) ?_; intro v5 w5 o5 g5 _; have b5 := (Below.refl w3.heap.size w4).grown g5 (by omega) (own_lt O4.out); have hs5 := b5.size; have O5 := Lib.hid o5; have R5 : Hid (Rd w5 w5.heap.size 1 (.slice A len c) len (l.map bv)) := Lib.hid (((R3.out.below hb4).below b5).more (by omega)); clear o5 g5) | (at_builtin; refine wpList_app bytesE rfl (.tmp 43) (.tmp 44) rfl w3.heap.size v5 _ _ rfl O5.out _ _ _ _ rfl R5.out (by simp [bv, Value.oneCell']) (by unfold maxLen; omega) (by omega) (by omega) ?_; intro v6 w6 o6 g6 _; have b6 := (Below.refl w3.heap.size w5).grown g6 (by omega) (own_lt O5.out); have hs6 := b6.size; have R6 := Lib.hid (rd_cat (Rd.of_own o6)); clear o6 g6) | (go_at_call 41; refine (taken_yes _ _ _ _ N _ _ R6.out (by omega) htk.out).mono ?_; rintro e w' ⟨rfl, rfl⟩) | (go_at_call 39; refine (wakes1 _).mono ?_; rintro e w' ⟨rfl, hb⟩))
        go_ret
        exact ⟨rfl, (((b03.out.trans (hb4.mono (by omega))).trans (b5.mono (by omega))).trans (b6.mono (by omega))).trans (hb.mono (by omega))⟩
      · have Hno : Hid (a0 < 0 ∨ 1099511627776 ≤ a0) := Lib.hid (by omega)
        go_enter Try.func9, Try.ntmps9
        go_wp2_with (first | (go_at_call 36; refine (number_no _ _ Hno.out).mono ?_; rintro e w' ⟨rfl, rfl⟩) | (go_at_call 37; refine (r_number_no _ _ Hno.out).mono ?_; rintro e w' ⟨rfl, rfl⟩) | (go_at_call 38; refine (same_bytes_yes _ _ 0 0 [] [] _ Rd.none_ Rd.none_ rfl).mono ?_; rintro e w1 ⟨rfl, hb1⟩) | (go_at_call 39; refine (wakes1 _).mono ?_; rintro e w' ⟨rfl, hb⟩))
        go_ret
        exact ⟨rfl, hb1.trans (hb.mono hb1.size)⟩
    · have Hno : Hid (a0 < 0 ∨ 1099511627776 ≤ a0) := Lib.hid (by omega)
      go_enter Try.func9, Try.ntmps9
      go_wp2_with (first | (go_at_call 36; refine (number_no _ _ Hno.out).mono ?_; rintro e w' ⟨rfl, rfl⟩) | (go_at_call 37; refine (r_number_no _ _ Hno.out).mono ?_; rintro e w' ⟨rfl, rfl⟩) | (go_at_call 38; refine (same_bytes_yes _ _ 0 0 [] [] _ Rd.none_ Rd.none_ rfl).mono ?_; rintro e w1 ⟨rfl, hb1⟩) | (go_at_call 39; refine (wakes1 _).mono ?_; rintro e w' ⟨rfl, hb⟩))
      go_ret
      exact ⟨rfl, hb1.trans (hb.mono hb1.size)⟩
end Go.Proofs.Ytekpnihdbfgcdaa.codeNumbers
