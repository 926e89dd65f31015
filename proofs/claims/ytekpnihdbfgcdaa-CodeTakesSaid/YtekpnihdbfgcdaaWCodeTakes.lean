/- The walk of the law CodeTakes. -/
import Derived.Test.YtekpnihdbfgcdaaWakes1
import Derived.Test.YtekpnihdbfgcdaaOpen
import Derived.Test.YtekpnihdbfgcdaaOwn
import Derived.Test.YtekpnihdbfgcdaaRef1
namespace Go.Proofs.Ytekpnihdbfgcdaa.codeTakes
open Go.RowKit
set_option linter.unusedVariables false

theorem take_is {l : List UInt8} {a : Int} {v m : Nat} (h : takeAt l a = some (v, m)) : (l.drop a.toNat).take m = Psp.num v := by
  unfold takeAt at h
  split at h
  · cases h
  · obtain ⟨_, rfl, r, hr⟩ := Psp.take_some h
    rw [hr, List.take_left]

/-- The law where the bytes are a number: behind its first cut they are l. -/
theorem core_yes (b o len0 len c at0 : Nat) (l : List UInt8) (N m : Nat) (w : World) (hcase : (200 < len0 ∧ len = 200) ∨ (len0 ≤ 200 ∧ len0 = len)) (hc0 : len0 ≤ c) (hr : Rd w w.heap.size 1 (.slice (some ⟨b, o, none⟩) len c) len (l.map bv))
    (hb : b < w.heap.size) (hl : Lies w b o (l.map bv)) (hlen : l.length = len) (h : takeAt l (at0 : Int) = some (N, m)) :
    Calls Try.prog 16 #[.slice (some ⟨b, o, none⟩) len0 c, .int .i64 (at0 : Int)] w fun e w' => e = .returned (.bool true) ∧ Below w.heap.size w w' := by
  have hbd := takeAt_bd h
  obtain ⟨_, hN, hm1, hml⟩ := hbd
  have his := take_is h
  rw [Int.toNat_natCast] at his
  have hml' : at0 + m ≤ len := by omega
  obtain ⟨hc1, hc2⟩ := hr.cap
  have hg := Psp.zag_bd (N : Int)
  obtain ⟨hg1, hg2⟩ := hg
  have H := Lib.hid h
  have Hr := Lib.hid hr
  have RS : Hid (Rd w w.heap.size 1 (.slice (some ⟨b, o + at0, none⟩) m (c - at0)) m ((Psp.num N).map bv)) := by
    refine Lib.hid ⟨?_, _, _, rfl, by omega, by unfold maxLen; omega, fun _ => ⟨b, o + at0, rfl, hb, ?_⟩⟩
    · rw [← his]; simp; omega
    · rw [← his]
      have h1 := (hl.drop at0).take m
      rwa [← List.map_drop, ← List.map_take] at h1
  have h200 : len ≤ 200 := by omega
  clear h hr hl his hlen hml
  rcases hcase with ⟨h1, rfl⟩ | ⟨h1, rfl⟩
  all_goals
    go_enter Try.func16, Try.ntmps16
    go_wp2_with (first | (go_at_call 41; refine (taken_yes _ _ _ _ N m _ Hr.out (by omega) H.out).mono ?_; rintro e w' ⟨rfl, rfl⟩) | (go_at_call 47; refine (r_taken_yes _ _ _ _ N m _ Hr.out (by omega) H.out).mono ?_; rintro e w' ⟨rfl, rfl⟩) | fail)
    refine (number_ok _ _ (by omega) (by omega)).mono ?_
    rintro e w1 ⟨v1, rfl, ho1, hb1⟩
    rw [Int.toNat_natCast] at ho1
    have hs1 := hb1.size
    have O1 := Lib.hid (Rd.of_own ho1)
    have RS1 := Lib.hid ((RS.out.below hb1).more hs1)
    clear ho1
    go_wp2_with fail
    refine (same_bytes_yes _ _ _ _ _ _ _ O1.out RS1.out rfl).mono ?_
    rintro e w2 ⟨rfl, hb2⟩
    have hs2 := hb2.size
    have R2 := Lib.hid ((Hr.out.below (hb1.trans (hb2.mono hs1))).more (Nat.le_trans hs1 hs2))
    go_wp2_with (first | (go_at_call 48; refine (takes_yes _ _ _ _ N m _ R2.out (by omega) H.out).mono ?_; rintro e w' ⟨rfl, rfl⟩) | (go_at_call 49; refine (r_zag_any _ _ (by omega) (by omega)).mono ?_; rintro e w' ⟨rfl, rfl⟩) | (go_at_call 39; refine (wakes1 _).mono ?_; rintro e w' ⟨rfl, hb⟩))
    go_ret
    exact ⟨rfl, (hb1.trans (hb2.mono hs1)).trans (hb.mono (by omega))⟩

theorem core_no (A : Option Addr) (len0 len c : Nat) (a : Int) (l : List UInt8) (w : World) (ha1 : -9223372036854775808 ≤ a) (ha2 : a ≤ 9223372036854775807) (hcase : (200 < len0 ∧ len = 200) ∨ (len0 ≤ 200 ∧ len0 = len)) (hc0 : len0 ≤ c) (hr : Rd w w.heap.size 1 (.slice A len c) len (l.map bv))
    (h : takeAt l a = none) :
    Calls Try.prog 16 #[.slice A len0 c, .int .i64 a] w fun e w' => e = .returned (.bool true) ∧ Below w.heap.size w w' := by
  obtain ⟨hc1, hc2⟩ := hr.cap
  have H := Lib.hid h
  have Hr := Lib.hid hr
  clear h hr
  rcases hcase with ⟨h1, rfl⟩ | ⟨h1, rfl⟩
  all_goals
    go_enter Try.func16, Try.ntmps16
    go_wp2_with (first | (go_at_call 41; refine (taken_no _ _ _ _ _ Hr.out ha1 ha2 H.out).mono ?_; rintro e w' ⟨rfl, rfl⟩) | (go_at_call 47; refine (r_taken_no _ _ _ _ _ Hr.out ha1 ha2 H.out).mono ?_; rintro e w' ⟨rfl, rfl⟩) | (go_at_call 48; refine (takes_no _ _ _ _ _ Hr.out ha1 ha2 H.out).mono ?_; rintro e w' ⟨rfl, rfl⟩) | (go_at_call 39; refine (wakes1 _).mono ?_; rintro e w' ⟨rfl, hb⟩))
    go_ret
    exact ⟨rfl, hb⟩

theorem walk (v : Value) (l : List UInt8) (a0 : Int) (w : World) (hr : Rd w w.heap.size 1 v l.length (l.flatMap fun n => [bv n])) (hl : ∀ n ∈ l, True) (b0 : isI64 a0) :
    Calls Try.prog 16 #[v, .int .i64 a0] w fun e w' => e = .returned (.bool true) ∧ Below w.heap.size w w' := by
  obtain ⟨b5, b6⟩ := b0
  rw [flat_one] at hr
  have hr0 := hr
  obtain ⟨hrl, A, c, rfl, hc1, hc2, hcell⟩ := hr
  obtain ⟨m, len, hm, hml, hcase⟩ : ∃ (m : List UInt8) (len : Nat), m = l.take len ∧ m.length = len ∧ ((200 < l.length ∧ len = 200) ∨ (l.length ≤ 200 ∧ l.length = len)) := by
    by_cases h : 200 < l.length
    · exact ⟨l.take 200, 200, rfl, by simp; omega, .inl ⟨h, rfl⟩⟩
    · exact ⟨l, l.length, by simp, rfl, .inr ⟨by omega, rfl⟩⟩
  have hle : len ≤ l.length := by omega
  have hr1 : Rd w w.heap.size 1 (.slice A len c) len (m.map bv) := by
    have := hr0.take (j := len) hle
    rwa [Nat.mul_one, ← List.map_take, ← hm] at this
  cases ht : takeAt m a0 with
  | none => exact core_no A l.length len c a0 m w b5 b6 hcase hc1 hr1 ht
  | some p =>
    obtain ⟨N, k⟩ := p
    have hbd := takeAt_bd ht
    obtain ⟨at0, rfl⟩ := Int.eq_ofNat_of_zero_le hbd.1
    obtain ⟨_, A', c', e1, _, _, hc'⟩ := hr1
    injection e1 with e1 _ _
    subst e1
    obtain ⟨b, o, rfl, hb, hlies⟩ := hc' (by omega)
    exact core_yes b o l.length len c at0 m N k w hcase hc1 (by exact ⟨by simpa using hml, _, _, rfl, by omega, hc2, fun _ => ⟨b, o, rfl, hb, hlies⟩⟩) hb hlies hml ht
end Go.Proofs.Ytekpnihdbfgcdaa.codeTakes
