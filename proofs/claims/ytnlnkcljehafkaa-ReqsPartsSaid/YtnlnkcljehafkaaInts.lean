/- The walks of the small functions on integers: Within, may, Nodes, Quorum, Weak, Primary, Zig, Zag, and the references' own. Each returns what its plain function says, and leaves the world as it was. -/
import Derived.Test.YtnlnkcljehafkaaProg
import Derived.Test.YtnlnkcljehafkaaPlain
import Derived.Test.YtnlnkcljehafkaaMem
import Derived.WalkKit
import Derived.WalkSpells
import Derived.Lib.Hide
namespace Go.Proofs.Ytnlnkcljehafkaa
open Go.RowKit
set_option linter.unusedVariables false


theorem within_any (v n : Int) (w : World) (hv1 : -9223372036854775808 ≤ v) (hv2 : v ≤ 9223372036854775807) (hn1 : -9223372036854775808 ≤ n) (hn2 : n ≤ 9223372036854775807) :
    Calls Try.prog 19 #[.int .i64 v, .int .i64 n] w fun e w' => e = .returned (.int .i64 (Psp.within v n)) ∧ w = w' := by
  by_cases h1 : n < 1
  · go_enter Try.func19, Try.ntmps19
    go_wp2
    go_ret
    exact ⟨by simp [Psp.within, h1], rfl⟩
  · have hk2 : v.tmod n < n := Int.tmod_lt_of_pos v (by omega)
    have he : v.tmod n = if 0 ≤ v ∨ v % n = 0 then v % n else v % n - n := by
      rw [Int.tmod_eq_emod]
      split
      · rename_i h
        rw [if_pos (by rcases h with h | h; exact .inl h; exact .inr (Int.emod_eq_zero_of_dvd h))]; omega
      · rename_i h
        rw [if_neg (by intro hh; apply h; rcases hh with hh | hh; exact .inl hh; exact .inr (Int.dvd_of_emod_eq_zero hh))]
        rw [Int.natAbs_of_nonneg (by omega)]
    have hm1 := Int.emod_nonneg v (b := n) (by omega)
    have hm2 := Int.emod_lt_of_pos v (b := n) (by omega)
    have hk1 : -n < v.tmod n := by
      rw [he]
      split <;> omega
    by_cases h2 : v.tmod n < 0
    · have hf : v.tmod n + n = Psp.within v n := by
        unfold Psp.within
        rw [if_neg h1]
        rw [he] at h2 ⊢
        split at h2
        · omega
        · rename_i h; rw [if_neg h]; omega
      have Hf := Lib.hid hf
      clear hf he hm1 hm2
      go_enter Try.func19, Try.ntmps19
      go_wp2
      go_ret
      exact ⟨ret_int Hf.out, rfl⟩
    · have hf : v.tmod n = Psp.within v n := by
        unfold Psp.within
        rw [if_neg h1]
        rw [he] at h2 ⊢
        split
        · rfl
        · rename_i h; rw [if_neg h] at h2; omega
      have Hf := Lib.hid hf
      clear hf he hm1 hm2
      go_enter Try.func19, Try.ntmps19
      go_wp2
      go_ret
      exact ⟨ret_int Hf.out, rfl⟩


















theorem zig_any (n : Int) (w : World) (h1 : -9223372036854775808 ≤ n) (h2 : n ≤ 9223372036854775807) :
    Calls Try.prog 70 #[.int .i64 n] w fun e w' => e = .returned (.int .i64 (Psp.zig n)) ∧ w = w' := by
  by_cases h3 : n < -549755813888
  · have H := Lib.hid (show 0 = Psp.zig n by rw [Psp.zig, if_pos (by omega)])
    go_enter Try.func70, Try.ntmps70
    go_wp2
    go_ret
    exact ⟨ret_int H.out, rfl⟩
  · by_cases h4 : 549755813888 ≤ n
    · have H := Lib.hid (show 0 = Psp.zig n by rw [Psp.zig, if_pos (by omega)])
      go_enter Try.func70, Try.ntmps70
      go_wp2
      go_ret
      exact ⟨ret_int H.out, rfl⟩
    · by_cases h5 : n < 0
      · have H := Lib.hid (show -2 * n - 1 = Psp.zig n by rw [Psp.zig, if_neg (by omega), if_pos h5])
        go_enter Try.func70, Try.ntmps70
        go_wp2
        go_ret
        exact ⟨ret_int H.out, rfl⟩
      · have H := Lib.hid (show 2 * n = Psp.zig n by rw [Psp.zig, if_neg (by omega), if_neg h5])
        go_enter Try.func70, Try.ntmps70
        go_wp2
        go_ret
        exact ⟨ret_int H.out, rfl⟩


theorem r_zig_any (n : Int) (w : World) (h1 : -9223372036854775808 ≤ n) (h2 : n ≤ 9223372036854775807) :
    Calls Try.prog 66 #[.int .i64 n] w fun e w' => e = .returned (.int .i64 (Psp.zig n)) ∧ w = w' := by
  by_cases h3 : n < -549755813888
  · have H := Lib.hid (show 0 = Psp.zig n by rw [Psp.zig, if_pos (by omega)])
    go_enter Try.func66, Try.ntmps66
    go_wp2
    go_ret
    exact ⟨ret_int H.out, rfl⟩
  · by_cases h4 : 549755813888 ≤ n
    · have H := Lib.hid (show 0 = Psp.zig n by rw [Psp.zig, if_pos (by omega)])
      go_enter Try.func66, Try.ntmps66
      go_wp2
      go_ret
      exact ⟨ret_int H.out, rfl⟩
    · by_cases h5 : n < 0
      · have H := Lib.hid (show -2 * n - 1 = Psp.zig n by rw [Psp.zig, if_neg (by omega), if_pos h5])
        go_enter Try.func66, Try.ntmps66
        go_wp2
        go_ret
        exact ⟨ret_int H.out, rfl⟩
      · have H := Lib.hid (show 2 * n = Psp.zig n by rw [Psp.zig, if_neg (by omega), if_neg h5])
        go_enter Try.func66, Try.ntmps66
        go_wp2
        go_ret
        exact ⟨ret_int H.out, rfl⟩






end Go.Proofs.Ytnlnkcljehafkaa
