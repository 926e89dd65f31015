/- The walks of the small functions on integers: Within, may, Nodes, Quorum, Weak, Primary, Zig, Zag, and the references' own. Each returns what its plain function says, and leaves the world as it was. -/
import Derived.Test.YtekpnihdbfgcdaaProg
import Derived.Test.YtekpnihdbfgcdaaPlain
import Derived.Test.YtekpnihdbfgcdaaMem
import Derived.WalkKit
import Derived.WalkSpells
import Derived.Lib.Hide
namespace Go.Proofs.Ytekpnihdbfgcdaa
open Go.RowKit
set_option linter.unusedVariables false


theorem within_any (v n : Int) (w : World) (hv1 : -9223372036854775808 ≤ v) (hv2 : v ≤ 9223372036854775807) (hn1 : -9223372036854775808 ≤ n) (hn2 : n ≤ 9223372036854775807) :
    Calls Try.prog 20 #[.int .i64 v, .int .i64 n] w fun e w' => e = .returned (.int .i64 (Psp.within v n)) ∧ w = w' := by
  by_cases h1 : n < 1
  · go_enter Try.func20, Try.ntmps20
    go_wp2
    go_ret
    exact ⟨by simp [Psp.within, h1], rfl⟩
  · have hk2 : v.tmod n < n := Int.tmod_lt_of_pos v (by omega)
    have he : v.tmod n = if 0 ≤ v ∨ v % n = 0 then v % n else v % n - n := by
      rw [Int.tmod_eq_emod]
      split
      · rename_i h
        rw [if_pos (by rcases h with h | h; exact .inl h; exact .inr (Int.emod_eq_zero_of_dvd h))]; omega
      · rename_i h
        rw [if_neg (by intro hh; apply h; rcases hh with hh | hh; exact .inl hh; exact .inr (Int.dvd_of_emod_eq_zero hh))]
        rw [Int.natAbs_of_nonneg (by omega)]
    have hm1 := Int.emod_nonneg v (b := n) (by omega)
    have hm2 := Int.emod_lt_of_pos v (b := n) (by omega)
    have hk1 : -n < v.tmod n := by
      rw [he]
      split <;> omega
    by_cases h2 : v.tmod n < 0
    · have hf : v.tmod n + n = Psp.within v n := by
        unfold Psp.within
        rw [if_neg h1]
        rw [he] at h2 ⊢
        split at h2
        · omega
        · rename_i h; rw [if_neg h]; omega
      have Hf := Lib.hid hf
      clear hf he hm1 hm2
      go_enter Try.func20, Try.ntmps20
      go_wp2
      go_ret
      exact ⟨ret_int Hf.out, rfl⟩
    · have hf : v.tmod n = Psp.within v n := by
        unfold Psp.within
        rw [if_neg h1]
        rw [he] at h2 ⊢
        split
        · rfl
        · rename_i h; rw [if_neg h] at h2; omega
      have Hf := Lib.hid hf
      clear hf he hm1 hm2
      go_enter Try.func20, Try.ntmps20
      go_wp2
      go_ret
      exact ⟨ret_int Hf.out, rfl⟩

theorem may_any (f : Int) (w : World) : Calls Try.prog 53 #[.int .i64 f] w fun e w' => e = .returned (.bool (Psp.may f)) ∧ w = w' := by
  by_cases h1 : 1 ≤ f <;> by_cases h2 : f ≤ 4 <;>
  (have H := Lib.hid (show Psp.may f = Psp.may f from rfl)
   clear H
   go_enter Try.func53, Try.ntmps53
   go_wp2
   go_ret
   exact ⟨ret_bool (by simp [Psp.may]; omega), rfl⟩)

theorem b_nodes_any (f : Int) (w : World) : Calls Try.prog 21 #[.int .i64 f] w fun e w' => e = .returned (.int .i64 (Psp.nodes f)) ∧ w = w' := by
  by_cases h1 : 1 ≤ f
  · by_cases h2 : f ≤ 4
    · have H := Lib.hid (show 3 * f + 1 = Psp.nodes f by rw [Psp.nodes, if_pos ⟨h1, h2⟩])
      go_enter Try.func21, Try.ntmps21
      go_wp2
      go_ret
      exact ⟨ret_int H.out, rfl⟩
    · have H := Lib.hid (show 0 = Psp.nodes f by rw [Psp.nodes, if_neg (by omega)])
      go_enter Try.func21, Try.ntmps21
      go_wp2
      go_ret
      exact ⟨ret_int H.out, rfl⟩
  · have H := Lib.hid (show 0 = Psp.nodes f by rw [Psp.nodes, if_neg (by omega)])
    go_enter Try.func21, Try.ntmps21
    go_wp2
    go_ret
    exact ⟨ret_int H.out, rfl⟩


theorem b_quorum_any (f : Int) (w : World) : Calls Try.prog 25 #[.int .i64 f] w fun e w' => e = .returned (.int .i64 (Psp.quorum f)) ∧ w = w' := by
  by_cases h1 : 1 ≤ f
  · by_cases h2 : f ≤ 4
    · have H := Lib.hid (show 2 * f + 1 = Psp.quorum f by rw [Psp.quorum, if_pos ⟨h1, h2⟩])
      go_enter Try.func25, Try.ntmps25
      go_wp2
      go_ret
      exact ⟨ret_int H.out, rfl⟩
    · have H := Lib.hid (show 0 = Psp.quorum f by rw [Psp.quorum, if_neg (by omega)])
      go_enter Try.func25, Try.ntmps25
      go_wp2
      go_ret
      exact ⟨ret_int H.out, rfl⟩
  · have H := Lib.hid (show 0 = Psp.quorum f by rw [Psp.quorum, if_neg (by omega)])
    go_enter Try.func25, Try.ntmps25
    go_wp2
    go_ret
    exact ⟨ret_int H.out, rfl⟩


theorem b_weak_any (f : Int) (w : World) : Calls Try.prog 27 #[.int .i64 f] w fun e w' => e = .returned (.int .i64 (Psp.weak f)) ∧ w = w' := by
  by_cases h1 : 1 ≤ f
  · by_cases h2 : f ≤ 4
    · have H := Lib.hid (show f + 1 = Psp.weak f by rw [Psp.weak, if_pos ⟨h1, h2⟩])
      go_enter Try.func27, Try.ntmps27
      go_wp2
      go_ret
      exact ⟨ret_int H.out, rfl⟩
    · have H := Lib.hid (show 0 = Psp.weak f by rw [Psp.weak, if_neg (by omega)])
      go_enter Try.func27, Try.ntmps27
      go_wp2
      go_ret
      exact ⟨ret_int H.out, rfl⟩
  · have H := Lib.hid (show 0 = Psp.weak f by rw [Psp.weak, if_neg (by omega)])
    go_enter Try.func27, Try.ntmps27
    go_wp2
    go_ret
    exact ⟨ret_int H.out, rfl⟩


theorem r_nodes_any (f : Int) (w : World) : Calls Try.prog 24 #[.int .i64 f] w fun e w' => e = .returned (.int .i64 (Psp.nodes f)) ∧ w = w' := by
  by_cases h1 : 1 ≤ f
  · by_cases h2 : f ≤ 4
    · have H := Lib.hid (show 3 * f + 1 = Psp.nodes f by rw [Psp.nodes, if_pos ⟨h1, h2⟩])
      go_enter Try.func24, Try.ntmps24
      go_wp2
      go_ret
      exact ⟨ret_int H.out, rfl⟩
    · have H := Lib.hid (show 0 = Psp.nodes f by rw [Psp.nodes, if_neg (by omega)])
      go_enter Try.func24, Try.ntmps24
      go_wp2
      go_ret
      exact ⟨ret_int H.out, rfl⟩
  · have H := Lib.hid (show 0 = Psp.nodes f by rw [Psp.nodes, if_neg (by omega)])
    go_enter Try.func24, Try.ntmps24
    go_wp2
    go_ret
    exact ⟨ret_int H.out, rfl⟩


theorem r_quorum_any (f : Int) (w : World) : Calls Try.prog 26 #[.int .i64 f] w fun e w' => e = .returned (.int .i64 (Psp.quorum f)) ∧ w = w' := by
  by_cases h1 : 1 ≤ f
  · by_cases h2 : f ≤ 4
    · have H := Lib.hid (show 2 * f + 1 = Psp.quorum f by rw [Psp.quorum, if_pos ⟨h1, h2⟩])
      go_enter Try.func26, Try.ntmps26
      go_wp2
      go_ret
      exact ⟨ret_int H.out, rfl⟩
    · have H := Lib.hid (show 0 = Psp.quorum f by rw [Psp.quorum, if_neg (by omega)])
      go_enter Try.func26, Try.ntmps26
      go_wp2
      go_ret
      exact ⟨ret_int H.out, rfl⟩
  · have H := Lib.hid (show 0 = Psp.quorum f by rw [Psp.quorum, if_neg (by omega)])
    go_enter Try.func26, Try.ntmps26
    go_wp2
    go_ret
    exact ⟨ret_int H.out, rfl⟩


theorem r_weak_any (f : Int) (w : World) : Calls Try.prog 28 #[.int .i64 f] w fun e w' => e = .returned (.int .i64 (Psp.weak f)) ∧ w = w' := by
  by_cases h1 : 1 ≤ f
  · by_cases h2 : f ≤ 4
    · have H := Lib.hid (show f + 1 = Psp.weak f by rw [Psp.weak, if_pos ⟨h1, h2⟩])
      go_enter Try.func28, Try.ntmps28
      go_wp2
      go_ret
      exact ⟨ret_int H.out, rfl⟩
    · have H := Lib.hid (show 0 = Psp.weak f by rw [Psp.weak, if_neg (by omega)])
      go_enter Try.func28, Try.ntmps28
      go_wp2
      go_ret
      exact ⟨ret_int H.out, rfl⟩
  · have H := Lib.hid (show 0 = Psp.weak f by rw [Psp.weak, if_neg (by omega)])
    go_enter Try.func28, Try.ntmps28
    go_wp2
    go_ret
    exact ⟨ret_int H.out, rfl⟩


theorem b_primary_any (f view inst : Int) (w : World) (hv1 : -9223372036854775808 ≤ view) (hv2 : view ≤ 9223372036854775807) (hi1 : -9223372036854775808 ≤ inst) (hi2 : inst ≤ 9223372036854775807) :
    Calls Try.prog 22 #[.int .i64 f, .int .i64 view, .int .i64 inst] w fun e w' => e = .returned (.int .i64 (Psp.primary f view inst)) ∧ w = w' := by
  by_cases h1 : 1 ≤ f
  · by_cases h2 : f ≤ 4
    · by_cases h3 : 0 ≤ view
      · by_cases h4 : view ≤ 12
        · by_cases h5 : 0 ≤ inst
          · by_cases h6 : inst ≤ f
            · have H := Lib.hid (show (view + inst) % (3 * f + 1) = Psp.primary f view inst by rw [Psp.primary, if_pos ⟨h1, h2, h3, h4, h5, h6⟩])
              have hz : (3 * f + 1 == 0) = false := by rw [beq_eq_false_iff_ne]; omega
              go_enter Try.func22, Try.ntmps22
              go_wp2
              go_ret
              exact ⟨ret_int H.out, rfl⟩
            · have H := Lib.hid (show -1 = Psp.primary f view inst by rw [Psp.primary, if_neg (by omega)])
              go_enter Try.func22, Try.ntmps22
              go_wp2
              go_ret
              exact ⟨ret_int H.out, rfl⟩
          · have H := Lib.hid (show -1 = Psp.primary f view inst by rw [Psp.primary, if_neg (by omega)])
            go_enter Try.func22, Try.ntmps22
            go_wp2
            go_ret
            exact ⟨ret_int H.out, rfl⟩
        · have H := Lib.hid (show -1 = Psp.primary f view inst by rw [Psp.primary, if_neg (by omega)])
          go_enter Try.func22, Try.ntmps22
          go_wp2
          go_ret
          exact ⟨ret_int H.out, rfl⟩
      · have H := Lib.hid (show -1 = Psp.primary f view inst by rw [Psp.primary, if_neg (by omega)])
        go_enter Try.func22, Try.ntmps22
        go_wp2
        go_ret
        exact ⟨ret_int H.out, rfl⟩
    · have H := Lib.hid (show -1 = Psp.primary f view inst by rw [Psp.primary, if_neg (by omega)])
      go_enter Try.func22, Try.ntmps22
      go_wp2
      go_ret
      exact ⟨ret_int H.out, rfl⟩
  · have H := Lib.hid (show -1 = Psp.primary f view inst by rw [Psp.primary, if_neg (by omega)])
    go_enter Try.func22, Try.ntmps22
    go_wp2
    go_ret
    exact ⟨ret_int H.out, rfl⟩


theorem r_primary_any (f view inst : Int) (w : World) (hv1 : -9223372036854775808 ≤ view) (hv2 : view ≤ 9223372036854775807) (hi1 : -9223372036854775808 ≤ inst) (hi2 : inst ≤ 9223372036854775807) :
    Calls Try.prog 29 #[.int .i64 f, .int .i64 view, .int .i64 inst] w fun e w' => e = .returned (.int .i64 (Psp.primary f view inst)) ∧ w = w' := by
  by_cases h1 : 1 ≤ f
  · by_cases h2 : f ≤ 4
    · by_cases h3 : 0 ≤ view
      · by_cases h4 : view ≤ 12
        · by_cases h5 : 0 ≤ inst
          · by_cases h6 : inst ≤ f
            · have H := Lib.hid (show (view + inst) % (3 * f + 1) = Psp.primary f view inst by rw [Psp.primary, if_pos ⟨h1, h2, h3, h4, h5, h6⟩])
              have hz : (3 * f + 1 == 0) = false := by rw [beq_eq_false_iff_ne]; omega
              go_enter Try.func29, Try.ntmps29
              go_wp2
              go_ret
              exact ⟨ret_int H.out, rfl⟩
            · have H := Lib.hid (show -1 = Psp.primary f view inst by rw [Psp.primary, if_neg (by omega)])
              go_enter Try.func29, Try.ntmps29
              go_wp2
              go_ret
              exact ⟨ret_int H.out, rfl⟩
          · have H := Lib.hid (show -1 = Psp.primary f view inst by rw [Psp.primary, if_neg (by omega)])
            go_enter Try.func29, Try.ntmps29
            go_wp2
            go_ret
            exact ⟨ret_int H.out, rfl⟩
        · have H := Lib.hid (show -1 = Psp.primary f view inst by rw [Psp.primary, if_neg (by omega)])
          go_enter Try.func29, Try.ntmps29
          go_wp2
          go_ret
          exact ⟨ret_int H.out, rfl⟩
      · have H := Lib.hid (show -1 = Psp.primary f view inst by rw [Psp.primary, if_neg (by omega)])
        go_enter Try.func29, Try.ntmps29
        go_wp2
        go_ret
        exact ⟨ret_int H.out, rfl⟩
    · have H := Lib.hid (show -1 = Psp.primary f view inst by rw [Psp.primary, if_neg (by omega)])
      go_enter Try.func29, Try.ntmps29
      go_wp2
      go_ret
      exact ⟨ret_int H.out, rfl⟩
  · have H := Lib.hid (show -1 = Psp.primary f view inst by rw [Psp.primary, if_neg (by omega)])
    go_enter Try.func29, Try.ntmps29
    go_wp2
    go_ret
    exact ⟨ret_int H.out, rfl⟩


theorem zig_any (n : Int) (w : World) (h1 : -9223372036854775808 ≤ n) (h2 : n ≤ 9223372036854775807) :
    Calls Try.prog 45 #[.int .i64 n] w fun e w' => e = .returned (.int .i64 (Psp.zig n)) ∧ w = w' := by
  by_cases h3 : n < -549755813888
  · have H := Lib.hid (show 0 = Psp.zig n by rw [Psp.zig, if_pos (by omega)])
    go_enter Try.func45, Try.ntmps45
    go_wp2
    go_ret
    exact ⟨ret_int H.out, rfl⟩
  · by_cases h4 : 549755813888 ≤ n
    · have H := Lib.hid (show 0 = Psp.zig n by rw [Psp.zig, if_pos (by omega)])
      go_enter Try.func45, Try.ntmps45
      go_wp2
      go_ret
      exact ⟨ret_int H.out, rfl⟩
    · by_cases h5 : n < 0
      · have H := Lib.hid (show -2 * n - 1 = Psp.zig n by rw [Psp.zig, if_neg (by omega), if_pos h5])
        go_enter Try.func45, Try.ntmps45
        go_wp2
        go_ret
        exact ⟨ret_int H.out, rfl⟩
      · have H := Lib.hid (show 2 * n = Psp.zig n by rw [Psp.zig, if_neg (by omega), if_neg h5])
        go_enter Try.func45, Try.ntmps45
        go_wp2
        go_ret
        exact ⟨ret_int H.out, rfl⟩


theorem r_zig_any (n : Int) (w : World) (h1 : -9223372036854775808 ≤ n) (h2 : n ≤ 9223372036854775807) :
    Calls Try.prog 51 #[.int .i64 n] w fun e w' => e = .returned (.int .i64 (Psp.zig n)) ∧ w = w' := by
  by_cases h3 : n < -549755813888
  · have H := Lib.hid (show 0 = Psp.zig n by rw [Psp.zig, if_pos (by omega)])
    go_enter Try.func51, Try.ntmps51
    go_wp2
    go_ret
    exact ⟨ret_int H.out, rfl⟩
  · by_cases h4 : 549755813888 ≤ n
    · have H := Lib.hid (show 0 = Psp.zig n by rw [Psp.zig, if_pos (by omega)])
      go_enter Try.func51, Try.ntmps51
      go_wp2
      go_ret
      exact ⟨ret_int H.out, rfl⟩
    · by_cases h5 : n < 0
      · have H := Lib.hid (show -2 * n - 1 = Psp.zig n by rw [Psp.zig, if_neg (by omega), if_pos h5])
        go_enter Try.func51, Try.ntmps51
        go_wp2
        go_ret
        exact ⟨ret_int H.out, rfl⟩
      · have H := Lib.hid (show 2 * n = Psp.zig n by rw [Psp.zig, if_neg (by omega), if_neg h5])
        go_enter Try.func51, Try.ntmps51
        go_wp2
        go_ret
        exact ⟨ret_int H.out, rfl⟩


theorem zag_any (n : Int) (w : World) (h1 : -9223372036854775808 ≤ n) (h2 : n ≤ 9223372036854775807) :
    Calls Try.prog 46 #[.int .i64 n] w fun e w' => e = .returned (.int .i64 (Psp.zag n)) ∧ w = w' := by
  by_cases h3 : n < 0
  · have H := Lib.hid (show 0 = Psp.zag n by rw [Psp.zag, if_pos (by omega)])
    go_enter Try.func46, Try.ntmps46
    go_wp2
    go_ret
    exact ⟨ret_int H.out, rfl⟩
  · by_cases h4 : 1099511627776 ≤ n
    · have H := Lib.hid (show 0 = Psp.zag n by rw [Psp.zag, if_pos (by omega)])
      go_enter Try.func46, Try.ntmps46
      go_wp2
      go_ret
      exact ⟨ret_int H.out, rfl⟩
    · by_cases h5 : n % 2 = 1
      · have h6 : (n % 2 == 1) = true := by simpa using h5
        have H := Lib.hid (show wrap64 (-(n + 1).tdiv 2) = Psp.zag n by rw [Psp.zag, if_neg (by omega), if_pos h5, Int.tdiv_eq_ediv_of_nonneg (by omega)]; unfold wrap64; omega)
        clear h5
        go_enter Try.func46, Try.ntmps46
        go_wp2
        go_ret
        exact ⟨ret_int H.out, rfl⟩
      · have h6 : (n % 2 == 1) = false := by simpa using h5
        have H := Lib.hid (show n / 2 = Psp.zag n by rw [Psp.zag, if_neg (by omega), if_neg h5])
        clear h5
        go_enter Try.func46, Try.ntmps46
        go_wp2
        go_ret
        exact ⟨ret_int H.out, rfl⟩


theorem r_zag_any (n : Int) (w : World) (h1 : -9223372036854775808 ≤ n) (h2 : n ≤ 9223372036854775807) :
    Calls Try.prog 49 #[.int .i64 n] w fun e w' => e = .returned (.int .i64 (Psp.zag n)) ∧ w = w' := by
  by_cases h3 : n < 0
  · have H := Lib.hid (show 0 = Psp.zag n by rw [Psp.zag, if_pos (by omega)])
    go_enter Try.func49, Try.ntmps49
    go_wp2
    go_ret
    exact ⟨ret_int H.out, rfl⟩
  · by_cases h4 : 1099511627776 ≤ n
    · have H := Lib.hid (show 0 = Psp.zag n by rw [Psp.zag, if_pos (by omega)])
      go_enter Try.func49, Try.ntmps49
      go_wp2
      go_ret
      exact ⟨ret_int H.out, rfl⟩
    · by_cases h5 : n % 2 = 1
      · have h6 : (n % 2 == 1) = true := by simpa using h5
        have H := Lib.hid (show wrap64 (-(n + 1).tdiv 2) = Psp.zag n by rw [Psp.zag, if_neg (by omega), if_pos h5, Int.tdiv_eq_ediv_of_nonneg (by omega)]; unfold wrap64; omega)
        clear h5
        go_enter Try.func49, Try.ntmps49
        go_wp2
        go_ret
        exact ⟨ret_int H.out, rfl⟩
      · have h6 : (n % 2 == 1) = false := by simpa using h5
        have H := Lib.hid (show n / 2 = Psp.zag n by rw [Psp.zag, if_neg (by omega), if_neg h5])
        clear h5
        go_enter Try.func49, Try.ntmps49
        go_wp2
        go_ret
        exact ⟨ret_int H.out, rfl⟩


end Go.Proofs.Ytekpnihdbfgcdaa
