/- The walks of the small functions on integers: Within, may, Nodes, Quorum, Weak, Primary, Zig, Zag, and the references' own. Each returns what its plain function says, and leaves the world as it was. -/
import Derived.Test.YtmbdailffhdonaaProg
import Derived.Test.YtmbdailffhdonaaPlain
import Derived.Test.YtmbdailffhdonaaMem
import Derived.WalkKit
import Derived.WalkSpells
import Derived.Lib.Hide
namespace Go.Proofs.Ytmbdailffhdonaa
open Go.RowKit
set_option linter.unusedVariables false


theorem within_any (v n : Int) (w : World) (hv1 : -9223372036854775808 ≤ v) (hv2 : v ≤ 9223372036854775807) (hn1 : -9223372036854775808 ≤ n) (hn2 : n ≤ 9223372036854775807) :
    Calls Try.prog 9 #[.int .i64 v, .int .i64 n] w fun e w' => e = .returned (.int .i64 (Psp.within v n)) ∧ w = w' := by
  by_cases h1 : n < 1
  · go_enter Try.func9, Try.ntmps9
    go_wp2
    go_ret
    exact ⟨by simp [Psp.within, h1], rfl⟩
  · have hk2 : v.tmod n < n := Int.tmod_lt_of_pos v (by omega)
    have he : v.tmod n = if 0 ≤ v ∨ v % n = 0 then v % n else v % n - n := by
      rw [Int.tmod_eq_emod]
      split
      · rename_i h
        rw [if_pos (by rcases h with h | h; exact .inl h; exact .inr (Int.emod_eq_zero_of_dvd h))]; omega
      · rename_i h
        rw [if_neg (by intro hh; apply h; rcases hh with hh | hh; exact .inl hh; exact .inr (Int.dvd_of_emod_eq_zero hh))]
        rw [Int.natAbs_of_nonneg (by omega)]
    have hm1 := Int.emod_nonneg v (b := n) (by omega)
    have hm2 := Int.emod_lt_of_pos v (b := n) (by omega)
    have hk1 : -n < v.tmod n := by
      rw [he]
      split <;> omega
    by_cases h2 : v.tmod n < 0
    · have hf : v.tmod n + n = Psp.within v n := by
        unfold Psp.within
        rw [if_neg h1]
        rw [he] at h2 ⊢
        split at h2
        · omega
        · rename_i h; rw [if_neg h]; omega
      have Hf := Lib.hid hf
      clear hf he hm1 hm2
      go_enter Try.func9, Try.ntmps9
      go_wp2
      go_ret
      exact ⟨ret_int Hf.out, rfl⟩
    · have hf : v.tmod n = Psp.within v n := by
        unfold Psp.within
        rw [if_neg h1]
        rw [he] at h2 ⊢
        split
        · rfl
        · rename_i h; rw [if_neg h] at h2; omega
      have Hf := Lib.hid hf
      clear hf he hm1 hm2
      go_enter Try.func9, Try.ntmps9
      go_wp2
      go_ret
      exact ⟨ret_int Hf.out, rfl⟩

theorem may_any (f : Int) (w : World) : Calls Try.prog 35 #[.int .i64 f] w fun e w' => e = .returned (.bool (Psp.may f)) ∧ w = w' := by
  by_cases h1 : 1 ≤ f <;> by_cases h2 : f ≤ 4 <;>
  (have H := Lib.hid (show Psp.may f = Psp.may f from rfl)
   clear H
   go_enter Try.func35, Try.ntmps35
   go_wp2
   go_ret
   exact ⟨ret_bool (by simp [Psp.may]; omega), rfl⟩)

theorem b_nodes_any (f : Int) (w : World) : Calls Try.prog 25 #[.int .i64 f] w fun e w' => e = .returned (.int .i64 (Psp.nodes f)) ∧ w = w' := by
  by_cases h1 : 1 ≤ f
  · by_cases h2 : f ≤ 4
    · have H := Lib.hid (show 3 * f + 1 = Psp.nodes f by rw [Psp.nodes, if_pos ⟨h1, h2⟩])
      go_enter Try.func25, Try.ntmps25
      go_wp2
      go_ret
      exact ⟨ret_int H.out, rfl⟩
    · have H := Lib.hid (show 0 = Psp.nodes f by rw [Psp.nodes, if_neg (by omega)])
      go_enter Try.func25, Try.ntmps25
      go_wp2
      go_ret
      exact ⟨ret_int H.out, rfl⟩
  · have H := Lib.hid (show 0 = Psp.nodes f by rw [Psp.nodes, if_neg (by omega)])
    go_enter Try.func25, Try.ntmps25
    go_wp2
    go_ret
    exact ⟨ret_int H.out, rfl⟩




theorem b_weak_any (f : Int) (w : World) : Calls Try.prog 29 #[.int .i64 f] w fun e w' => e = .returned (.int .i64 (Psp.weak f)) ∧ w = w' := by
  by_cases h1 : 1 ≤ f
  · by_cases h2 : f ≤ 4
    · have H := Lib.hid (show f + 1 = Psp.weak f by rw [Psp.weak, if_pos ⟨h1, h2⟩])
      go_enter Try.func29, Try.ntmps29
      go_wp2
      go_ret
      exact ⟨ret_int H.out, rfl⟩
    · have H := Lib.hid (show 0 = Psp.weak f by rw [Psp.weak, if_neg (by omega)])
      go_enter Try.func29, Try.ntmps29
      go_wp2
      go_ret
      exact ⟨ret_int H.out, rfl⟩
  · have H := Lib.hid (show 0 = Psp.weak f by rw [Psp.weak, if_neg (by omega)])
    go_enter Try.func29, Try.ntmps29
    go_wp2
    go_ret
    exact ⟨ret_int H.out, rfl⟩


theorem r_nodes_any (f : Int) (w : World) : Calls Try.prog 11 #[.int .i64 f] w fun e w' => e = .returned (.int .i64 (Psp.nodes f)) ∧ w = w' := by
  by_cases h1 : 1 ≤ f
  · by_cases h2 : f ≤ 4
    · have H := Lib.hid (show 3 * f + 1 = Psp.nodes f by rw [Psp.nodes, if_pos ⟨h1, h2⟩])
      go_enter Try.func11, Try.ntmps11
      go_wp2
      go_ret
      exact ⟨ret_int H.out, rfl⟩
    · have H := Lib.hid (show 0 = Psp.nodes f by rw [Psp.nodes, if_neg (by omega)])
      go_enter Try.func11, Try.ntmps11
      go_wp2
      go_ret
      exact ⟨ret_int H.out, rfl⟩
  · have H := Lib.hid (show 0 = Psp.nodes f by rw [Psp.nodes, if_neg (by omega)])
    go_enter Try.func11, Try.ntmps11
    go_wp2
    go_ret
    exact ⟨ret_int H.out, rfl⟩




theorem r_weak_any (f : Int) (w : World) : Calls Try.prog 41 #[.int .i64 f] w fun e w' => e = .returned (.int .i64 (Psp.weak f)) ∧ w = w' := by
  by_cases h1 : 1 ≤ f
  · by_cases h2 : f ≤ 4
    · have H := Lib.hid (show f + 1 = Psp.weak f by rw [Psp.weak, if_pos ⟨h1, h2⟩])
      go_enter Try.func41, Try.ntmps41
      go_wp2
      go_ret
      exact ⟨ret_int H.out, rfl⟩
    · have H := Lib.hid (show 0 = Psp.weak f by rw [Psp.weak, if_neg (by omega)])
      go_enter Try.func41, Try.ntmps41
      go_wp2
      go_ret
      exact ⟨ret_int H.out, rfl⟩
  · have H := Lib.hid (show 0 = Psp.weak f by rw [Psp.weak, if_neg (by omega)])
    go_enter Try.func41, Try.ntmps41
    go_wp2
    go_ret
    exact ⟨ret_int H.out, rfl⟩














end Go.Proofs.Ytmbdailffhdonaa
