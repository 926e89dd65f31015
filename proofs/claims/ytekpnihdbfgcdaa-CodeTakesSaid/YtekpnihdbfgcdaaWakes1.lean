/- The walk of chapter 1's examples. -/
import Derived.Test.YtekpnihdbfgcdaaCode2
import Derived.Test.YtekpnihdbfgcdaaSame
namespace Go.Proofs.Ytekpnihdbfgcdaa
open Go.RowKit
set_option linter.unusedVariables false

theorem num_300 : Psp.num 300 = [172, 2] := by
  rw [Psp.num_big (by omega), Psp.num_small (by omega)]; rfl

/-- A literal of bytes in a block of its own reads as these bytes. -/
theorem Rd.bytes (w : World) (g e : Nat) (l : List UInt8) (n : Nat) (hg : g = w.heap.size) (hn : l.length = n) (hm : n ≤ maxLen) :
    Rd (w.alloc (.cells (l.map bv).toArray e)) (w.alloc (.cells (l.map bv).toArray e)).heap.size 1 (.slice (some ⟨g, 0, none⟩) n n) n (l.map bv) := by
  subst hg
  refine ⟨by simpa using hn, _, n, rfl, Nat.le_refl _, hm, fun _ => ⟨w.heap.size, 0, rfl, by simp, fun j u hu => ?_⟩⟩
  rw [Nat.zero_add, cell_of_row _ w.heap.size j _ e (0, 0) (heap_alloc_new w _)]
  simpa using hu

theorem take_128 : takeAt [128, 0] 0 = none := by
  simp [takeAt, Psp.take, Psp.takeA]

theorem wakes1 (w : World) : Calls Try.prog 39 #[] w fun e w' => e = .returned (.bool true) ∧ Below w.heap.size w w' := by
  go_enter Try.func39, Try.ntmps39
  go_wp2_with fail
  refine (number_ok _ _ (by omega) (by omega)).mono ?_
  rintro e w1 ⟨v, rfl, hown, hbel⟩
  rw [show (300 : Int).toNat = 300 from rfl, num_300] at hown
  have hs := hbel.size
  go_wp2_with fail
  refine (taken_no _ _ _ _ _ (by exact Rd.bytes w1 _ 5 [128, 0] 2 rfl rfl (by decide)) (by omega) (by omega) take_128).mono ?_
  rintro e w2 ⟨rfl, rfl⟩
  go_wp2_with fail
  have h1 : ((w1.alloc (.cells #[.int .u8 128, .int .u8 0] 5)).alloc (.cells #[.int .u8 172, .int .u8 2] 5)).ownsRow w.heap.size 5 1 v 2 ([172, 2].map bv) := (hown.alloc _).alloc _
  refine (same_bytes _ _ _ _ [172, 2] [172, 2] _ (Rd.of_own h1) (by exact Rd.bytes (w1.alloc _) _ 5 [172, 2] 2 (by simp) rfl (by decide))).mono ?_
  rintro e w3 ⟨rfl, q, rfl⟩
  go_wp2_with fail
  refine (zig_any _ _ (by omega) (by omega)).mono ?_
  rintro e w3 ⟨rfl, rfl⟩
  go_wp2
  go_ret
  refine ⟨?_, below_drewN (((hbel.alloc (by omega) _)).alloc (by simp; omega) _) _⟩
  simp [Psp.zig]
end Go.Proofs.Ytekpnihdbfgcdaa
