/- The walks of the references' own Number and Take. -/
import Derived.Test.YtnlnkcljehafkaaCode2
namespace Go.Proofs.Ytnlnkcljehafkaa
open Go.RowKit
set_option linter.unusedVariables false

theorem r_num_next {N : Nat} {m : Int} {pre : List UInt8} {base : Nat} {w0 wr w' : World} {v' : Value} (h : ¬ m < 128) (hN : (Psp.num N).length ≤ 6) (hp : pre ++ Psp.num m.toNat = Psp.num N) (hb : Below base w0 wr)
    (ho : w'.ownsRow base 5 1 v' (pre.length + 1) (List.map bv pre ++ [Value.int .u8 (128 + m % 128)])) (hb' : Below base wr w') : NumInv N base w0 (m / 128) v' w' := by
  have h1 : ¬ m.toNat < 128 := by omega
  rw [Psp.num_big h1] at hp
  have h2 : (m / 128).toNat = m.toNat / 128 := by omega
  have he : Value.int .u8 (128 + m % 128) = bv (UInt8.ofNat (m.toNat % 128 + 128)) := by
    unfold bv
    rw [Psp.u8_toNat (by omega)]
    congr 1
    omega
  rw [he] at ho
  refine ⟨pre ++ [UInt8.ofNat (m.toNat % 128 + 128)], by rw [h2, ← hp]; simp, ?_, by simpa using ho, hb.trans hb'⟩
  have := congrArg List.length hp
  simp only [List.length_append, List.length_cons] at this
  have h3 := Psp.num_pos (m.toNat / 128)
  simp only [List.length_append, List.length_cons, List.length_nil]
  omega

theorem r_number_ok (x : Int) (w : World) (h0 : 0 ≤ x) (h1 : x < 1099511627776) :
    Calls Try.prog 65 #[.int .i64 x] w (NumOk w.heap.size w x.toNat) := by
  have hN6 := Psp.num_len6 (show x.toNat < 1099511627776 by omega)
  have hst : NumInv x.toNat w.heap.size w x (.slice none 0 0) w := ⟨[], rfl, by simp, World.ownsRow_nil _ _ _ _, Below.refl _ _⟩
  generalize x.toNat = N at *
  go_enter Try.func65, Try.ntmps65
  go_wp2
  go_loopw [0, 4] (fun n out wr => ∃ m : Int, n = .int .i64 m ∧ 0 ≤ m ∧ m < 1099511627776 ∧ NumInv N w.heap.size w m out wr) (fun n _ _ => (intOf n).toNat)
  case atStart => exact ⟨x, rfl, h0, h1, hst⟩
  case round =>
    obtain ⟨m, rfl, hm0, hm1, pre, hpre, hp6, hown, hbel⟩ := hrel
    have Hpre := Lib.hid hpre
    clear hpre hst
    have hsz := hbel.size
    by_cases hlt : m < 128
    · go_wp2_with (at_builtin; refine wpList_app1 bytesE rfl _ _ rfl w.heap.size u4 _ _ rfl hown _ rfl rfl (by simp [Value.oneCell']) (by omega) (by omega) hsz ?_; intro v' w' hown' _ hbel' _; clear hown)
      go_ret2
      exact num_end hm0 hlt Hpre.out hbel (by simpa using hown') hbel'
    · go_wp2_with (at_builtin; refine wpList_app1 bytesE rfl _ _ rfl w.heap.size u4 _ _ rfl hown _ rfl rfl (by simp [Value.oneCell']) (by omega) (by omega) hsz ?_; intro v' w' hown' _ hbel' _; clear hown)
      go_roundw
      case rel => exact ⟨_, rfl, by omega, by omega, r_num_next hlt hN6 Hpre.out hbel (by simpa using hown') hbel'⟩
      case measure => simp [intOf]; omega

theorem r_number_no (x : Int) (w : World) (h : x < 0 ∨ 1099511627776 ≤ x) :
    Calls Try.prog 65 #[.int .i64 x] w fun e w' => e = .returned (.tuple #[.slice none 0 0, .bool false]) ∧ w = w' := by
  by_cases h1 : x < 0
  · clear h
    go_enter Try.func65, Try.ntmps65
    go_wp2
    go_ret2
    exact ⟨rfl, rfl⟩
  · have h2 : 1099511627776 ≤ x := by omega
    clear h
    go_enter Try.func65, Try.ntmps65
    go_wp2
    go_ret2
    exact ⟨rfl, rfl⟩


theorem ref_step {n one p : Int} {k c : Nat} (h0 : 0 ≤ n) (hone : one = ((128 ^ k : Nat) : Int)) (hp : p = ((c : Int) % 128) * one) : n + p = ((n.toNat + c % 128 * 128 ^ k : Nat) : Int) := by
  subst hp
  subst hone
  have : ((c : Int) % 128) * ((128 ^ k : Nat) : Int) = ((c % 128 * 128 ^ k : Nat) : Int) := by
    rw [Int.natCast_mul, Int.natCast_emod]; rfl
  rw [this]
  omega

theorem ref_prod {one : Int} {k c : Nat} (hone : one = ((128 ^ k : Nat) : Int)) (hk : k < 6) : 0 ≤ ((c : Int) % 128) * one ∧ ((c : Int) % 128) * one ≤ 4398046511104 := by
  subst hone
  have h1 : ((c : Int) % 128) * ((128 ^ k : Nat) : Int) = ((c % 128 * 128 ^ k : Nat) : Int) := by
    rw [Int.natCast_mul, Int.natCast_emod]; rfl
  have h2 := Psp.pow_bd (k := k) (n := 0) (d := c % 128) (Nat.pow_pos (by omega)) (Nat.mod_lt _ (by omega))
  have h3 := Psp.pow_le6 (k := k + 1) (by omega)
  rw [h1]
  omega

end Go.Proofs.Ytnlnkcljehafkaa
