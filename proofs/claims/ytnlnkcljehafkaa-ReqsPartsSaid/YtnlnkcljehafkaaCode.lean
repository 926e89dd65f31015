/- The walks of package code and of the references' own codec. -/
import Derived.Test.YtnlnkcljehafkaaProg
import Derived.Test.YtnlnkcljehafkaaPlain
import Derived.Test.YtnlnkcljehafkaaLaws
import Derived.WalkKit
import Derived.WalkSpells
namespace Go.Proofs.Ytnlnkcljehafkaa
open Go.RowKit
set_option linter.unusedVariables false

theorem bytesE : Elem Try.prog 52 5 1 1 := ⟨Try.underlying52, by kernel_rfl, by decide⟩

/-- What the loop of Number keeps: what has been written, and what is still to write. -/
def NumInv (N : Nat) (B : Nat) (w0 : World) (m : Int) (out : Value) (w : World) : Prop :=
  ∃ (pre : List UInt8), pre ++ Psp.num m.toNat = Psp.num N ∧ pre.length ≤ 6 ∧ w.ownsRow B 5 1 out pre.length (pre.map bv) ∧ Below B w0 w

def NumOk (base : Nat) (w0 : World) (N : Nat) (e : Ending) (w : World) : Prop :=
  ∃ v, e = .returned (.tuple #[v, .bool true]) ∧ w.ownsRow base 5 1 v (Psp.num N).length ((Psp.num N).map bv) ∧ Below base w0 w

theorem num_end {N : Nat} {m : Int} {pre : List UInt8} {base : Nat} {w0 wr w' : World} {v' : Value} (h0 : 0 ≤ m) (h : m < 128) (hp : pre ++ Psp.num m.toNat = Psp.num N) (hb : Below base w0 wr)
    (ho : w'.ownsRow base 5 1 v' (pre.length + 1) (List.map bv pre ++ [Value.int .u8 m])) (hb' : Below base wr w') : NumOk base w0 N (.returned (.tuple #[v', .bool true])) w' := by
  refine ⟨v', rfl, ?_, hb.trans hb'⟩
  rw [Psp.num_small (by omega)] at hp
  have he : Value.int .u8 m = bv (UInt8.ofNat m.toNat) := by
    unfold bv
    rw [Psp.u8_toNat (by omega)]
    congr 1
    omega
  rw [he] at ho
  rw [← hp]
  simpa using ho

theorem num_next {N : Nat} {m : Int} {pre : List UInt8} {base : Nat} {w0 wr w' : World} {v' : Value} (h : ¬ m < 128) (hN : (Psp.num N).length ≤ 6) (hp : pre ++ Psp.num m.toNat = Psp.num N) (hb : Below base w0 wr)
    (ho : w'.ownsRow base 5 1 v' (pre.length + 1) (List.map bv pre ++ [Value.int .u8 (m % 128 + 128)])) (hb' : Below base wr w') : NumInv N base w0 (m / 128) v' w' := by
  have h1 : ¬ m.toNat < 128 := by omega
  rw [Psp.num_big h1] at hp
  have h2 : (m / 128).toNat = m.toNat / 128 := by omega
  have he : Value.int .u8 (m % 128 + 128) = bv (UInt8.ofNat (m.toNat % 128 + 128)) := by
    unfold bv
    rw [Psp.u8_toNat (by omega)]
    congr 1
    omega
  rw [he] at ho
  refine ⟨pre ++ [UInt8.ofNat (m.toNat % 128 + 128)], by rw [h2, ← hp]; simp, ?_, by simpa using ho, hb.trans hb'⟩
  have := congrArg List.length hp
  simp only [List.length_append, List.length_cons] at this
  have h3 := Psp.num_pos (m.toNat / 128)
  simp only [List.length_append, List.length_cons, List.length_nil]
  omega

theorem number_ok (x : Int) (w : World) (h0 : 0 ≤ x) (h1 : x < 1099511627776) :
    Calls Try.prog 68 #[.int .i64 x] w (NumOk w.heap.size w x.toNat) := by
  have hN6 := Psp.num_len6 (show x.toNat < 1099511627776 by omega)
  have hst : NumInv x.toNat w.heap.size w x (.slice none 0 0) w := ⟨[], rfl, by simp, World.ownsRow_nil _ _ _ _, Below.refl _ _⟩
  generalize x.toNat = N at *
  go_enter Try.func68, Try.ntmps68
  go_wp2
  go_loopw [0, 4] (fun n out wr => ∃ m : Int, n = .int .i64 m ∧ 0 ≤ m ∧ m < 1099511627776 ∧ NumInv N w.heap.size w m out wr) (fun n _ _ => (intOf n).toNat)
  case atStart => exact ⟨x, rfl, h0, h1, hst⟩
  case round =>
    obtain ⟨m, rfl, hm0, hm1, pre, hpre, hp6, hown, hbel⟩ := hrel
    have Hpre := Lib.hid hpre
    clear hpre hst
    have hsz := hbel.size
    by_cases hlt : m < 128
    · go_wp2_with (at_builtin; refine wpList_app1 bytesE rfl _ _ rfl w.heap.size u4 _ _ rfl hown _ rfl rfl (by simp [Value.oneCell']) (by omega) (by omega) hsz ?_; intro v' w' hown' _ hbel' _; clear hown)
      go_ret2
      exact num_end hm0 hlt Hpre.out hbel (by simpa using hown') hbel'
    · go_wp2_with (at_builtin; refine wpList_app1 bytesE rfl _ _ rfl w.heap.size u4 _ _ rfl hown _ rfl rfl (by simp [Value.oneCell']) (by omega) (by omega) hsz ?_; intro v' w' hown' _ hbel' _; clear hown)
      go_roundw
      case rel => exact ⟨_, rfl, by omega, by omega, num_next hlt hN6 Hpre.out hbel (by simpa using hown') hbel'⟩
      case measure => simp [intOf]; omega

theorem number_no (x : Int) (w : World) (h : x < 0 ∨ 1099511627776 ≤ x) :
    Calls Try.prog 68 #[.int .i64 x] w fun e w' => e = .returned (.tuple #[.slice none 0 0, .bool false]) ∧ w = w' := by
  by_cases h1 : x < 0
  · clear h
    go_enter Try.func68, Try.ntmps68
    go_wp2
    go_ret2
    exact ⟨rfl, rfl⟩
  · have h2 : 1099511627776 ≤ x := by omega
    clear h
    go_enter Try.func68, Try.ntmps68
    go_wp2
    go_ret2
    exact ⟨rfl, rfl⟩

/-! ### TakeNumber -/
theorem bits_or (a b : Nat) (ha : a < 9223372036854775808) (hb : b < 9223372036854775808) : bits .or .i64 (a : Int) (b : Int) = ((a ||| b : Nat) : Int) := by
  have ho (x : Nat) (hx : x < 9223372036854775808) : (BitVec.ofInt 64 (x : Int)).toNat = x := by
    rw [BitVec.ofInt_natCast, BitVec.toNat_ofNat]; exact Nat.mod_eq_of_lt (by omega)
  have hx : a ||| b < 2 ^ 63 := Nat.or_lt_two_pow (by omega) (by omega)
  show IntKind.i64.wrap ((BitVec.ofInt 64 (a : Int) ||| BitVec.ofInt 64 (b : Int)).toNat : Int) = _
  rw [BitVec.toNat_or, ho a ha, ho b hb, IntKind.wrap_i64]
  omega

theorem or_group {n d k : Nat} (h : n < 128 ^ k) (hd : d < 128) (hk : k ≤ 5) : bits .or .i64 (n : Int) ((d * 128 ^ k : Nat) : Int) = ((n + d * 128 ^ k : Nat) : Int) := by
  have h1 := Psp.pow_le6 (k := k) (by omega)
  have h2 := Psp.pow_bd h hd
  have h3 := Psp.pow_le6 (k := k + 1) (by omega)
  rw [bits_or _ _ (by omega) (by omega)]
  have e : (128 : Nat) ^ k = 2 ^ (7 * k) := by rw [Nat.pow_mul]
  rw [e] at h ⊢
  have h4 := Nat.two_pow_add_eq_or_of_lt h d
  rw [Nat.mul_comm d, Nat.or_comm, ← h4]
  congr 1
  omega

/-- What holds where TakeNumber asks for one byte more: k have been taken, which are n. -/
def TakeInv (l : List UInt8) (at0 : Nat) (R : Option (Nat × Nat)) (k : Nat) (n : Int) : Prop :=
  0 ≤ n ∧ k ≤ 6 ∧ n.toNat < 128 ^ k ∧ Psp.takeA (6 - k) (l.drop (at0 + k)) n.toNat k = R

/-- What TakeNumber returns. -/
def TakeOut (at0 : Nat) (R : Option (Nat × Nat)) (e : Ending) : Prop :=
  match R with
  | none => e = .returned (.tuple #[.int .i64 0, .int .i64 0, .bool false])
  | some (v, m) => e = .returned (.tuple #[.int .i64 (v : Int), .int .i64 ((at0 : Int) + (m : Int)), .bool true])

theorem and127 (c : UInt8) : bits .and .u8 (c.toNat : Int) 127 = ((c.toNat % 128 : Nat) : Int) := by
  have h := c.toNat_lt
  have := u8_and_nat c.toNat 127 h (by omega)
  rw [show ((127 : Nat) : Int) = 127 from rfl] at this
  rw [this, show (127 : Nat) = 2 ^ 7 - 1 from rfl, Nat.and_two_pow_sub_one_eq_mod]

/-- What one byte more makes of n, in the walk's spelling. -/
theorem take_step {n : Int} {k : Nat} (c : UInt8) (h0 : 0 ≤ n) (hk : k ≤ 5) (hn : n.toNat < 128 ^ k) :
    bits .or .i64 n (wrap64 (wrap64 (bits .and .u8 (c.toNat : Int) 127) * 2 ^ (7 * k))) = ((n.toNat + c.toNat % 128 * 128 ^ k : Nat) : Int) := by
  have hd : c.toNat % 128 < 128 := Nat.mod_lt _ (by omega)
  have h1 := Psp.pow_le6 (k := k) (by omega)
  have h2 := Psp.pow_bd hn hd
  have h3 := Psp.pow_le6 (k := k + 1) (by omega)
  have hi : wrap64 ((c.toNat % 128 : Nat) : Int) = ((c.toNat % 128 : Nat) : Int) := IntWalk.wrap64_in _ (by omega)
  rw [and127, hi]
  have e : (((c.toNat % 128 : Nat) : Int) * 2 ^ (7 * k)) = ((c.toNat % 128 * 128 ^ k : Nat) : Int) := by
    rw [Int.natCast_mul, show (128 : Nat) ^ k = 2 ^ (7 * k) by rw [Nat.pow_mul]]
    simp
  rw [e, IntWalk.wrap64_in _ (by omega)]
  have := or_group hn hd hk
  rw [Int.toNat_of_nonneg h0] at this
  exact this

theorem take_next {l : List UInt8} {at0 k : Nat} {R : Option (Nat × Nat)} {n n2 : Int} {ch : UInt8} (hI : TakeInv l at0 R k n) (hk : k < 6) (hlt : at0 + k < l.length) (hc : l.getD (at0 + k) 0 = ch)
    (hn2 : n2 = ((n.toNat + ch.toNat % 128 * 128 ^ k : Nat) : Int)) (hb : (128 : Int) ≤ (ch.toNat : Int)) : TakeInv l at0 R (k + 1) n2 := by
  obtain ⟨h0, _, h1, h2⟩ := hI
  have hd : ch.toNat % 128 < 128 := Nat.mod_lt _ (by omega)
  have h3 := Psp.pow_bd h1 hd
  have e : n2.toNat = n.toNat + ch.toNat % 128 * 128 ^ k := by omega
  refine ⟨by omega, by omega, by rw [e]; exact h3, ?_⟩
  rw [e, ← h2, Psp.drop_cons hlt, hc, show 6 - k = (6 - (k + 1)) + 1 by omega, Psp.takeA_more (by omega), Nat.add_assoc at0 k 1]

theorem take_none {l : List UInt8} {at0 k : Nat} {R : Option (Nat × Nat)} {n : Int} (hI : TakeInv l at0 R k n) (h : l.length ≤ at0 + k ∨ 6 ≤ k) : R = none := by
  obtain ⟨h0, h3, h1, h2⟩ := hI
  rw [← h2]
  rcases h with h | h
  · rw [List.drop_eq_nil_of_le h, Psp.takeA_stop]
  · rw [show 6 - k = 0 by omega]; rfl

theorem take_fin {l : List UInt8} {at0 k : Nat} {R : Option (Nat × Nat)} {n n2 : Int} {ch : UInt8} (hI : TakeInv l at0 R k n) (hk : k < 6) (hlt : at0 + k < l.length) (hc : l.getD (at0 + k) 0 = ch)
    (hn2 : n2 = ((n.toNat + ch.toNat % 128 * 128 ^ k : Nat) : Int)) (hb : ¬ (128 : Int) ≤ (ch.toNat : Int)) :
    (((ch.toNat : Int) = 0 ∧ 1 ≤ k) ∨ 1099511627776 ≤ n2 → R = none) ∧ (¬ (((ch.toNat : Int) = 0 ∧ 1 ≤ k) ∨ 1099511627776 ≤ n2) → R = some (n2.toNat, k + 1)) := by
  obtain ⟨h0, _, h1, h2⟩ := hI
  have e : n2.toNat = n.toNat + ch.toNat % 128 * 128 ^ k := by omega
  rw [← h2, Psp.drop_cons hlt, hc, show 6 - k = (6 - (k + 1)) + 1 by omega]
  constructor
  · intro h
    exact Psp.takeA_bad (by omega) (by omega)
  · intro h
    rw [e]
    exact Psp.takeA_good (by omega) (by omega)

theorem take_ret {at0 k : Nat} {R : Option (Nat × Nat)} {n2 : Int} (h : R = some (n2.toNat, k + 1)) (h0 : 0 ≤ n2) :
    TakeOut at0 R (.returned (.tuple #[.int .i64 n2, .int .i64 ((at0 : Int) + (k : Int) + 1), .bool true])) := by
  subst h
  simp only [TakeOut]
  rw [Int.toNat_of_nonneg h0]
  congr 5

end Go.Proofs.Ytnlnkcljehafkaa
