/- Plain facts on numbers as bytes: how a number is written in groups of seven bits, and that reading takes back just what was written. No program in sight. -/
namespace Psp

/-- A number's bytes: the lowest group first, 128 added to all but the last. -/
def num (n : Nat) : List UInt8 := if n < 128 then [UInt8.ofNat n] else UInt8.ofNat (n % 128 + 128) :: num (n / 128)
termination_by n
decreasing_by omega

/-- Reading on: 'n' is what has been read, out of 'm' bytes; 'f' bytes more may come. -/
def takeA : (f : Nat) → (l : List UInt8) → (n m : Nat) → Option (Nat × Nat)
  | 0, _, _, _ => none
  | _ + 1, [], _, _ => none
  | f + 1, c :: r, n, m =>
    if 128 ≤ c.toNat then takeA f r (n + c.toNat % 128 * 128 ^ m) (m + 1)
    else if (c.toNat = 0 ∧ 1 ≤ m) ∨ 1099511627776 ≤ n + c.toNat % 128 * 128 ^ m then none
    else some (n + c.toNat % 128 * 128 ^ m, m + 1)

/-- The number at a list's beginning, and how many bytes it has. -/
def take (l : List UInt8) : Option (Nat × Nat) := takeA 6 l 0 0

theorem num_small {n : Nat} (h : n < 128) : num n = [UInt8.ofNat n] := by rw [num, if_pos h]
theorem num_big {n : Nat} (h : ¬ n < 128) : num n = UInt8.ofNat (n % 128 + 128) :: num (n / 128) := by rw [num, if_neg h]

theorem num_ne (n : Nat) : num n ≠ [] := by
  by_cases h : n < 128
  · rw [num_small h]; simp
  · rw [num_big h]; simp

theorem num_pos (n : Nat) : 1 ≤ (num n).length := by
  have := num_ne n
  cases h : num n with
  | nil => exact absurd h this
  | cons => simp

theorem u8_toNat {n : Nat} (h : n < 256) : (UInt8.ofNat n).toNat = n := by
  rw [UInt8.toNat_ofNat']; exact Nat.mod_eq_of_lt (by omega)

theorem num_len : ∀ (k n : Nat), n < 128 ^ (k + 1) → (num n).length ≤ k + 1
  | 0, n, h => by
    have h' : n < 128 := by simpa using h
    rw [num_small h']; simp
  | k + 1, n, h => by
    by_cases hs : n < 128
    · rw [num_small hs]; simp
    · rw [num_big hs]
      have hp : n < 128 * 128 ^ (k + 1) := by rw [Nat.pow_succ, Nat.mul_comm] at h; exact h
      have := num_len k (n / 128) (by omega)
      simp only [List.length_cons]; omega

theorem num_len6 {n : Nat} (h : n < 1099511627776) : (num n).length ≤ 6 :=
  num_len 5 n (by have : (128 : Nat) ^ (5 + 1) = 4398046511104 := by decide
                  omega)

theorem pow_step (m v : Nat) : (v % 128 + 128 * (v / 128)) * 128 ^ m = v % 128 * 128 ^ m + v / 128 * 128 ^ (m + 1) := by
  rw [Nat.add_mul, Nat.pow_succ]
  congr 1
  rw [Nat.mul_comm 128, Nat.mul_assoc, Nat.mul_comm 128]

theorem takeA_num (r : List UInt8) : ∀ (f v n m : Nat), (num v).length ≤ f → (v = 0 → m = 0) → n + v * 128 ^ m < 1099511627776 →
    takeA f (num v ++ r) n m = some (n + v * 128 ^ m, m + (num v).length)
  | 0, v, _, _, h, _, _ => by have := num_pos v; omega
  | f + 1, v, n, m, h, hz, hlt => by
    by_cases hs : v < 128
    · rw [num_small hs] at h ⊢
      have hv : (UInt8.ofNat v).toNat = v := u8_toNat (by omega)
      have hm : v % 128 = v := Nat.mod_eq_of_lt hs
      simp only [List.cons_append, List.nil_append, takeA, hv, hm, List.length_singleton]
      rw [if_neg (by omega), if_neg (by omega)]
    · rw [num_big hs] at h ⊢
      have hv : (UInt8.ofNat (v % 128 + 128)).toNat = v % 128 + 128 := u8_toNat (by omega)
      have hm : (v % 128 + 128) % 128 = v % 128 := by omega
      have hd : v % 128 + 128 * (v / 128) = v := by omega
      have hp := pow_step m v
      rw [hd] at hp
      simp only [List.length_cons] at h
      simp only [List.cons_append, takeA, hv, hm]
      rw [if_pos (by omega), takeA_num r f (v / 128) (n + v % 128 * 128 ^ m) (m + 1) (by omega) (by omega) (by omega)]
      simp only [List.length_cons, Option.some.injEq, Prod.mk.injEq]
      omega

theorem take_num (r : List UInt8) {n : Nat} (h : n < 1099511627776) : take (num n ++ r) = some (n, (num n).length) := by
  have := takeA_num r 6 n 0 0 (num_len6 h) (fun _ => rfl) (by simpa using h)
  simpa [take] using this

theorem takeA_some : ∀ (f : Nat) (l : List UInt8) (n m v k : Nat), takeA f l n m = some (v, k) →
    v < 1099511627776 ∧ ∃ x r, v = n + x * 128 ^ m ∧ k = m + (num x).length ∧ l = num x ++ r ∧ (x = 0 → m = 0)
  | 0, _, _, _, _, _, h => by simp [takeA] at h
  | f + 1, [], _, _, _, _, h => by simp [takeA] at h
  | f + 1, c :: r, n, m, v, k, h => by
    have hc : c.toNat < 256 := c.toNat_lt
    simp only [takeA] at h
    by_cases hb : 128 ≤ c.toNat
    · rw [if_pos hb] at h
      obtain ⟨hv, x, s, e1, e2, e3, e4⟩ := takeA_some f r _ _ v k h
      have hx : x ≠ 0 := fun hx => by have := e4 hx; omega
      refine ⟨hv, c.toNat % 128 + 128 * x, s, ?_, ?_, ?_, by omega⟩
      · have hp := pow_step m (c.toNat % 128 + 128 * x)
        have h1 : (c.toNat % 128 + 128 * x) % 128 = c.toNat % 128 := by omega
        have h2 : (c.toNat % 128 + 128 * x) / 128 = x := by omega
        rw [h1, h2] at hp
        rw [hp, e1]; omega
      · rw [num_big (by omega), List.length_cons]
        have h2 : (c.toNat % 128 + 128 * x) / 128 = x := by omega
        rw [h2, e2]; omega
      · rw [num_big (by omega)]
        have h1 : (c.toNat % 128 + 128 * x) % 128 + 128 = c.toNat := by omega
        have h2 : (c.toNat % 128 + 128 * x) / 128 = x := by omega
        rw [h1, h2, List.cons_append, ← e3, UInt8.ofNat_toNat]
    · rw [if_neg hb] at h
      split at h
      · cases h
      · rename_i hn
        simp only [Option.some.injEq, Prod.mk.injEq] at h
        obtain ⟨rfl, rfl⟩ := h
        have hm : c.toNat % 128 = c.toNat := by omega
        rw [hm] at hn ⊢
        refine ⟨by omega, c.toNat, r, rfl, ?_, ?_, by omega⟩
        · rw [num_small (by omega)]; simp
        · rw [num_small (by omega), UInt8.ofNat_toNat]; rfl

theorem take_some {l : List UInt8} {v k : Nat} (h : take l = some (v, k)) : v < 1099511627776 ∧ k = (num v).length ∧ ∃ r, l = num v ++ r := by
  obtain ⟨hv, x, r, e1, e2, e3, _⟩ := takeA_some 6 l 0 0 v k h
  obtain rfl : v = x := by simpa using e1
  exact ⟨hv, by omega, r, e3⟩

theorem take_bound {l : List UInt8} {v k : Nat} (h : take l = some (v, k)) : v < 1099511627776 ∧ 1 ≤ k ∧ k ≤ l.length := by
  obtain ⟨hv, rfl, r, rfl⟩ := take_some h
  exact ⟨hv, num_pos v, by simp⟩

theorem num_inj {a b : Nat} {r s : List UInt8} (ha : a < 1099511627776) (hb : b < 1099511627776) (h : num a ++ r = num b ++ s) : a = b ∧ r = s := by
  have h1 := take_num r ha
  rw [h, take_num s hb] at h1
  simp only [Option.some.injEq, Prod.mk.injEq] at h1
  obtain ⟨rfl, _⟩ := h1
  exact ⟨rfl, List.append_cancel_left h⟩

theorem take_cut {n j : Nat} (hn : n < 1099511627776) (hj : j < (num n).length) : take ((num n).take j) = none := by
  cases h : take ((num n).take j) with
  | none => rfl
  | some p =>
    obtain ⟨v, k⟩ := p
    obtain ⟨hv, _, r, hr⟩ := take_some h
    have e : num n ++ [] = num v ++ (r ++ (num n).drop j) := by
      rw [← List.append_assoc, ← hr, List.take_append_drop, List.append_nil]
    obtain ⟨rfl, _⟩ := num_inj hn hv e
    have := congrArg List.length hr
    simp only [List.length_take, List.length_append] at this
    omega

theorem take_nil : take [] = none := rfl

/-- All bytes but the last have their highest bit. -/
theorem num_bits : ∀ (k n : Nat), (num n).length = k → ∀ i, i < k → (128 ≤ ((num n).getD i 0).toNat ↔ i + 1 < k)
  | 0, n, h, i, hi => by omega
  | k + 1, n, h, i, hi => by
    by_cases hs : n < 128
    · rw [num_small hs] at h ⊢
      obtain rfl : k = 0 := by simpa using h.symm
      obtain rfl : i = 0 := by omega
      simp only [List.getD_cons_zero, u8_toNat (show n < 256 by omega)]
      omega
    · rw [num_big hs] at h ⊢
      have hk : (num (n / 128)).length = k := by simpa using h
      have hp := num_pos (n / 128)
      cases i with
      | zero =>
        simp only [List.getD_cons_zero, u8_toNat (show n % 128 + 128 < 256 by omega)]
        omega
      | succ i =>
        simp only [List.getD_cons_succ]
        rw [num_bits k (n / 128) hk i (by omega)]
        omega

/-! ### Reading on from a place -/
theorem takeA_stop {f : Nat} {n m : Nat} : takeA f [] n m = none := by cases f <;> rfl
theorem takeA_more {f : Nat} {c : UInt8} {r : List UInt8} {n m : Nat} (h : 128 ≤ c.toNat) : takeA (f + 1) (c :: r) n m = takeA f r (n + c.toNat % 128 * 128 ^ m) (m + 1) := by
  simp only [takeA]; rw [if_pos h]
theorem takeA_bad {f : Nat} {c : UInt8} {r : List UInt8} {n m : Nat} (h : ¬ 128 ≤ c.toNat) (hb : (c.toNat = 0 ∧ 1 ≤ m) ∨ 1099511627776 ≤ n + c.toNat % 128 * 128 ^ m) : takeA (f + 1) (c :: r) n m = none := by
  simp only [takeA]; rw [if_neg h, if_pos hb]
theorem takeA_good {f : Nat} {c : UInt8} {r : List UInt8} {n m : Nat} (h : ¬ 128 ≤ c.toNat) (hb : ¬ ((c.toNat = 0 ∧ 1 ≤ m) ∨ 1099511627776 ≤ n + c.toNat % 128 * 128 ^ m)) :
    takeA (f + 1) (c :: r) n m = some (n + c.toNat % 128 * 128 ^ m, m + 1) := by
  simp only [takeA]; rw [if_neg h, if_neg hb]

theorem drop_cons {l : List UInt8} {i : Nat} (h : i < l.length) : l.drop i = l.getD i 0 :: l.drop (i + 1) := by
  rw [List.drop_eq_getElem_cons h]
  simp [List.getD_eq_getElem?_getD, List.getElem?_eq_getElem h]

theorem pow_bd {k n d : Nat} (h : n < 128 ^ k) (hd : d < 128) : n + d * 128 ^ k < 128 ^ (k + 1) := by
  rw [Nat.pow_succ, Nat.mul_comm (128 ^ k) 128]
  have : d * 128 ^ k ≤ 127 * 128 ^ k := Nat.mul_le_mul_right _ (by omega)
  omega

theorem pow_le6 {k : Nat} (h : k ≤ 6) : 128 ^ k ≤ 4398046511104 := by
  have : (128 : Nat) ^ k ≤ 128 ^ 6 := Nat.pow_le_pow_right (by omega) h
  have e : (128 : Nat) ^ 6 = 4398046511104 := by decide
  omega

end Psp
