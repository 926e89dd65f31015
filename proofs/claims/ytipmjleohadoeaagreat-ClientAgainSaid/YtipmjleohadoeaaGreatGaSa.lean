/- Joined texts: Num Plain Mem Laws Ints Code Code2 Ref1. -/
import Derived.WalkKit
import Derived.Below
import Derived.Laws.OwnMore
import Derived.Deep.AppendLies
import Derived.Deep.Draws
import Derived.Maps.AppendAt
import Derived.Lib.Hide
import Derived.Test.YtipmjleohadoeaaGreatProg
import Derived.WalkSpells
section
/- Plain facts on numbers as bytes: how a number is written in groups of seven bits, and that reading takes back just what was written. No program in sight. -/
namespace Psp

/-- A number's bytes: the lowest group first, 128 added to all but the last. -/
def num (n : Nat) : List UInt8 := if n < 128 then [UInt8.ofNat n] else UInt8.ofNat (n % 128 + 128) :: num (n / 128)
termination_by n
decreasing_by omega

/-- Reading on: 'n' is what has been read, out of 'm' bytes; 'f' bytes more may come. -/
def takeA : (f : Nat) → (l : List UInt8) → (n m : Nat) → Option (Nat × Nat)
  | 0, _, _, _ => none
  | _ + 1, [], _, _ => none
  | f + 1, c :: r, n, m =>
    if 128 ≤ c.toNat then takeA f r (n + c.toNat % 128 * 128 ^ m) (m + 1)
    else if (c.toNat = 0 ∧ 1 ≤ m) ∨ 1099511627776 ≤ n + c.toNat % 128 * 128 ^ m then none
    else some (n + c.toNat % 128 * 128 ^ m, m + 1)

/-- The number at a list's beginning, and how many bytes it has. -/
def take (l : List UInt8) : Option (Nat × Nat) := takeA 6 l 0 0

theorem num_small {n : Nat} (h : n < 128) : num n = [UInt8.ofNat n] := by rw [num, if_pos h]
theorem num_big {n : Nat} (h : ¬ n < 128) : num n = UInt8.ofNat (n % 128 + 128) :: num (n / 128) := by rw [num, if_neg h]

theorem num_ne (n : Nat) : num n ≠ [] := by
  by_cases h : n < 128
  · rw [num_small h]; simp
  · rw [num_big h]; simp

theorem num_pos (n : Nat) : 1 ≤ (num n).length := by
  have := num_ne n
  cases h : num n with
  | nil => exact absurd h this
  | cons => simp

theorem u8_toNat {n : Nat} (h : n < 256) : (UInt8.ofNat n).toNat = n := by
  rw [UInt8.toNat_ofNat']; exact Nat.mod_eq_of_lt (by omega)

theorem num_len : ∀ (k n : Nat), n < 128 ^ (k + 1) → (num n).length ≤ k + 1
  | 0, n, h => by
    have h' : n < 128 := by simpa using h
    rw [num_small h']; simp
  | k + 1, n, h => by
    by_cases hs : n < 128
    · rw [num_small hs]; simp
    · rw [num_big hs]
      have hp : n < 128 * 128 ^ (k + 1) := by rw [Nat.pow_succ, Nat.mul_comm] at h; exact h
      have := num_len k (n / 128) (by omega)
      simp only [List.length_cons]; omega

theorem num_len6 {n : Nat} (h : n < 1099511627776) : (num n).length ≤ 6 :=
  num_len 5 n (by have : (128 : Nat) ^ (5 + 1) = 4398046511104 := by decide
                  omega)

theorem pow_step (m v : Nat) : (v % 128 + 128 * (v / 128)) * 128 ^ m = v % 128 * 128 ^ m + v / 128 * 128 ^ (m + 1) := by
  rw [Nat.add_mul, Nat.pow_succ]
  congr 1
  rw [Nat.mul_comm 128, Nat.mul_assoc, Nat.mul_comm 128]

theorem takeA_num (r : List UInt8) : ∀ (f v n m : Nat), (num v).length ≤ f → (v = 0 → m = 0) → n + v * 128 ^ m < 1099511627776 →
    takeA f (num v ++ r) n m = some (n + v * 128 ^ m, m + (num v).length)
  | 0, v, _, _, h, _, _ => by have := num_pos v; omega
  | f + 1, v, n, m, h, hz, hlt => by
    by_cases hs : v < 128
    · rw [num_small hs] at h ⊢
      have hv : (UInt8.ofNat v).toNat = v := u8_toNat (by omega)
      have hm : v % 128 = v := Nat.mod_eq_of_lt hs
      simp only [List.cons_append, List.nil_append, takeA, hv, hm, List.length_singleton]
      rw [if_neg (by omega), if_neg (by omega)]
    · rw [num_big hs] at h ⊢
      have hv : (UInt8.ofNat (v % 128 + 128)).toNat = v % 128 + 128 := u8_toNat (by omega)
      have hm : (v % 128 + 128) % 128 = v % 128 := by omega
      have hd : v % 128 + 128 * (v / 128) = v := by omega
      have hp := pow_step m v
      rw [hd] at hp
      simp only [List.length_cons] at h
      simp only [List.cons_append, takeA, hv, hm]
      rw [if_pos (by omega), takeA_num r f (v / 128) (n + v % 128 * 128 ^ m) (m + 1) (by omega) (by omega) (by omega)]
      simp only [List.length_cons, Option.some.injEq, Prod.mk.injEq]
      omega

theorem take_num (r : List UInt8) {n : Nat} (h : n < 1099511627776) : take (num n ++ r) = some (n, (num n).length) := by
  have := takeA_num r 6 n 0 0 (num_len6 h) (fun _ => rfl) (by simpa using h)
  simpa [take] using this

theorem takeA_some : ∀ (f : Nat) (l : List UInt8) (n m v k : Nat), takeA f l n m = some (v, k) →
    v < 1099511627776 ∧ ∃ x r, v = n + x * 128 ^ m ∧ k = m + (num x).length ∧ l = num x ++ r ∧ (x = 0 → m = 0)
  | 0, _, _, _, _, _, h => by simp [takeA] at h
  | f + 1, [], _, _, _, _, h => by simp [takeA] at h
  | f + 1, c :: r, n, m, v, k, h => by
    have hc : c.toNat < 256 := c.toNat_lt
    simp only [takeA] at h
    by_cases hb : 128 ≤ c.toNat
    · rw [if_pos hb] at h
      obtain ⟨hv, x, s, e1, e2, e3, e4⟩ := takeA_some f r _ _ v k h
      have hx : x ≠ 0 := fun hx => by have := e4 hx; omega
      refine ⟨hv, c.toNat % 128 + 128 * x, s, ?_, ?_, ?_, by omega⟩
      · have hp := pow_step m (c.toNat % 128 + 128 * x)
        have h1 : (c.toNat % 128 + 128 * x) % 128 = c.toNat % 128 := by omega
        have h2 : (c.toNat % 128 + 128 * x) / 128 = x := by omega
        rw [h1, h2] at hp
        rw [hp, e1]; omega
      · rw [num_big (by omega), List.length_cons]
        have h2 : (c.toNat % 128 + 128 * x) / 128 = x := by omega
        rw [h2, e2]; omega
      · rw [num_big (by omega)]
        have h1 : (c.toNat % 128 + 128 * x) % 128 + 128 = c.toNat := by omega
        have h2 : (c.toNat % 128 + 128 * x) / 128 = x := by omega
        rw [h1, h2, List.cons_append, ← e3, UInt8.ofNat_toNat]
    · rw [if_neg hb] at h
      split at h
      · cases h
      · rename_i hn
        simp only [Option.some.injEq, Prod.mk.injEq] at h
        obtain ⟨rfl, rfl⟩ := h
        have hm : c.toNat % 128 = c.toNat := by omega
        rw [hm] at hn ⊢
        refine ⟨by omega, c.toNat, r, rfl, ?_, ?_, by omega⟩
        · rw [num_small (by omega)]; simp
        · rw [num_small (by omega), UInt8.ofNat_toNat]; rfl

theorem take_some {l : List UInt8} {v k : Nat} (h : take l = some (v, k)) : v < 1099511627776 ∧ k = (num v).length ∧ ∃ r, l = num v ++ r := by
  obtain ⟨hv, x, r, e1, e2, e3, _⟩ := takeA_some 6 l 0 0 v k h
  obtain rfl : v = x := by simpa using e1
  exact ⟨hv, by omega, r, e3⟩

theorem take_bound {l : List UInt8} {v k : Nat} (h : take l = some (v, k)) : v < 1099511627776 ∧ 1 ≤ k ∧ k ≤ l.length := by
  obtain ⟨hv, rfl, r, rfl⟩ := take_some h
  exact ⟨hv, num_pos v, by simp⟩

/-! ### Reading on from a place -/
theorem takeA_stop {f : Nat} {n m : Nat} : takeA f [] n m = none := by cases f <;> rfl
theorem takeA_more {f : Nat} {c : UInt8} {r : List UInt8} {n m : Nat} (h : 128 ≤ c.toNat) : takeA (f + 1) (c :: r) n m = takeA f r (n + c.toNat % 128 * 128 ^ m) (m + 1) := by
  simp only [takeA]; rw [if_pos h]
theorem takeA_bad {f : Nat} {c : UInt8} {r : List UInt8} {n m : Nat} (h : ¬ 128 ≤ c.toNat) (hb : (c.toNat = 0 ∧ 1 ≤ m) ∨ 1099511627776 ≤ n + c.toNat % 128 * 128 ^ m) : takeA (f + 1) (c :: r) n m = none := by
  simp only [takeA]; rw [if_neg h, if_pos hb]
theorem takeA_good {f : Nat} {c : UInt8} {r : List UInt8} {n m : Nat} (h : ¬ 128 ≤ c.toNat) (hb : ¬ ((c.toNat = 0 ∧ 1 ≤ m) ∨ 1099511627776 ≤ n + c.toNat % 128 * 128 ^ m)) :
    takeA (f + 1) (c :: r) n m = some (n + c.toNat % 128 * 128 ^ m, m + 1) := by
  simp only [takeA]; rw [if_neg h, if_neg hb]

theorem drop_cons {l : List UInt8} {i : Nat} (h : i < l.length) : l.drop i = l.getD i 0 :: l.drop (i + 1) := by
  rw [List.drop_eq_getElem_cons h]
  simp [List.getD_eq_getElem?_getD, List.getElem?_eq_getElem h]

theorem pow_bd {k n d : Nat} (h : n < 128 ^ k) (hd : d < 128) : n + d * 128 ^ k < 128 ^ (k + 1) := by
  rw [Nat.pow_succ, Nat.mul_comm (128 ^ k) 128]
  have : d * 128 ^ k ≤ 127 * 128 ^ k := Nat.mul_le_mul_right _ (by omega)
  omega

theorem pow_le6 {k : Nat} (h : k ≤ 6) : 128 ^ k ≤ 4398046511104 := by
  have : (128 : Nat) ^ k ≤ 128 ^ 6 := Nat.pow_le_pow_right (by omega) h
  have e : (128 : Nat) ^ 6 = 4398046511104 := by decide
  omega

end Psp

end

section
/- Plain functions on integers that the small functions of chapters 1 and 4 compute. No program in sight. -/
namespace Psp

/-- Any number as one from 0 to n - 1. -/
def within (v n : Int) : Int := if n < 1 then 0 else v % n

theorem within_lo (v n : Int) : 0 ≤ within v n := by
  unfold within
  split
  · omega
  · exact Int.emod_nonneg _ (by omega)

theorem within_hi (v n : Int) (h : 1 ≤ n) : within v n < n := by
  unfold within
  rw [if_neg (by omega)]
  exact Int.emod_lt_of_pos _ (by omega)

def may (f : Int) : Bool := decide (1 ≤ f) && decide (f ≤ 4)
def nodes (f : Int) : Int := if 1 ≤ f ∧ f ≤ 4 then 3 * f + 1 else 0
def quorum (f : Int) : Int := if 1 ≤ f ∧ f ≤ 4 then 2 * f + 1 else 0
def weak (f : Int) : Int := if 1 ≤ f ∧ f ≤ 4 then f + 1 else 0
def primary (f view inst : Int) : Int :=
  if 1 ≤ f ∧ f ≤ 4 ∧ 0 ≤ view ∧ view ≤ 12 ∧ 0 ≤ inst ∧ inst ≤ f then (view + inst) % (3 * f + 1) else -1

theorem nodes_bd (f : Int) : 0 ≤ nodes f ∧ nodes f ≤ 13 := by unfold nodes; split <;> omega
def zig (n : Int) : Int := if n < -549755813888 ∨ 549755813888 ≤ n then 0 else if n < 0 then -2 * n - 1 else 2 * n
def zag (n : Int) : Int := if n < 0 ∨ 1099511627776 ≤ n then 0 else if n % 2 = 1 then -((n + 1) / 2) else n / 2

theorem zig_bd (n : Int) : 0 ≤ zig n ∧ zig n < 1099511627776 := by unfold zig; split <;> (try split) <;> omega
theorem zag_bd (n : Int) : -549755813888 ≤ zag n ∧ zag n < 549755813888 := by unfold zag; split <;> (try split) <;> omega
theorem zag_zig {n : Int} (h0 : -549755813888 ≤ n) (h : n < 549755813888) : zag (zig n) = n := by
  unfold zig
  rw [if_neg (by omega)]
  split <;> unfold zag <;> rw [if_neg (by omega)] <;> split <;> omega
theorem zig_zag {n : Int} (h0 : 0 ≤ n) (h : n < 1099511627776) : zig (zag n) = n := by
  unfold zag
  rw [if_neg (by omega)]
  split <;> unfold zig <;> rw [if_neg (by omega)] <;> split <;> omega

end Psp

end

section
/- Words for memory: cells in a row; a slice value that reads as a list; a slice that the call owns. Plain facts on worlds, no function in sight. -/
namespace Go.Proofs.YtipmjleohadoeaaGreat
open Go.RowKit
set_option linter.unusedVariables false

theorem ret_int {k : IntKind} {a b : Int} (h : a = b) : Ending.returned (.int k a) = .returned (.int k b) := by rw [h]
theorem ret_bool {a b : Bool} (h : a = b) : Ending.returned (.bool a) = .returned (.bool b) := by rw [h]

/-- A byte as a cell. -/
def bv (c : UInt8) : Value := .int .u8 (c.toNat : Int)
/-- An int as a cell. -/
def iv (n : Int) : Value := .int .i64 n

/-- The cells xs lie in block b from o on. -/
def Lies (w : World) (b o : Nat) (xs : List Value) : Prop := ∀ j u, xs[j]? = some u → w.cell? ⟨b, o + j, none⟩ = some u

/-- The slice value v has n elements of k cells, which are xs and lie below block B. -/
def Rd (w : World) (B k : Nat) (v : Value) (n : Nat) (xs : List Value) : Prop :=
  xs.length = n * k ∧ ∃ A c, v = .slice A n c ∧ n ≤ c ∧ c ≤ maxLen ∧ (0 < n → ∃ b o, A = some ⟨b, o, none⟩ ∧ b < B ∧ Lies w b o xs)

theorem Lies.nil (w : World) (b o : Nat) : Lies w b o [] := by intro j u h; simp at h
theorem Lies.at_ {w : World} {b o : Nat} {xs : List Value} (h : Lies w b o xs) {j : Nat} (hj : j < xs.length) : w.cell? ⟨b, o + j, none⟩ = some xs[j] :=
  h j _ (List.getElem?_eq_getElem hj)
theorem Lies.keep {w w' : World} {b o : Nat} {xs : List Value} (h : Lies w b o xs) (hk : w'.heap[b]? = w.heap[b]?) : Lies w' b o xs :=
  fun j u hu => (World.cell?_of_block (w := w) (a := ⟨b, o + j, none⟩) hk).trans (h j u hu)
theorem Lies.drop {w : World} {b o : Nat} {xs : List Value} (h : Lies w b o xs) (k : Nat) : Lies w b (o + k) (xs.drop k) := by
  intro j u hu
  rw [List.getElem?_drop] at hu
  rw [Nat.add_assoc]
  exact h _ u hu
theorem Lies.take {w : World} {b o : Nat} {xs : List Value} (h : Lies w b o xs) (k : Nat) : Lies w b o (xs.take k) := by
  intro j u hu
  rw [List.getElem?_take] at hu
  split at hu
  · exact h _ u hu
  · cases hu

section
variable {w w' : World} {B B' k n : Nat} {v : Value} {xs : List Value}

theorem Rd.len (h : Rd w B k v n xs) : xs.length = n * k := h.1
theorem Rd.none_ : Rd w B k (.slice none 0 0) 0 [] := ⟨by simp, none, 0, rfl, Nat.le_refl _, Nat.zero_le _, fun h => absurd h (by omega)⟩
theorem Rd.bd (h : Rd w B k v n xs) : n ≤ 9223372036854775807 := by
  obtain ⟨_, A, c, _, h1, h2, _⟩ := h
  unfold maxLen at h2; omega
theorem Rd.keep (h : Rd w B k v n xs) (hk : ∀ b, b < B → w'.heap[b]? = w.heap[b]?) : Rd w' B k v n xs := by
  obtain ⟨h1, A, c, h2, h3, h4, h5⟩ := h
  refine ⟨h1, A, c, h2, h3, h4, fun hn => ?_⟩
  obtain ⟨b, o, e, hb, hl⟩ := h5 hn
  exact ⟨b, o, e, hb, hl.keep (hk b hb)⟩
theorem Rd.below (h : Rd w B k v n xs) (hb : Below B w w') : Rd w' B k v n xs := h.keep hb.block
theorem Rd.more (h : Rd w B k v n xs) (hB : B ≤ B') : Rd w B' k v n xs := by
  obtain ⟨h1, A, c, h2, h3, h4, h5⟩ := h
  refine ⟨h1, A, c, h2, h3, h4, fun hn => ?_⟩
  obtain ⟨b, o, e, hb, hl⟩ := h5 hn
  exact ⟨b, o, e, by omega, hl⟩
theorem Rd.of_own {base : Nat} {e : TypeId} (h : w.ownsRow base e k v n xs) : Rd w w.heap.size k v n xs := by
  refine ⟨h.1, ?_⟩
  rcases h.2 with ⟨rfl, rfl⟩ | ⟨g, cap, cur, rfl, hb, hg, hc, hm, hs, ht⟩
  · exact ⟨none, 0, rfl, Nat.le_refl _, Nat.zero_le _, fun hn => absurd hn (by omega)⟩
  · refine ⟨_, cap, rfl, hc, hm, fun hn => ⟨g, 0, rfl, (Array.getElem?_eq_some_iff.1 hg).1, fun j u hu => ?_⟩⟩
    have hj : j < n * k := by
      have := (List.getElem?_eq_some_iff.1 hu).1
      rw [h.1] at this; exact this
    rw [Nat.zero_add, cell_of_row w g j cur e (0, 0) hg]
    rw [← ht, List.getElem?_take, if_pos hj] at hu
    simpa using hu
end

theorem below_drewN {B : Nat} {a w : World} (h : Below B a w) (n : Nat) : Below B a (w.drewN n) := ⟨h.os, h.tape, h.output, h.size, h.block⟩

end Go.Proofs.YtipmjleohadoeaaGreat

end

section
/- Laws at the operation 'append', for the walk: one new element behind a slice that the call owns; a whole slice behind it. No function in sight. -/
namespace Go.Proofs.YtipmjleohadoeaaGreat
open Go.RowKit
set_option linter.unusedVariables false

/-- t is the type of slices of e, whose values have 'size' cells and 'bytes' bytes. -/
structure Elem (P : Program) (t e : TypeId) (size bytes : Nat) : Prop where
  under : P.underlying t = some (.slice e)
  info : (P.info? e).map (fun i => (i.zero.map (·.cells.size), i.size, i.bytes)) = some (some size, size, bytes)
  pos : 0 < size

theorem Elem.parts {P : Program} {t e : TypeId} {size bytes : Nat} (E : Elem P t e size bytes) :
    ∃ i z, P.info? e = some i ∧ i.zero = some z ∧ i.size = size ∧ i.bytes = bytes ∧ z.cells.size = size := by
  have h := E.info
  cases hi : P.info? e with
  | none => rw [hi] at h; simp at h
  | some i =>
    rw [hi] at h
    simp only [Option.map_some, Option.some.injEq, Prod.mk.injEq] at h
    obtain ⟨h1, h2, h3⟩ := h
    cases hz : i.zero with
    | none => rw [hz] at h1; simp at h1
    | some z => rw [hz] at h1; exact ⟨i, z, rfl, hz, h2, h3, by simpa using h1⟩

section
variable {P : Program} {t e : TypeId} {size bytes : Nat}

/-- append of a slice that is read, whatever it is, behind a slice that the call owns. -/
theorem run_app (E : Elem P t e size bytes) (w : World) (base : Nat) (ty : TypeId) (v : Value) (n : Nat) (xs : List Value) (hown : w.ownsRow base e size v n xs)
    (B : Nat) (y : Value) (m : Nat) (news : List Value) (hr : Rd w B size y m news) (h1 : ∀ u ∈ news, u.oneCell' = true)
    (h63 : n + m ≤ maxLen) (hbytes : (n + m) * bytes ≤ 140737488355328) (hbase : base ≤ w.heap.size) :
    ∃ v' w', (Builtin.append_ #[t, t] ty #[v, y]).run P w = .ok v' w' ∧ w'.ownsRow base e size v' (n + m) (xs ++ news) ∧ w.grownBy w' v.ownBlock ∧
      (v'.ownBlock = v.ownBlock ∨ v'.ownBlock = some w.heap.size) := by
  obtain ⟨i, z, hi, hz, hs, hb, hzs⟩ := E.parts
  have ht := E.under
  obtain ⟨hl, A, c, rfl, hc, hm, hcell⟩ := hr
  cases A with
  | none =>
    have hm0 : m = 0 := by
      rcases Nat.eq_zero_or_pos m with h | h
      · exact h
      · obtain ⟨_, _, h', _⟩ := hcell h
        cases h'
    subst hm0
    have hn : news = [] := List.eq_nil_of_length_eq_zero (by simpa using hl)
    subst hn
    refine ⟨v, w, ?_, by simpa using hown, World.grownBy.refl w _, .inl rfl⟩
    rcases hown.2 with ⟨rfl, rfl⟩ | ⟨g, cap, cur, rfl, _, _, hnc, _⟩
    · simp [Builtin.append_, run_underlying ht, sizeOf, typeInfo, hi, Builtin.lenOf, Builtin.firstCells]
    · simp [Builtin.append_, run_underlying ht, sizeOf, typeInfo, hi, Builtin.lenOf, Builtin.firstCells, hnc, storeCells]
  | some ad =>
    have hcells : ∀ j u, news[j]? = some u → w.cell? (ad.add j) = some u := by
      intro j u hu
      rcases Nat.eq_zero_or_pos m with h0 | h0
      · subst h0
        have hn : news = [] := List.eq_nil_of_length_eq_zero (by simpa using hl)
        subst hn
        simp at hu
      · obtain ⟨b, o, h, _, hcl⟩ := hcell h0
        injection h with h
        subst h
        have := hcl j u hu
        unfold Addr.add
        split
        · rename_i hj; subst hj; simpa using this
        · exact this
    obtain ⟨v', w', h2, h3, h4, _, h5⟩ := run_append_own_at (P := P) w base t ty e i z size bytes ht hi hz hs hb hzs E.pos v n xs hown ad m c news hl hcells h1 h63 hbytes hbase
    exact ⟨v', w', h2, h3, h4, h5⟩

theorem wp_app (E : Elem P t e size bytes) {w : World} {o : Oper} {a : Act} {K : Act → World → Prop} {Q : Exit → Act → World → Prop} (s x : Operand)
    (ho : o.op = .call { callee := .builtin .append, args := #[s, x], argTypes := #[t, t] })
    (base : Nat) (v : Value) (n : Nat) (xs : List Value) (hs : a.eval s = v) (hown : w.ownsRow base e size v n xs)
    (B : Nat) (y : Value) (m : Nat) (news : List Value) (hx : a.eval x = y) (hr : Rd w B size y m news) (h1 : ∀ u ∈ news, u.oneCell' = true)
    (h63 : n + m ≤ maxLen) (hbytes : (n + m) * bytes ≤ 140737488355328) (hbase : base ≤ w.heap.size)
    (h : ∀ v' w', w'.ownsRow base e size v' (n + m) (xs ++ news) → w.grownBy w' v.ownBlock → (v'.ownBlock = v.ownBlock ∨ v'.ownBlock = some w.heap.size) → K (a.put o.dst v') w') : o.wp P a w K Q := by
  obtain ⟨v', w', hrun, h2, h3, h4⟩ := run_app (P := P) E w base o.type v n xs hown B y m news hr h1 h63 hbytes hbase
  unfold Oper.wp execOp
  simp only [ho, resolve, invoke, builtin, Sem.run_bind, Sem.run_pure, Result.andThen_ok, List.map_toArray, List.map_cons, List.map_nil, hs, hx, hrun]
  exact h v' w' h2 h3 h4

theorem wpList_app (E : Elem P t e size bytes) {w : World} {ops : Array Oper} {rest : List Oper} {o : Oper} {a : Act} {Q : Exit → Act → World → Prop} (hgd : o.guard = none) (s x : Operand)
    (ho : o.op = .call { callee := .builtin .append, args := #[s, x], argTypes := #[t, t] })
    (base : Nat) (v : Value) (n : Nat) (xs : List Value) (hs : a.eval s = v) (hown : w.ownsRow base e size v n xs)
    (B : Nat) (y : Value) (m : Nat) (news : List Value) (hx : a.eval x = y) (hr : Rd w B size y m news) (h1 : ∀ u ∈ news, u.oneCell' = true)
    (h63 : n + m ≤ maxLen) (hbytes : (n + m) * bytes ≤ 140737488355328) (hbase : base ≤ w.heap.size)
    (h : ∀ v' w', w'.ownsRow base e size v' (n + m) (xs ++ news) → w.grownBy w' v.ownBlock → (v'.ownBlock = v.ownBlock ∨ v'.ownBlock = some w.heap.size) → wpList P ops Q rest (a.put o.dst v') w') :
    wpList P ops Q (o :: rest) a w :=
  wpList_plain hgd fun _ hK => wp_app E s x ho base v n xs hs hown B y m news hx hr h1 h63 hbytes hbase fun v' w' h2 h3 h4 => hK _ _ (h v' w' h2 h3 h4)

/-- A new block of one element reads as that element. -/
theorem Rd.lit (w : World) (cs : Array Value) (e k : Nat) (hk : cs.size = k) : Rd (w.alloc (.cells cs e)) (w.heap.size + 1) k (.slice (some ⟨w.heap.size, 0, none⟩) 1 1) 1 cs.toList := by
  refine ⟨by simpa using hk, _, 1, rfl, Nat.le_refl _, by simp [maxLen], fun _ => ⟨w.heap.size, 0, rfl, by omega, fun j u hu => ?_⟩⟩
  rw [Nat.zero_add, cell_of_row _ w.heap.size j cs e (0, 0) (heap_alloc_new w _)]
  simpa using hu

/-- append of one element, which has just been laid in a block of its own. -/
theorem wpList_app1 (E : Elem P t e size bytes) {w : World} {ops : Array Oper} {rest : List Oper} {o : Oper} {a : Act} {Q : Exit → Act → World → Prop} (hgd : o.guard = none) (s x : Operand)
    (ho : o.op = .call { callee := .builtin .append, args := #[s, x], argTypes := #[t, t] })
    (base : Nat) (v : Value) (n : Nat) (xs : List Value) (hs : a.eval s = v) (hown : w.ownsRow base e size v n xs)
    (cs : Array Value) (hx : a.eval x = .slice (some ⟨w.heap.size, 0, none⟩) 1 1) (hcs : cs.size = size) (h1 : ∀ u ∈ cs.toList, u.oneCell' = true)
    (hn : n ≤ 2147483648) (hbytes : bytes ≤ 65535) (hbase : base ≤ w.heap.size)
    (h : ∀ v' w', w'.ownsRow base e size v' (n + 1) (xs ++ cs.toList) → w.grownBy w' v.ownBlock → Below base w w' → (v'.ownBlock = v.ownBlock ∨ v'.ownBlock = some (w.heap.size + 1)) → wpList P ops Q rest (a.put o.dst v') w') :
    wpList P ops Q (o :: rest) a (w.alloc (.cells cs e)) := by
  have hb : (n + 1) * bytes ≤ 140737488355328 := by
    have h1 : (n + 1) * bytes ≤ 2147483649 * 65535 := Nat.mul_le_mul (by omega) hbytes
    omega
  refine wpList_app E hgd s x ho base v n xs hs (hown.alloc _) (w.heap.size + 1) _ 1 cs.toList hx (Rd.lit w cs e size hcs) h1 (by unfold maxLen; omega) hb (by simp; omega) ?_
  intro v' w' h2 h3 h4
  have h5 : w.grownBy w' v.ownBlock := (World.grownBy_alloc w _ _).trans h3
  refine h v' w' h2 h5 ?_ (by simpa using h4)
  exact (Below.refl base w).grown h5 hbase (fun k hk => (hown.lt k hk).1)
end

/-! ### A scope with several labels -/
/-- As Q; by a goto to a label: J. -/
def hop (J : Nat → Act → World → Prop) (Q : Exit → Act → World → Prop) : Exit → Act → World → Prop
  | .goto l, a, w => J l a w
  | e, a, w => Q e a w

section
variable {J : Nat → Act → World → Prop} {Q : Exit → Act → World → Prop} {a : Act} {w : World}
@[go_sem] theorem hop_normal : hop J Q .normal a w = Q .normal a w := rfl
@[go_sem] theorem hop_exit (i : Nat) : hop J Q (.exit i) a w = Q (.exit i) a w := rfl
@[go_sem] theorem hop_ret : hop J Q .ret a w = Q .ret a w := rfl
@[go_sem] theorem hop_panic (c : List PanicEntry) : hop J Q (.panic c) a w = Q (.panic c) a w := rfl
@[go_sem] theorem hop_goto (l : Nat) : hop J Q (.goto l) a w = J l a w := rfl

theorem wp_scope_hops_first {P : Program} {c : Code} (J : Nat → Act → World → Prop) (μ : Nat → Act → World → Nat)
    (first : c.wp P (hop J Q) a w)
    (pass : ∀ l a w, J l a w → ∃ rest, findLabel c l = some (.seq .skip rest) ∧ rest.wp P (hop (fun l' a' w' => J l' a' w' ∧ μ l' a' w' < μ l a w) Q) a w) : (Code.scope c).wp P Q a w := by
  intro b k cs
  have key : ∀ n l a w, μ l a w = n → J l a w → ∃ rest e a' w', findLabel c l = some rest ∧ Q e a' w' ∧ Arrives P (lone (b.at a (.code rest :: .inScope c :: k)) cs w) b k cs e a' w' := by
    intro n
    induction n using Nat.strongRecOn with
    | _ n ih =>
      intro l a w hn hJ
      obtain ⟨rest, hf, hw⟩ := pass l a w hJ
      obtain ⟨e, a₁, w₁, hq, harr0⟩ := hw b (.inScope c :: k) cs
      have harr : Arrives P (lone (b.at a (.code (.seq .skip rest) :: .inScope c :: k)) cs w) b (.inScope c :: k) cs e a₁ w₁ := .of_steps (.head step_seq (.one step_skip)) harr0
      refine ⟨.seq .skip rest, ?_⟩
      cases e with
      | normal => exact ⟨.normal, a₁, w₁, hf, hq, Steps.trans harr (.one step_inScope)⟩
      | exit id => exact ⟨.exit id, a₁, w₁, hf, hq, fun k' hk => harr k' (by simp [exitTo, hk])⟩
      | goto l' =>
        obtain ⟨hJ', hlt⟩ := hq
        obtain ⟨rest', e₂, a₂, w₂, hf', hq₂, harr₂⟩ := ih _ (by omega) l' a₁ w₁ rfl hJ'
        exact ⟨e₂, a₂, w₂, hf, hq₂, .of_steps (harr _ (by simp [gotoIn, hf'])) harr₂⟩
      | ret => exact ⟨_, a₁, w₁, hf, hq, harr⟩
      | panic ch => exact ⟨_, a₁, w₁, hf, hq, harr⟩
      | outgrown => exact ⟨_, a₁, w₁, hf, hq, harr⟩
  obtain ⟨e, a₁, w₁, hq, harr⟩ := first b (.inScope c :: k) cs
  cases e with
  | normal => exact ⟨.normal, a₁, w₁, hq, .head step_scope (Steps.trans harr (.one step_inScope))⟩
  | exit id => exact ⟨.exit id, a₁, w₁, hq, fun k' hk => .head step_scope (harr k' (by simp [exitTo, hk]))⟩
  | goto l' =>
    obtain ⟨rest, e₂, a₂, w₂, hf, hq₂, harr₂⟩ := key _ l' a₁ w₁ rfl hq
    exact ⟨e₂, a₂, w₂, hq₂, .of_steps (.head step_scope (harr _ (by simp [gotoIn, hf]))) harr₂⟩
  | ret => exact ⟨_, a₁, w₁, hq, .of_steps (.one step_scope) harr⟩
  | panic ch => exact ⟨_, a₁, w₁, hq, .of_steps (.one step_scope) harr⟩
  | outgrown => exact ⟨_, a₁, w₁, hq, .of_steps (.one step_scope) harr⟩

/-- The same; where the first way comes to a label by itself, it may go on as if it had jumped there. -/
theorem wp_scope_hops {P : Program} {c : Code} (J : Nat → Act → World → Prop) (μ : Nat → Act → World → Nat)
    (pass : ∀ l a w, J l a w → ∃ rest, findLabel c l = some (.seq .skip rest) ∧ rest.wp P (hop (fun l' a' w' => J l' a' w' ∧ μ l' a' w' < μ l a w) Q) a w)
    (first : (∀ l a w, J l a w → ∀ rest, findLabel c l = some (.seq .skip rest) → rest.wp P (hop J Q) a w) → c.wp P (hop J Q) a w) : (Code.scope c).wp P Q a w := by
  refine wp_scope_hops_first J μ (first ?_) pass
  intro l a w hJ rest hr
  obtain ⟨rest', hr', hw⟩ := pass l a w hJ
  rw [hr] at hr'
  injection hr' with hr'
  injection hr' with _ hr'
  subst hr'
  refine Code.wp_mono ?_ hw
  intro e a' w' hq
  cases e with
  | goto l' => exact hq.1
  | normal => exact hq
  | exit id => exact hq
  | ret => exact hq
  | panic ch => exact hq
  | outgrown => exact hq
end

end Go.Proofs.YtipmjleohadoeaaGreat

end

section
/- The walks of the small functions on integers: Within, may, Nodes, Quorum, Weak, Primary, Zig, Zag, and the references' own. Each returns what its plain function says, and leaves the world as it was. -/
namespace Go.Proofs.YtipmjleohadoeaaGreat
open Go.RowKit
set_option linter.unusedVariables false


theorem within_any (v n : Int) (w : World) (hv1 : -9223372036854775808 ≤ v) (hv2 : v ≤ 9223372036854775807) (hn1 : -9223372036854775808 ≤ n) (hn2 : n ≤ 9223372036854775807) :
    Calls Tryz.prog 8 #[.int .i64 v, .int .i64 n] w fun e w' => e = .returned (.int .i64 (Psp.within v n)) ∧ w = w' := by
  by_cases h1 : n < 1
  · go_enter Tryz.func8, Tryz.ntmps8
    go_wp2
    go_ret
    exact ⟨by simp [Psp.within, h1], rfl⟩
  · have hk2 : v.tmod n < n := Int.tmod_lt_of_pos v (by omega)
    have he : v.tmod n = if 0 ≤ v ∨ v % n = 0 then v % n else v % n - n := by
      rw [Int.tmod_eq_emod]
      split
      · rename_i h
        rw [if_pos (by rcases h with h | h; exact .inl h; exact .inr (Int.emod_eq_zero_of_dvd h))]; omega
      · rename_i h
        rw [if_neg (by intro hh; apply h; rcases hh with hh | hh; exact .inl hh; exact .inr (Int.dvd_of_emod_eq_zero hh))]
        rw [Int.natAbs_of_nonneg (by omega)]
    have hm1 := Int.emod_nonneg v (b := n) (by omega)
    have hm2 := Int.emod_lt_of_pos v (b := n) (by omega)
    have hk1 : -n < v.tmod n := by
      rw [he]
      split <;> omega
    by_cases h2 : v.tmod n < 0
    · have hf : v.tmod n + n = Psp.within v n := by
        unfold Psp.within
        rw [if_neg h1]
        rw [he] at h2 ⊢
        split at h2
        · omega
        · rename_i h; rw [if_neg h]; omega
      have Hf := Lib.hid hf
      clear hf he hm1 hm2
      go_enter Tryz.func8, Tryz.ntmps8
      go_wp2
      go_ret
      exact ⟨ret_int Hf.out, rfl⟩
    · have hf : v.tmod n = Psp.within v n := by
        unfold Psp.within
        rw [if_neg h1]
        rw [he] at h2 ⊢
        split
        · rfl
        · rename_i h; rw [if_neg h] at h2; omega
      have Hf := Lib.hid hf
      clear hf he hm1 hm2
      go_enter Tryz.func8, Tryz.ntmps8
      go_wp2
      go_ret
      exact ⟨ret_int Hf.out, rfl⟩

theorem b_nodes_any (f : Int) (w : World) : Calls Tryz.prog 58 #[.int .i64 f] w fun e w' => e = .returned (.int .i64 (Psp.nodes f)) ∧ w = w' := by
  by_cases h1 : 1 ≤ f
  · by_cases h2 : f ≤ 4
    · have H := Lib.hid (show 3 * f + 1 = Psp.nodes f by rw [Psp.nodes, if_pos ⟨h1, h2⟩])
      go_enter Tryz.func58, Tryz.ntmps58
      go_wp2
      go_ret
      exact ⟨ret_int H.out, rfl⟩
    · have H := Lib.hid (show 0 = Psp.nodes f by rw [Psp.nodes, if_neg (by omega)])
      go_enter Tryz.func58, Tryz.ntmps58
      go_wp2
      go_ret
      exact ⟨ret_int H.out, rfl⟩
  · have H := Lib.hid (show 0 = Psp.nodes f by rw [Psp.nodes, if_neg (by omega)])
    go_enter Tryz.func58, Tryz.ntmps58
    go_wp2
    go_ret
    exact ⟨ret_int H.out, rfl⟩


theorem b_weak_any (f : Int) (w : World) : Calls Tryz.prog 40 #[.int .i64 f] w fun e w' => e = .returned (.int .i64 (Psp.weak f)) ∧ w = w' := by
  by_cases h1 : 1 ≤ f
  · by_cases h2 : f ≤ 4
    · have H := Lib.hid (show f + 1 = Psp.weak f by rw [Psp.weak, if_pos ⟨h1, h2⟩])
      go_enter Tryz.func40, Tryz.ntmps40
      go_wp2
      go_ret
      exact ⟨ret_int H.out, rfl⟩
    · have H := Lib.hid (show 0 = Psp.weak f by rw [Psp.weak, if_neg (by omega)])
      go_enter Tryz.func40, Tryz.ntmps40
      go_wp2
      go_ret
      exact ⟨ret_int H.out, rfl⟩
  · have H := Lib.hid (show 0 = Psp.weak f by rw [Psp.weak, if_neg (by omega)])
    go_enter Tryz.func40, Tryz.ntmps40
    go_wp2
    go_ret
    exact ⟨ret_int H.out, rfl⟩


theorem r_nodes_any (f : Int) (w : World) : Calls Tryz.prog 13 #[.int .i64 f] w fun e w' => e = .returned (.int .i64 (Psp.nodes f)) ∧ w = w' := by
  by_cases h1 : 1 ≤ f
  · by_cases h2 : f ≤ 4
    · have H := Lib.hid (show 3 * f + 1 = Psp.nodes f by rw [Psp.nodes, if_pos ⟨h1, h2⟩])
      go_enter Tryz.func13, Tryz.ntmps13
      go_wp2
      go_ret
      exact ⟨ret_int H.out, rfl⟩
    · have H := Lib.hid (show 0 = Psp.nodes f by rw [Psp.nodes, if_neg (by omega)])
      go_enter Tryz.func13, Tryz.ntmps13
      go_wp2
      go_ret
      exact ⟨ret_int H.out, rfl⟩
  · have H := Lib.hid (show 0 = Psp.nodes f by rw [Psp.nodes, if_neg (by omega)])
    go_enter Tryz.func13, Tryz.ntmps13
    go_wp2
    go_ret
    exact ⟨ret_int H.out, rfl⟩


theorem zig_any (n : Int) (w : World) (h1 : -9223372036854775808 ≤ n) (h2 : n ≤ 9223372036854775807) :
    Calls Tryz.prog 142 #[.int .i64 n] w fun e w' => e = .returned (.int .i64 (Psp.zig n)) ∧ w = w' := by
  by_cases h3 : n < -549755813888
  · have H := Lib.hid (show 0 = Psp.zig n by rw [Psp.zig, if_pos (by omega)])
    go_enter Tryz.func142, Tryz.ntmps142
    go_wp2
    go_ret
    exact ⟨ret_int H.out, rfl⟩
  · by_cases h4 : 549755813888 ≤ n
    · have H := Lib.hid (show 0 = Psp.zig n by rw [Psp.zig, if_pos (by omega)])
      go_enter Tryz.func142, Tryz.ntmps142
      go_wp2
      go_ret
      exact ⟨ret_int H.out, rfl⟩
    · by_cases h5 : n < 0
      · have H := Lib.hid (show -2 * n - 1 = Psp.zig n by rw [Psp.zig, if_neg (by omega), if_pos h5])
        go_enter Tryz.func142, Tryz.ntmps142
        go_wp2
        go_ret
        exact ⟨ret_int H.out, rfl⟩
      · have H := Lib.hid (show 2 * n = Psp.zig n by rw [Psp.zig, if_neg (by omega), if_neg h5])
        go_enter Tryz.func142, Tryz.ntmps142
        go_wp2
        go_ret
        exact ⟨ret_int H.out, rfl⟩


theorem r_zig_any (n : Int) (w : World) (h1 : -9223372036854775808 ≤ n) (h2 : n ≤ 9223372036854775807) :
    Calls Tryz.prog 98 #[.int .i64 n] w fun e w' => e = .returned (.int .i64 (Psp.zig n)) ∧ w = w' := by
  by_cases h3 : n < -549755813888
  · have H := Lib.hid (show 0 = Psp.zig n by rw [Psp.zig, if_pos (by omega)])
    go_enter Tryz.func98, Tryz.ntmps98
    go_wp2
    go_ret
    exact ⟨ret_int H.out, rfl⟩
  · by_cases h4 : 549755813888 ≤ n
    · have H := Lib.hid (show 0 = Psp.zig n by rw [Psp.zig, if_pos (by omega)])
      go_enter Tryz.func98, Tryz.ntmps98
      go_wp2
      go_ret
      exact ⟨ret_int H.out, rfl⟩
    · by_cases h5 : n < 0
      · have H := Lib.hid (show -2 * n - 1 = Psp.zig n by rw [Psp.zig, if_neg (by omega), if_pos h5])
        go_enter Tryz.func98, Tryz.ntmps98
        go_wp2
        go_ret
        exact ⟨ret_int H.out, rfl⟩
      · have H := Lib.hid (show 2 * n = Psp.zig n by rw [Psp.zig, if_neg (by omega), if_neg h5])
        go_enter Tryz.func98, Tryz.ntmps98
        go_wp2
        go_ret
        exact ⟨ret_int H.out, rfl⟩


theorem zag_any (n : Int) (w : World) (h1 : -9223372036854775808 ≤ n) (h2 : n ≤ 9223372036854775807) :
    Calls Tryz.prog 116 #[.int .i64 n] w fun e w' => e = .returned (.int .i64 (Psp.zag n)) ∧ w = w' := by
  by_cases h3 : n < 0
  · have H := Lib.hid (show 0 = Psp.zag n by rw [Psp.zag, if_pos (by omega)])
    go_enter Tryz.func116, Tryz.ntmps116
    go_wp2
    go_ret
    exact ⟨ret_int H.out, rfl⟩
  · by_cases h4 : 1099511627776 ≤ n
    · have H := Lib.hid (show 0 = Psp.zag n by rw [Psp.zag, if_pos (by omega)])
      go_enter Tryz.func116, Tryz.ntmps116
      go_wp2
      go_ret
      exact ⟨ret_int H.out, rfl⟩
    · by_cases h5 : n % 2 = 1
      · have h6 : (n % 2 == 1) = true := by simpa using h5
        have H := Lib.hid (show wrap64 (-(n + 1).tdiv 2) = Psp.zag n by rw [Psp.zag, if_neg (by omega), if_pos h5, Int.tdiv_eq_ediv_of_nonneg (by omega)]; unfold wrap64; omega)
        clear h5
        go_enter Tryz.func116, Tryz.ntmps116
        go_wp2
        go_ret
        exact ⟨ret_int H.out, rfl⟩
      · have h6 : (n % 2 == 1) = false := by simpa using h5
        have H := Lib.hid (show n / 2 = Psp.zag n by rw [Psp.zag, if_neg (by omega), if_neg h5])
        clear h5
        go_enter Tryz.func116, Tryz.ntmps116
        go_wp2
        go_ret
        exact ⟨ret_int H.out, rfl⟩


end Go.Proofs.YtipmjleohadoeaaGreat

end

section
/- The walks of package code and of the references' own codec. -/
namespace Go.Proofs.YtipmjleohadoeaaGreat
open Go.RowKit
set_option linter.unusedVariables false

theorem bytesE : Elem Tryz.prog 49 5 1 1 := ⟨Tryz.underlying49, by kernel_rfl, by decide⟩

/-- What the loop of Number keeps: what has been written, and what is still to write. -/
def NumInv (N : Nat) (B : Nat) (w0 : World) (m : Int) (out : Value) (w : World) : Prop :=
  ∃ (pre : List UInt8), pre ++ Psp.num m.toNat = Psp.num N ∧ pre.length ≤ 6 ∧ w.ownsRow B 5 1 out pre.length (pre.map bv) ∧ Below B w0 w

def NumOk (base : Nat) (w0 : World) (N : Nat) (e : Ending) (w : World) : Prop :=
  ∃ v, e = .returned (.tuple #[v, .bool true]) ∧ w.ownsRow base 5 1 v (Psp.num N).length ((Psp.num N).map bv) ∧ Below base w0 w

theorem num_end {N : Nat} {m : Int} {pre : List UInt8} {base : Nat} {w0 wr w' : World} {v' : Value} (h0 : 0 ≤ m) (h : m < 128) (hp : pre ++ Psp.num m.toNat = Psp.num N) (hb : Below base w0 wr)
    (ho : w'.ownsRow base 5 1 v' (pre.length + 1) (List.map bv pre ++ [Value.int .u8 m])) (hb' : Below base wr w') : NumOk base w0 N (.returned (.tuple #[v', .bool true])) w' := by
  refine ⟨v', rfl, ?_, hb.trans hb'⟩
  rw [Psp.num_small (by omega)] at hp
  have he : Value.int .u8 m = bv (UInt8.ofNat m.toNat) := by
    unfold bv
    rw [Psp.u8_toNat (by omega)]
    congr 1
    omega
  rw [he] at ho
  rw [← hp]
  simpa using ho

theorem num_next {N : Nat} {m : Int} {pre : List UInt8} {base : Nat} {w0 wr w' : World} {v' : Value} (h : ¬ m < 128) (hN : (Psp.num N).length ≤ 6) (hp : pre ++ Psp.num m.toNat = Psp.num N) (hb : Below base w0 wr)
    (ho : w'.ownsRow base 5 1 v' (pre.length + 1) (List.map bv pre ++ [Value.int .u8 (m % 128 + 128)])) (hb' : Below base wr w') : NumInv N base w0 (m / 128) v' w' := by
  have h1 : ¬ m.toNat < 128 := by omega
  rw [Psp.num_big h1] at hp
  have h2 : (m / 128).toNat = m.toNat / 128 := by omega
  have he : Value.int .u8 (m % 128 + 128) = bv (UInt8.ofNat (m.toNat % 128 + 128)) := by
    unfold bv
    rw [Psp.u8_toNat (by omega)]
    congr 1
    omega
  rw [he] at ho
  refine ⟨pre ++ [UInt8.ofNat (m.toNat % 128 + 128)], by rw [h2, ← hp]; simp, ?_, by simpa using ho, hb.trans hb'⟩
  have := congrArg List.length hp
  simp only [List.length_append, List.length_cons] at this
  have h3 := Psp.num_pos (m.toNat / 128)
  simp only [List.length_append, List.length_cons, List.length_nil]
  omega

theorem number_ok (x : Int) (w : World) (h0 : 0 ≤ x) (h1 : x < 1099511627776) :
    Calls Tryz.prog 110 #[.int .i64 x] w (NumOk w.heap.size w x.toNat) := by
  have hN6 := Psp.num_len6 (show x.toNat < 1099511627776 by omega)
  have hst : NumInv x.toNat w.heap.size w x (.slice none 0 0) w := ⟨[], rfl, by simp, World.ownsRow_nil _ _ _ _, Below.refl _ _⟩
  generalize x.toNat = N at *
  go_enter Tryz.func110, Tryz.ntmps110
  go_wp2
  go_loopw [0, 4] (fun n out wr => ∃ m : Int, n = .int .i64 m ∧ 0 ≤ m ∧ m < 1099511627776 ∧ NumInv N w.heap.size w m out wr) (fun n _ _ => (intOf n).toNat)
  case atStart => exact ⟨x, rfl, h0, h1, hst⟩
  case round =>
    obtain ⟨m, rfl, hm0, hm1, pre, hpre, hp6, hown, hbel⟩ := hrel
    have Hpre := Lib.hid hpre
    clear hpre hst
    have hsz := hbel.size
    by_cases hlt : m < 128
    · go_wp2_with (at_builtin; refine wpList_app1 bytesE rfl _ _ rfl w.heap.size u4 _ _ rfl hown _ rfl rfl (by simp [Value.oneCell']) (by omega) (by omega) hsz ?_; intro v' w' hown' _ hbel' _; clear hown)
      go_ret2
      exact num_end hm0 hlt Hpre.out hbel (by simpa using hown') hbel'
    · go_wp2_with (at_builtin; refine wpList_app1 bytesE rfl _ _ rfl w.heap.size u4 _ _ rfl hown _ rfl rfl (by simp [Value.oneCell']) (by omega) (by omega) hsz ?_; intro v' w' hown' _ hbel' _; clear hown)
      go_roundw
      case rel => exact ⟨_, rfl, by omega, by omega, num_next hlt hN6 Hpre.out hbel (by simpa using hown') hbel'⟩
      case measure => simp [intOf]; omega

theorem number_no (x : Int) (w : World) (h : x < 0 ∨ 1099511627776 ≤ x) :
    Calls Tryz.prog 110 #[.int .i64 x] w fun e w' => e = .returned (.tuple #[.slice none 0 0, .bool false]) ∧ w = w' := by
  by_cases h1 : x < 0
  · clear h
    go_enter Tryz.func110, Tryz.ntmps110
    go_wp2
    go_ret2
    exact ⟨rfl, rfl⟩
  · have h2 : 1099511627776 ≤ x := by omega
    clear h
    go_enter Tryz.func110, Tryz.ntmps110
    go_wp2
    go_ret2
    exact ⟨rfl, rfl⟩

/-! ### TakeNumber -/
theorem bits_or (a b : Nat) (ha : a < 9223372036854775808) (hb : b < 9223372036854775808) : bits .or .i64 (a : Int) (b : Int) = ((a ||| b : Nat) : Int) := by
  have ho (x : Nat) (hx : x < 9223372036854775808) : (BitVec.ofInt 64 (x : Int)).toNat = x := by
    rw [BitVec.ofInt_natCast, BitVec.toNat_ofNat]; exact Nat.mod_eq_of_lt (by omega)
  have hx : a ||| b < 2 ^ 63 := Nat.or_lt_two_pow (by omega) (by omega)
  show IntKind.i64.wrap ((BitVec.ofInt 64 (a : Int) ||| BitVec.ofInt 64 (b : Int)).toNat : Int) = _
  rw [BitVec.toNat_or, ho a ha, ho b hb, IntKind.wrap_i64]
  omega

theorem or_group {n d k : Nat} (h : n < 128 ^ k) (hd : d < 128) (hk : k ≤ 5) : bits .or .i64 (n : Int) ((d * 128 ^ k : Nat) : Int) = ((n + d * 128 ^ k : Nat) : Int) := by
  have h1 := Psp.pow_le6 (k := k) (by omega)
  have h2 := Psp.pow_bd h hd
  have h3 := Psp.pow_le6 (k := k + 1) (by omega)
  rw [bits_or _ _ (by omega) (by omega)]
  have e : (128 : Nat) ^ k = 2 ^ (7 * k) := by rw [Nat.pow_mul]
  rw [e] at h ⊢
  have h4 := Nat.two_pow_add_eq_or_of_lt h d
  rw [Nat.mul_comm d, Nat.or_comm, ← h4]
  congr 1
  omega

/-- What holds where TakeNumber asks for one byte more: k have been taken, which are n. -/
def TakeInv (l : List UInt8) (at0 : Nat) (R : Option (Nat × Nat)) (k : Nat) (n : Int) : Prop :=
  0 ≤ n ∧ k ≤ 6 ∧ n.toNat < 128 ^ k ∧ Psp.takeA (6 - k) (l.drop (at0 + k)) n.toNat k = R

/-- What TakeNumber returns. -/
def TakeOut (at0 : Nat) (R : Option (Nat × Nat)) (e : Ending) : Prop :=
  match R with
  | none => e = .returned (.tuple #[.int .i64 0, .int .i64 0, .bool false])
  | some (v, m) => e = .returned (.tuple #[.int .i64 (v : Int), .int .i64 ((at0 : Int) + (m : Int)), .bool true])

theorem and127 (c : UInt8) : bits .and .u8 (c.toNat : Int) 127 = ((c.toNat % 128 : Nat) : Int) := by
  have h := c.toNat_lt
  have := u8_and_nat c.toNat 127 h (by omega)
  rw [show ((127 : Nat) : Int) = 127 from rfl] at this
  rw [this, show (127 : Nat) = 2 ^ 7 - 1 from rfl, Nat.and_two_pow_sub_one_eq_mod]

/-- What one byte more makes of n, in the walk's spelling. -/
theorem take_step {n : Int} {k : Nat} (c : UInt8) (h0 : 0 ≤ n) (hk : k ≤ 5) (hn : n.toNat < 128 ^ k) :
    bits .or .i64 n (wrap64 (wrap64 (bits .and .u8 (c.toNat : Int) 127) * 2 ^ (7 * k))) = ((n.toNat + c.toNat % 128 * 128 ^ k : Nat) : Int) := by
  have hd : c.toNat % 128 < 128 := Nat.mod_lt _ (by omega)
  have h1 := Psp.pow_le6 (k := k) (by omega)
  have h2 := Psp.pow_bd hn hd
  have h3 := Psp.pow_le6 (k := k + 1) (by omega)
  have hi : wrap64 ((c.toNat % 128 : Nat) : Int) = ((c.toNat % 128 : Nat) : Int) := IntWalk.wrap64_in _ (by omega)
  rw [and127, hi]
  have e : (((c.toNat % 128 : Nat) : Int) * 2 ^ (7 * k)) = ((c.toNat % 128 * 128 ^ k : Nat) : Int) := by
    rw [Int.natCast_mul, show (128 : Nat) ^ k = 2 ^ (7 * k) by rw [Nat.pow_mul]]
    simp
  rw [e, IntWalk.wrap64_in _ (by omega)]
  have := or_group hn hd hk
  rw [Int.toNat_of_nonneg h0] at this
  exact this

theorem take_next {l : List UInt8} {at0 k : Nat} {R : Option (Nat × Nat)} {n n2 : Int} {ch : UInt8} (hI : TakeInv l at0 R k n) (hk : k < 6) (hlt : at0 + k < l.length) (hc : l.getD (at0 + k) 0 = ch)
    (hn2 : n2 = ((n.toNat + ch.toNat % 128 * 128 ^ k : Nat) : Int)) (hb : (128 : Int) ≤ (ch.toNat : Int)) : TakeInv l at0 R (k + 1) n2 := by
  obtain ⟨h0, _, h1, h2⟩ := hI
  have hd : ch.toNat % 128 < 128 := Nat.mod_lt _ (by omega)
  have h3 := Psp.pow_bd h1 hd
  have e : n2.toNat = n.toNat + ch.toNat % 128 * 128 ^ k := by omega
  refine ⟨by omega, by omega, by rw [e]; exact h3, ?_⟩
  rw [e, ← h2, Psp.drop_cons hlt, hc, show 6 - k = (6 - (k + 1)) + 1 by omega, Psp.takeA_more (by omega), Nat.add_assoc at0 k 1]

theorem take_none {l : List UInt8} {at0 k : Nat} {R : Option (Nat × Nat)} {n : Int} (hI : TakeInv l at0 R k n) (h : l.length ≤ at0 + k ∨ 6 ≤ k) : R = none := by
  obtain ⟨h0, h3, h1, h2⟩ := hI
  rw [← h2]
  rcases h with h | h
  · rw [List.drop_eq_nil_of_le h, Psp.takeA_stop]
  · rw [show 6 - k = 0 by omega]; rfl

theorem take_fin {l : List UInt8} {at0 k : Nat} {R : Option (Nat × Nat)} {n n2 : Int} {ch : UInt8} (hI : TakeInv l at0 R k n) (hk : k < 6) (hlt : at0 + k < l.length) (hc : l.getD (at0 + k) 0 = ch)
    (hn2 : n2 = ((n.toNat + ch.toNat % 128 * 128 ^ k : Nat) : Int)) (hb : ¬ (128 : Int) ≤ (ch.toNat : Int)) :
    (((ch.toNat : Int) = 0 ∧ 1 ≤ k) ∨ 1099511627776 ≤ n2 → R = none) ∧ (¬ (((ch.toNat : Int) = 0 ∧ 1 ≤ k) ∨ 1099511627776 ≤ n2) → R = some (n2.toNat, k + 1)) := by
  obtain ⟨h0, _, h1, h2⟩ := hI
  have e : n2.toNat = n.toNat + ch.toNat % 128 * 128 ^ k := by omega
  rw [← h2, Psp.drop_cons hlt, hc, show 6 - k = (6 - (k + 1)) + 1 by omega]
  constructor
  · intro h
    exact Psp.takeA_bad (by omega) (by omega)
  · intro h
    rw [e]
    exact Psp.takeA_good (by omega) (by omega)

theorem take_ret {at0 k : Nat} {R : Option (Nat × Nat)} {n2 : Int} (h : R = some (n2.toNat, k + 1)) (h0 : 0 ≤ n2) :
    TakeOut at0 R (.returned (.tuple #[.int .i64 n2, .int .i64 ((at0 : Int) + (k : Int) + 1), .bool true])) := by
  subst h
  simp only [TakeOut]
  rw [Int.toNat_of_nonneg h0]
  congr 5

set_option maxRecDepth 100000 in
set_option maxHeartbeats 1000000 in
theorem take_walk (A : Option Addr) (len c : Nat) (l : List UInt8) (at0 : Nat) (R : Option (Nat × Nat)) (w : World) (hR : Psp.take (l.drop at0) = R)
    (hA : 0 < len → ∃ b o, A = some ⟨b, o, none⟩ ∧ Lies w b o (l.map bv)) (hlen : l.length = len) (hbig : len ≤ 9223372036854775807) (hat : at0 ≤ 9223372036854775807) :
    Calls Tryz.prog 59 #[.slice A len c, .int .i64 (at0 : Int)] w fun e w' => TakeOut at0 R e ∧ w = w' := by
  have hst : TakeInv l at0 R 0 0 := ⟨by omega, by omega, by simp, by simpa [Psp.take] using hR⟩
  go_enter Tryz.func59, Tryz.ntmps59
  go_wp2
  refine wp_scope_hops (fun lab a' w' => w' = w ∧ ((lab = 0 ∧ R = none ∧ ∃ u0 u1 u2 u3 u4 u5 u6 u7 u8 u9 u10 u11 u12 u13 u14 u15 u16 u17 u18 u19 u20 u21 u22 u23 u24 u25 u26 u27 u28 u29 u30 u31 u32 u33 u34 u35 u36 u37 u38 u39 u40 u41 u42 u43 u44 u45 u46 u47 u48 : Value, a' = { tmps := #[u0, u1, u2, u3, u4, u5, u6, u7, u8, u9, u10, u11, u12, u13, u14, u15, u16, u17, u18, u19, u20, u21, u22, u23, u24, u25, u26, u27, u28, u29, u30, u31, u32, u33, u34, u35, u36, u37, u38, u39, u40, u41, u42, u43, u44, u45, u46, u47, u48], defers := [] }) ∨ (lab = 1 ∧ ∃ (k : Nat) (n : Int) (u7 u9 u10 u11 u12 u13 u14 u15 u16 u17 u18 u19 u20 u21 u22 u23 u24 u25 u26 u27 u28 u29 u30 u31 u32 u33 u34 u35 u36 u37 u38 u39 u40 u41 u42 u43 u44 u45 u46 u47 u48 : Value), a' = { tmps := #[.slice A len c, .int .i64 ((at0 + k : Nat) : Int), undef, undef, .int .i64 n, .int .i64 0, .bool false, u7, .int .i64 ((7 * k : Nat) : Int), u9, u10, u11, u12, u13, u14, u15, u16, u17, u18, u19, u20, u21, u22, u23, u24, u25, u26, u27, u28, u29, u30, u31, u32, u33, u34, u35, u36, u37, u38, u39, u40, u41, u42, u43, u44, u45, u46, u47, u48], defers := [] } ∧ TakeInv l at0 R k n)))
    (fun lab a' _ => if lab = 0 then 0 else 100 - (intOf (a'.tmps.getD 8 undef)).toNat) ?_ ?_
  · rintro lab a' w' ⟨rfl, ⟨rfl, hR0, u0, u1, u2, u3, u4, u5, u6, u7, u8, u9, u10, u11, u12, u13, u14, u15, u16, u17, u18, u19, u20, u21, u22, u23, u24, u25, u26, u27, u28, u29, u30, u31, u32, u33, u34, u35, u36, u37, u38, u39, u40, u41, u42, u43, u44, u45, u46, u47, u48, rfl⟩ | ⟨rfl, k, n, u7, u9, u10, u11, u12, u13, u14, u15, u16, u17, u18, u19, u20, u21, u22, u23, u24, u25, u26, u27, u28, u29, u30, u31, u32, u33, u34, u35, u36, u37, u38, u39, u40, u41, u42, u43, u44, u45, u46, u47, u48, rfl, hI⟩⟩
    · refine ⟨_, rfl, ?_⟩
      subst hR0
      go_wp2
      go_ret3
      exact ⟨rfl, rfl⟩
    · refine ⟨_, rfl, ?_⟩
      have hn0 := hI.1
      have hk6 := hI.2.1
      have HI := Lib.hid hI
      clear hI hst hR
      by_cases hlt : at0 + k < len
      · by_cases hk : k < 6
        · obtain ⟨b, o, hAe, hl⟩ := hA (by omega)
          clear hA
          subst hAe
          have hc := hl.at_ (j := at0 + k) (by simp; omega)
          obtain ⟨ch, hch⟩ : ∃ ch, l.getD (at0 + k) 0 = ch := ⟨_, rfl⟩
          have hc' : w'.cell? ⟨b, o + (at0 + k), none⟩ = some (.int .u8 (ch.toNat : Int)) := by
            rw [hc, ← hch]
            simp [bv, List.getD_eq_getElem?_getD, List.getElem?_eq_getElem (show at0 + k < l.length by omega)]
          clear hc hl
          obtain ⟨n2, hn2⟩ : ∃ n2 : Int, n2 = ((n.toNat + ch.toNat % 128 * 128 ^ k : Nat) : Int) := ⟨_, rfl⟩
          have hs := take_step ch hn0 (by omega) HI.out.2.2.1
          rw [← hn2] at hs
          have hn20 : 0 ≤ n2 := by omega
          have Hn2 := Lib.hid hn2
          have Hch := Lib.hid hch
          have hch1 : (ch.toNat : Int) < 256 := by have := ch.toNat_lt; omega
          clear hn2 hch
          by_cases hb : (128 : Int) ≤ (ch.toNat : Int)
          · have HN := Lib.hid (take_next HI.out hk (by omega) Hch.out Hn2.out hb)
            go_wp2
            go_step3
            have e1 : ((at0 : Int) + (k : Int) + 1) = ((at0 + (k + 1) : Nat) : Int) := by omega
            have e2 : (7 * (k : Int) + 7) = ((7 * (k + 1) : Nat) : Int) := by omega
            rw [e1, e2]
            exact ⟨⟨rfl, .inr ⟨rfl, k + 1, n2, _, _, _, _, _, _, _, _, _, _, _, _, _, _, _, _, _, _, _, _, _, _, _, _, _, _, _, _, _, _, _, _, _, _, _, _, _, _, _, _, _, rfl, HN.out⟩⟩, by simp [intOf]; omega⟩
          · have HN := Lib.hid (take_fin HI.out hk (by omega) Hch.out Hn2.out hb)
            by_cases hbg : 1099511627776 ≤ n2
            · have HB := Lib.hid (HN.out.1 (.inr hbg))
              by_cases hz : (ch.toNat : Int) = 0
              · have hz1 : ((ch.toNat : Int) == 0) = true := by simpa using hz
                clear hz
                go_wp2
                all_goals go_step3
                all_goals exact ⟨⟨rfl, .inl ⟨rfl, HB.out, _, _, _, _, _, _, _, _, _, _, _, _, _, _, _, _, _, _, _, _, _, _, _, _, _, _, _, _, _, _, _, _, _, _, _, _, _, _, _, _, _, _, _, _, _, _, _, _, _, rfl⟩⟩, by simp [intOf]; omega⟩
              · have hz1 : ((ch.toNat : Int) == 0) = false := by simpa using hz
                clear hz
                go_wp2
                go_step3
                exact ⟨⟨rfl, .inl ⟨rfl, HB.out, _, _, _, _, _, _, _, _, _, _, _, _, _, _, _, _, _, _, _, _, _, _, _, _, _, _, _, _, _, _, _, _, _, _, _, _, _, _, _, _, _, _, _, _, _, _, _, _, _, rfl⟩⟩, by simp [intOf]; omega⟩
            · by_cases hz : (ch.toNat : Int) = 0
              · have hz1 : ((ch.toNat : Int) == 0) = true := by simpa using hz
                by_cases hk1 : 1 ≤ k
                · have HB := Lib.hid (HN.out.1 (.inl ⟨hz, hk1⟩))
                  clear hz
                  go_wp2
                  go_step3
                  exact ⟨⟨rfl, .inl ⟨rfl, HB.out, _, _, _, _, _, _, _, _, _, _, _, _, _, _, _, _, _, _, _, _, _, _, _, _, _, _, _, _, _, _, _, _, _, _, _, _, _, _, _, _, _, _, _, _, _, _, _, _, _, rfl⟩⟩, by simp [intOf]; omega⟩
                · have HB := Lib.hid (HN.out.2 (by omega))
                  clear hz
                  go_wp2
                  go_ret3
                  exact ⟨take_ret HB.out hn20, rfl⟩
              · have hz1 : ((ch.toNat : Int) == 0) = false := by simpa using hz
                have HB := Lib.hid (HN.out.2 (by omega))
                clear hz
                go_wp2
                go_ret3
                exact ⟨take_ret HB.out hn20, rfl⟩
        · have hR0 := Lib.hid (take_none HI.out (.inr (by omega)))
          clear hA
          go_wp2
          go_step3
          exact ⟨⟨rfl, .inl ⟨rfl, hR0.out, _, _, _, _, _, _, _, _, _, _, _, _, _, _, _, _, _, _, _, _, _, _, _, _, _, _, _, _, _, _, _, _, _, _, _, _, _, _, _, _, _, _, _, _, _, _, _, _, _, rfl⟩⟩, by simp [intOf]; omega⟩
      · have hR0 := Lib.hid (take_none HI.out (.inl (by omega)))
        clear hA
        go_wp2
        go_step3
        exact ⟨⟨rfl, .inl ⟨rfl, hR0.out, _, _, _, _, _, _, _, _, _, _, _, _, _, _, _, _, _, _, _, _, _, _, _, _, _, _, _, _, _, _, _, _, _, _, _, _, _, _, _, _, _, _, _, _, _, _, _, _, _, rfl⟩⟩, by simp [intOf]; omega⟩
  · intro H
    have HI := Lib.hid hst
    have HH := Lib.hid H
    clear H hst hR hA
    go_wp2
    go_step3
    simp only [Exit.then]
    rename_i hK
    refine hK _ _ (HH.out 1 _ _ ⟨rfl, .inr ⟨rfl, 0, 0, _, _, _, _, _, _, _, _, _, _, _, _, _, _, _, _, _, _, _, _, _, _, _, _, _, _, _, _, _, _, _, _, _, _, _, _, _, _, _, _, _, rfl, HI.out⟩⟩ _ rfl)

end Go.Proofs.YtipmjleohadoeaaGreat

end

section
/- Package code by its contracts: TakeNumber at any place, TakeSigned, Signed. -/
namespace Go.Proofs.YtipmjleohadoeaaGreat
open Go.RowKit
set_option linter.unusedVariables false

/-- What is taken at a place. -/
def takeAt (l : List UInt8) (a : Int) : Option (Nat × Nat) := if a < 0 then none else Psp.take (l.drop a.toNat)

theorem takeAt_bd {l : List UInt8} {a : Int} {v m : Nat} (h : takeAt l a = some (v, m)) : 0 ≤ a ∧ v < 1099511627776 ∧ 1 ≤ m ∧ a + m ≤ l.length := by
  unfold takeAt at h
  split at h
  · cases h
  · have := Psp.take_bound h
    simp only [List.length_drop] at this
    omega

theorem taken_yes (x : Value) (n : Nat) (l : List UInt8) (a : Int) (v m : Nat) (w : World) (hx : Rd w w.heap.size 1 x n (l.map bv)) (h2 : a ≤ 9223372036854775807) (h : takeAt l a = some (v, m)) :
    Calls Tryz.prog 59 #[x, .int .i64 a] w fun e w' => e = .returned (.tuple #[.int .i64 (v : Int), .int .i64 (a + (m : Int)), .bool true]) ∧ w = w' := by
  have h0 := (takeAt_bd h).1
  have hb := hx.bd
  obtain ⟨hl, A, c, rfl, _, _, hc⟩ := hx
  obtain ⟨at0, rfl⟩ := Int.eq_ofNat_of_zero_le h0
  have hR : Psp.take (l.drop at0) = some (v, m) := by
    unfold takeAt at h
    rw [if_neg (by omega)] at h
    simpa using h
  refine (take_walk A n c l at0 _ w hR (fun hn => by obtain ⟨b, o, e, _, hh⟩ := hc hn; exact ⟨b, o, e, hh⟩) (by simpa using hl) hb (by omega)).mono fun e w' ⟨h1, h2⟩ => ?_
  exact ⟨h1, h2⟩

theorem taken_no (x : Value) (n : Nat) (l : List UInt8) (a : Int) (w : World) (hx : Rd w w.heap.size 1 x n (l.map bv)) (h1 : -9223372036854775808 ≤ a) (h2 : a ≤ 9223372036854775807) (h : takeAt l a = none) :
    Calls Tryz.prog 59 #[x, .int .i64 a] w fun e w' => e = .returned (.tuple #[.int .i64 0, .int .i64 0, .bool false]) ∧ w = w' := by
  have hb := hx.bd
  obtain ⟨hl, A, c, rfl, _, _, hc⟩ := hx
  by_cases h0 : a < 0
  · clear h hc hl
    go_enter Tryz.func59, Tryz.ntmps59
    go_wp2
    refine wp_scope_hops (fun lab a' w' => w' = w ∧ lab = 0 ∧ ∃ u0 u1 u2 u3 u4 u5 u6 u7 u8 u9 u10 u11 u12 u13 u14 u15 u16 u17 u18 u19 u20 u21 u22 u23 u24 u25 u26 u27 u28 u29 u30 u31 u32 u33 u34 u35 u36 u37 u38 u39 u40 u41 u42 u43 u44 u45 u46 u47 u48 : Value, a' = { tmps := #[u0, u1, u2, u3, u4, u5, u6, u7, u8, u9, u10, u11, u12, u13, u14, u15, u16, u17, u18, u19, u20, u21, u22, u23, u24, u25, u26, u27, u28, u29, u30, u31, u32, u33, u34, u35, u36, u37, u38, u39, u40, u41, u42, u43, u44, u45, u46, u47, u48], defers := [] }) (fun _ _ _ => 0) ?_ ?_
    · rintro lab a' w' ⟨rfl, rfl, u0, u1, u2, u3, u4, u5, u6, u7, u8, u9, u10, u11, u12, u13, u14, u15, u16, u17, u18, u19, u20, u21, u22, u23, u24, u25, u26, u27, u28, u29, u30, u31, u32, u33, u34, u35, u36, u37, u38, u39, u40, u41, u42, u43, u44, u45, u46, u47, u48, rfl⟩
      refine ⟨_, rfl, ?_⟩
      go_wp2
      go_ret3
      exact ⟨rfl, rfl⟩
    · intro _
      go_wp2
      go_step3
      exact ⟨rfl, rfl, _, _, _, _, _, _, _, _, _, _, _, _, _, _, _, _, _, _, _, _, _, _, _, _, _, _, _, _, _, _, _, _, _, _, _, _, _, _, _, _, _, _, _, _, _, _, _, _, _, rfl⟩
  · obtain ⟨at0, rfl⟩ := Int.eq_ofNat_of_zero_le (show 0 ≤ a by omega)
    have hR : Psp.take (l.drop at0) = none := by
      unfold takeAt at h
      rw [if_neg (by omega)] at h
      simpa using h
    refine (take_walk A n c l at0 _ w hR (fun hn => by obtain ⟨b, o, e, _, hh⟩ := hc hn; exact ⟨b, o, e, hh⟩) (by simpa using hl) hb (by omega)).mono fun e w' ⟨h1, h2⟩ => ?_
    exact ⟨h1, h2⟩

theorem takes_yes (x : Value) (n : Nat) (l : List UInt8) (a : Int) (v m : Nat) (w : World) (hx : Rd w w.heap.size 1 x n (l.map bv)) (h2 : a ≤ 9223372036854775807) (h : takeAt l a = some (v, m)) :
    Calls Tryz.prog 82 #[x, .int .i64 a] w fun e w' => e = .returned (.tuple #[.int .i64 (Psp.zag (v : Int)), .int .i64 (a + (m : Int)), .bool true]) ∧ w = w' := by
  have Hx := Lib.hid hx
  have H := Lib.hid h
  have hb := takeAt_bd h
  clear hx h
  go_enter Tryz.func82, Tryz.ntmps82
  go_wp2_with (first | (go_at_call 59; refine (taken_yes _ n l a v m _ Hx.out h2 H.out).mono ?_; rintro e w' ⟨rfl, rfl⟩) | (go_at_call 116; refine (zag_any _ _ (by omega) (by omega)).mono ?_; rintro e w' ⟨rfl, rfl⟩))
  go_ret3
  exact ⟨rfl, rfl⟩

theorem takes_no (x : Value) (n : Nat) (l : List UInt8) (a : Int) (w : World) (hx : Rd w w.heap.size 1 x n (l.map bv)) (h1 : -9223372036854775808 ≤ a) (h2 : a ≤ 9223372036854775807) (h : takeAt l a = none) :
    Calls Tryz.prog 82 #[x, .int .i64 a] w fun e w' => e = .returned (.tuple #[.int .i64 0, .int .i64 0, .bool false]) ∧ w = w' := by
  have Hx := Lib.hid hx
  have H := Lib.hid h
  clear hx h
  go_enter Tryz.func82, Tryz.ntmps82
  go_wp2_with (first | (go_at_call 59; refine (taken_no _ n l a _ Hx.out h1 h2 H.out).mono ?_; rintro e w' ⟨rfl, rfl⟩) | (go_at_call 116; refine (zag_any _ _ (by omega) (by omega)).mono ?_; rintro e w' ⟨rfl, rfl⟩))
  go_ret3
  exact ⟨rfl, rfl⟩

theorem signed_ok (x : Int) (w : World) (h0 : -549755813888 ≤ x) (h1 : x < 549755813888) :
    Calls Tryz.prog 111 #[.int .i64 x] w (NumOk w.heap.size w (Psp.zig x).toNat) := by
  have hz := Psp.zig_bd x
  go_enter Tryz.func111, Tryz.ntmps111
  go_wp2_with (first | (go_at_call 142; refine (zig_any _ _ (by omega) (by omega)).mono ?_; rintro e w' ⟨rfl, rfl⟩) | (go_at_call 110; refine (number_ok _ _ hz.1 hz.2).mono ?_; rintro e w' ⟨v, rfl, hown, hbel⟩))
  go_ret2
  exact ⟨_, rfl, hown, hbel⟩

theorem signed_no (x : Int) (w : World) (h : x < -549755813888 ∨ 549755813888 ≤ x) :
    Calls Tryz.prog 111 #[.int .i64 x] w fun e w' => e = .returned (.tuple #[.slice none 0 0, .bool false]) ∧ w = w' := by
  by_cases h1 : x < -549755813888
  · clear h
    go_enter Tryz.func111, Tryz.ntmps111
    go_wp2
    go_ret2
    exact ⟨rfl, rfl⟩
  · have h2 : 549755813888 ≤ x := by omega
    clear h
    go_enter Tryz.func111, Tryz.ntmps111
    go_wp2
    go_ret2
    exact ⟨rfl, rfl⟩

end Go.Proofs.YtipmjleohadoeaaGreat

end

section
/- The walks of the references' own Number and Take. -/
namespace Go.Proofs.YtipmjleohadoeaaGreat
open Go.RowKit
set_option linter.unusedVariables false

theorem r_num_next {N : Nat} {m : Int} {pre : List UInt8} {base : Nat} {w0 wr w' : World} {v' : Value} (h : ¬ m < 128) (hN : (Psp.num N).length ≤ 6) (hp : pre ++ Psp.num m.toNat = Psp.num N) (hb : Below base w0 wr)
    (ho : w'.ownsRow base 5 1 v' (pre.length + 1) (List.map bv pre ++ [Value.int .u8 (128 + m % 128)])) (hb' : Below base wr w') : NumInv N base w0 (m / 128) v' w' := by
  have h1 : ¬ m.toNat < 128 := by omega
  rw [Psp.num_big h1] at hp
  have h2 : (m / 128).toNat = m.toNat / 128 := by omega
  have he : Value.int .u8 (128 + m % 128) = bv (UInt8.ofNat (m.toNat % 128 + 128)) := by
    unfold bv
    rw [Psp.u8_toNat (by omega)]
    congr 1
    omega
  rw [he] at ho
  refine ⟨pre ++ [UInt8.ofNat (m.toNat % 128 + 128)], by rw [h2, ← hp]; simp, ?_, by simpa using ho, hb.trans hb'⟩
  have := congrArg List.length hp
  simp only [List.length_append, List.length_cons] at this
  have h3 := Psp.num_pos (m.toNat / 128)
  simp only [List.length_append, List.length_cons, List.length_nil]
  omega

theorem r_number_ok (x : Int) (w : World) (h0 : 0 ≤ x) (h1 : x < 1099511627776) :
    Calls Tryz.prog 71 #[.int .i64 x] w (NumOk w.heap.size w x.toNat) := by
  have hN6 := Psp.num_len6 (show x.toNat < 1099511627776 by omega)
  have hst : NumInv x.toNat w.heap.size w x (.slice none 0 0) w := ⟨[], rfl, by simp, World.ownsRow_nil _ _ _ _, Below.refl _ _⟩
  generalize x.toNat = N at *
  go_enter Tryz.func71, Tryz.ntmps71
  go_wp2
  go_loopw [0, 4] (fun n out wr => ∃ m : Int, n = .int .i64 m ∧ 0 ≤ m ∧ m < 1099511627776 ∧ NumInv N w.heap.size w m out wr) (fun n _ _ => (intOf n).toNat)
  case atStart => exact ⟨x, rfl, h0, h1, hst⟩
  case round =>
    obtain ⟨m, rfl, hm0, hm1, pre, hpre, hp6, hown, hbel⟩ := hrel
    have Hpre := Lib.hid hpre
    clear hpre hst
    have hsz := hbel.size
    by_cases hlt : m < 128
    · go_wp2_with (at_builtin; refine wpList_app1 bytesE rfl _ _ rfl w.heap.size u4 _ _ rfl hown _ rfl rfl (by simp [Value.oneCell']) (by omega) (by omega) hsz ?_; intro v' w' hown' _ hbel' _; clear hown)
      go_ret2
      exact num_end hm0 hlt Hpre.out hbel (by simpa using hown') hbel'
    · go_wp2_with (at_builtin; refine wpList_app1 bytesE rfl _ _ rfl w.heap.size u4 _ _ rfl hown _ rfl rfl (by simp [Value.oneCell']) (by omega) (by omega) hsz ?_; intro v' w' hown' _ hbel' _; clear hown)
      go_roundw
      case rel => exact ⟨_, rfl, by omega, by omega, r_num_next hlt hN6 Hpre.out hbel (by simpa using hown') hbel'⟩
      case measure => simp [intOf]; omega

theorem r_number_no (x : Int) (w : World) (h : x < 0 ∨ 1099511627776 ≤ x) :
    Calls Tryz.prog 71 #[.int .i64 x] w fun e w' => e = .returned (.tuple #[.slice none 0 0, .bool false]) ∧ w = w' := by
  by_cases h1 : x < 0
  · clear h
    go_enter Tryz.func71, Tryz.ntmps71
    go_wp2
    go_ret2
    exact ⟨rfl, rfl⟩
  · have h2 : 1099511627776 ≤ x := by omega
    clear h
    go_enter Tryz.func71, Tryz.ntmps71
    go_wp2
    go_ret2
    exact ⟨rfl, rfl⟩


end Go.Proofs.YtipmjleohadoeaaGreat

end
