/- Plain facts on quorums' rows: how many two of them share; rows that do not rise. -/
import Derived.Test.YtekpnihdbfgcdaaVote
namespace Psp
theorem upTo_iff {n : Int} : ∀ (l : List Int) (z : Int), upTo n z l = true → l.Pairwise (· < ·) ∧ ∀ m ∈ l, z < m ∧ m < n
  | [], _, _ => ⟨List.Pairwise.nil, fun m h => by simp at h⟩
  | x :: l, z, h => by
    rw [upTo] at h
    by_cases hx : x ≤ z ∨ n ≤ x
    · rw [if_pos hx] at h; cases h
    · rw [if_neg hx] at h
      obtain ⟨h1, h2⟩ := upTo_iff l x h
      refine ⟨List.pairwise_cons.2 ⟨fun m hm => (h2 m hm).1, h1⟩, fun m hm => ?_⟩
      rcases List.mem_cons.1 hm with rfl | hm
      · omega
      · have := h2 m hm; omega

theorem filter_ne_len (k : Int) : ∀ (l : List Int), l.Pairwise (· ≠ ·) → l.length ≤ (l.filter (fun m => decide (m ≠ k))).length + 1
  | [], _ => by simp
  | x :: l, h => by
    obtain ⟨h1, h2⟩ := List.pairwise_cons.1 h
    by_cases hx : x = k
    · have e : l.filter (fun m => decide (m ≠ k)) = l := List.filter_eq_self.2 fun m hm => by
        have := h1 m hm; simp; omega
      rw [List.filter_cons_of_neg (by simp [hx]), e]; simp
    · rw [List.filter_cons_of_pos (by simp [hx])]
      have := filter_ne_len k l h2
      simp; simp at this; omega

/-- Unlike numbers from 0 to n - 1 are at most n. -/
theorem nodup_le : ∀ (n : Nat) (l : List Int), l.Pairwise (· ≠ ·) → (∀ m ∈ l, 0 ≤ m ∧ m < n) → l.length ≤ n
  | 0, l, _, h => by
    cases l with
    | nil => simp
    | cons x l => have := h x (by simp); omega
  | n + 1, l, hp, h => by
    have h1 := filter_ne_len (n : Int) l hp
    have h2 := nodup_le n (l.filter (fun m => decide (m ≠ (n : Int)))) (hp.filter _) fun m hm => by
      obtain ⟨a, b⟩ := List.mem_filter.1 hm
      have := h m a
      simp at b
      omega
    omega

theorem meet {a b : List Int} {p : Int → Bool} {n k : Nat} (ha : a.Pairwise (· < ·)) (hb : b.Pairwise (· < ·)) (ba : ∀ m ∈ a, 0 ≤ m ∧ m < n) (bb : ∀ m ∈ b, 0 ≤ m ∧ m < n) (hp : ∀ m, p m = true ↔ m ∈ b)
    (hl : n + k ≤ a.length + b.length) : k ≤ (a.filter p).length := by
  have h1 := nodup_le n (a.filter (fun m => !p m) ++ b) (List.pairwise_append.2 ⟨(ha.filter _).imp fun h => by omega, hb.imp fun h => by omega, fun x hx y hy => by
      obtain ⟨_, h⟩ := List.mem_filter.1 hx
      rintro rfl
      rw [(hp x).2 hy] at h
      cases h⟩) fun m hm => by
    rcases List.mem_append.1 hm with hm | hm
    · exact ba m (List.mem_filter.1 hm).1
    · exact bb m hm
  have h2 : ∀ l : List Int, (l.filter p).length + (l.filter (fun m => !p m)).length = l.length := by
    intro l
    induction l with
    | nil => rfl
    | cons x l ih => cases h : p x <;> simp [h] <;> omega
  have := h2 a
  rw [List.length_append] at h1
  omega

theorem occ_one {m : Int} : ∀ {l : List Int}, l.Pairwise (· < ·) → m ∈ l → l.countP (fun x => decide (x = m)) = 1
  | x :: l, hp, hm => by
    obtain ⟨h1, h2⟩ := List.pairwise_cons.1 hp
    by_cases hx : x = m
    · subst hx
      have : l.countP (fun y => decide (y = x)) = 0 := List.countP_eq_zero.2 fun y hy => by have := h1 y hy; simp; omega
      rw [List.countP_cons_of_pos (by simp), this]
    · rw [List.countP_cons_of_neg (by simp [hx])]
      rcases List.mem_cons.1 hm with rfl | hm
      · exact absurd rfl hx
      · exact occ_one h2 hm

/-- With two neighbours changed about a row rises no more. -/
theorem turned_not {n : Int} : ∀ (l : List Int) (z : Int) (i : Nat) (x y : Int), l.Pairwise (· < ·) → l[i]? = some x → l[i + 1]? = some y → upTo n z ((l.set i y).set (i + 1) x) = false
  | [], _, i, _, _, _, h, _ => by simp at h
  | a :: l, z, 0, x, y, hp, h0, h1 => by
    simp at h0; subst h0
    match l, h1 with
    | b :: l, h1 =>
      simp at h1; subst h1
      have : a < b := (List.pairwise_cons.1 hp).1 b (by simp)
      simp only [List.set_cons_zero, List.set_cons_succ, upTo]
      split
      · rfl
      · rw [if_pos (by omega)]
  | a :: l, z, i + 1, x, y, hp, h0, h1 => by
    simp only [List.set_cons_succ, upTo]
    split
    · rfl
    · exact turned_not l a i x y (List.pairwise_cons.1 hp).2 (by simpa using h0) (by simpa using h1)
theorem snoc_not {n m : Int} (hm : n ≤ m) : ∀ (l : List Int) (z : Int), upTo n z (l ++ [m]) = false
  | [], z => by simp [upTo, hm]
  | x :: l, z => by
    rw [List.cons_append, upTo]
    split
    · rfl
    · exact snoc_not hm l x

theorem rising_parts {l : List Int} {f : Int} (f1 : 1 ≤ f) (f2 : f ≤ 4) (h : rising l f = true) : (l.length : Int) = 2 * f + 1 ∧ l.Pairwise (· < ·) ∧ (∀ m ∈ l, 0 ≤ m ∧ m < 3 * f + 1) := by
  have e1 : quorum f = 2 * f + 1 := by unfold quorum; rw [if_pos ⟨f1, f2⟩]
  have e2 : nodes f = 3 * f + 1 := by unfold nodes; rw [if_pos ⟨f1, f2⟩]
  unfold rising at h
  rw [Bool.and_eq_true, Bool.and_eq_true, decide_eq_true_eq, e1, e2] at h
  obtain ⟨_, h1, h2⟩ := h
  obtain ⟨h3, h4⟩ := upTo_iff _ _ h2
  exact ⟨h1, h3, fun m hm => by have := h4 m hm; omega⟩
end Psp
