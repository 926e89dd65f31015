/- Comparing requests: an order. No program in sight. -/
import Derived.Test.YtadpkjgjciodnaaGreatCmpPr
namespace Psp
def lexI : List Int → List Int → Int
  | x :: xs, y :: ys => if x < y then -1 else if y < x then 1 else lexI xs ys
  | _, _ => 0
theorem orI_cons (z : Int) (l : List Int) : orI (z :: l) = if z = 0 then orI l else z := rfl
theorem orI_nil : orI [] = 0 := rfl
theorem orI_cmp (x y : Int) (l : List Int) : orI (cmpI x y :: l) = if x < y then -1 else if y < x then 1 else orI l := by
  rw [orI_cons]
  unfold cmpI
  by_cases h1 : x < y
  · simp [h1]
  · by_cases h2 : y < x <;> simp [h1, h2]
def nums (a : Req) : List Int := [a.c, a.t, a.k, a.y, a.v, a.s]
theorem cmpR_lex (a b : Req) : cmpR a b = lexI (nums a) (nums b) := by
  simp only [cmpR, nums, orI_cmp, orI_nil, lexI]
theorem lex_bd : ∀ l r : List Int, lexI l r = -1 ∨ lexI l r = 0 ∨ lexI l r = 1
  | [], _ => Or.inr (Or.inl (by simp [lexI]))
  | _ :: _, [] => Or.inr (Or.inl (by simp [lexI]))
  | x :: xs, y :: ys => by
    simp only [lexI]
    have := lex_bd xs ys
    split
    · exact Or.inl rfl
    · split
      · exact Or.inr (Or.inr rfl)
      · exact this
theorem lex_swap : ∀ l r : List Int, lexI r l = - lexI l r
  | [], [] => by simp [lexI]
  | [], _ :: _ => by simp [lexI]
  | _ :: _, [] => by simp [lexI]
  | x :: xs, y :: ys => by
    simp only [lexI]
    have := lex_swap xs ys
    by_cases h1 : x < y
    · rw [if_pos h1, if_neg (by omega), if_pos h1]; rfl
    · by_cases h2 : y < x
      · rw [if_pos h2, if_neg h1, if_pos h2]
      · rw [if_neg h2, if_neg h1, if_neg h1, if_neg h2, this]
theorem lex_zero : ∀ l r : List Int, l.length = r.length → lexI l r = 0 → l = r
  | [], [], _, _ => rfl
  | [], _ :: _, h, _ => by simp at h
  | _ :: _, [], h, _ => by simp at h
  | x :: xs, y :: ys, h, g => by
    simp only [lexI] at g
    by_cases h1 : x < y
    · rw [if_pos h1] at g; omega
    · rw [if_neg h1] at g
      by_cases h2 : y < x
      · rw [if_pos h2] at g; omega
      · rw [if_neg h2] at g
        rw [lex_zero xs ys (by simpa using h) g, show x = y by omega]
theorem lex_self : ∀ l : List Int, lexI l l = 0
  | [] => rfl
  | x :: xs => by simp only [lexI]; rw [if_neg (by omega), if_neg (by omega)]; exact lex_self xs
theorem lex_le : ∀ l m r : List Int, l.length = m.length → m.length = r.length → lexI l m ≤ 0 → lexI m r ≤ 0 → lexI l r ≤ 0
  | [], [], [], _, _, _, _ => by simp [lexI]
  | [], _ :: _, _, h, _, _, _ => by simp at h
  | _ :: _, [], _, h, _, _, _ => by simp at h
  | _, [], _ :: _, _, h, _, _ => by simp at h
  | _, _ :: _, [], _, h, _, _ => by simp at h
  | x :: xs, y :: ys, z :: zs, h, g, k1, k2 => by
    simp only [lexI] at k1 k2 ⊢
    by_cases a1 : x < y
    · by_cases b1 : y < z
      · rw [if_pos (by omega)]; omega
      · rw [if_neg b1] at k2
        by_cases b2 : z < y
        · rw [if_pos b2] at k2; omega
        · rw [if_pos (by omega)]; omega
    · rw [if_neg a1] at k1
      by_cases a2 : y < x
      · rw [if_pos a2] at k1; omega
      · rw [if_neg a2] at k1
        have hxy : x = y := by omega
        subst hxy
        by_cases b1 : x < z
        · rw [if_pos b1]; omega
        · rw [if_neg b1] at k2 ⊢
          by_cases b2 : z < x
          · rw [if_pos b2] at k2; omega
          · rw [if_neg b2] at k2 ⊢
            exact lex_le xs ys zs (by simpa using h) (by simpa using g) k1 k2
theorem nums_inj {a b : Req} (h : nums a = nums b) : a = b := by
  cases a; cases b
  simp only [nums, List.cons.injEq, and_true] at h
  obtain ⟨rfl, rfl, rfl, rfl, rfl, rfl⟩ := h
  rfl
theorem cmpR_bd (a b : Req) : cmpR a b = -1 ∨ cmpR a b = 0 ∨ cmpR a b = 1 := by rw [cmpR_lex]; exact lex_bd _ _
theorem cmpR_swap (a b : Req) : cmpR b a = - cmpR a b := by rw [cmpR_lex, cmpR_lex]; exact lex_swap _ _
theorem cmpR_zero {a b : Req} : cmpR a b = 0 ↔ a = b := ⟨fun h => nums_inj (lex_zero _ _ rfl (by rw [← cmpR_lex]; exact h)), fun h => by subst h; rw [cmpR_lex]; exact lex_self _⟩
theorem cmpR_le {a b c : Req} (h1 : cmpR a b ≤ 0) (h2 : cmpR b c ≤ 0) : cmpR a c ≤ 0 := by
  rw [cmpR_lex] at *
  exact lex_le _ (nums b) _ rfl rfl h1 h2
end Psp
