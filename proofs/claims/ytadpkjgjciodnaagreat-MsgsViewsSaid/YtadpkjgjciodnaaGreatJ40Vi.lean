/- Requests in order, each once. No program in sight. The plain law of MsgsChanged: a quorum's votes to leave a view, made so, turned. -/
import Derived.Test.YtadpkjgjciodnaaGreatRhasVi
import Derived.Test.YtadpkjgjciodnaaGreatJ28Vi
import Derived.Test.YtadpkjgjciodnaaGreatJ27Vi
import Derived.Test.YtadpkjgjciodnaaGreatGgVi
section
namespace Psp
theorem cmpR_lt_trans {a b c : Req} (h1 : cmpR a b < 0) (h2 : cmpR b c < 0) : cmpR a c < 0 := by
  have h3 := cmpR_le (a := a) (b := b) (c := c) (by omega) (by omega)
  rcases cmpR_bd a c with h | h | h
  · omega
  · have := cmpR_zero.1 h
    subst this
    rw [cmpR_swap] at h2; omega
  · omega
theorem cmpR_lt_le {a b c : Req} (h1 : cmpR a b < 0) (h2 : cmpR b c ≤ 0) : cmpR a c < 0 := by
  rcases cmpR_bd b c with h | h | h
  · exact cmpR_lt_trans h1 (by omega)
  · rw [← cmpR_zero.1 h]; exact h1
  · omega
abbrev Up (l : List Req) : Prop := l.Pairwise (fun a b => cmpR a b < 0)
theorem up_rises : ∀ {l : List Req}, Up l → rises l = true
  | [], _ => rfl
  | [_], _ => rfl
  | x :: y :: l, h => by
    obtain ⟨h1, h2⟩ := List.pairwise_cons.1 h
    simp only [rises]
    rw [decide_eq_true (h1 y List.mem_cons_self), up_rises h2]; rfl
theorem posR_spec (r : Req) (l : List Req) : ∀ k, k ≤ l.length → (∀ j x, posR r l k ≤ j → j < k → l[j]? = some x → cmpR r x < 0) ∧ (posR r l k = 0 ∨ ∃ x, l[posR r l k - 1]? = some x ∧ ¬ cmpR r x < 0)
  | 0, _ => ⟨fun j x _ h => by omega, Or.inl rfl⟩
  | k + 1, hk => by
    obtain ⟨x, hx⟩ : ∃ x, l[k]? = some x := ⟨l[k]'(by omega), List.getElem?_eq_getElem (by omega)⟩
    by_cases hc : cmpR r x < 0
    · rw [posR_go hx hc]
      obtain ⟨h1, h2⟩ := posR_spec r l k (by omega)
      refine ⟨fun j y hj hjk hy => ?_, h2⟩
      by_cases he : j = k
      · subst he
        rw [hx] at hy; injection hy with hy; subst hy; exact hc
      · exact h1 j y hj (by omega) hy
    · rw [posR_stop hx hc]
      exact ⟨fun j y hj hjk => by omega, Or.inr ⟨x, by rw [Nat.add_sub_cancel]; exact hx, hc⟩⟩
theorem ins_up {l : List Req} (r : Req) (h : Up l) : Up (insR l r) := by
  unfold insR
  split
  · exact h
  · rename_i hm
    obtain ⟨h1, h2⟩ := posR_spec r l l.length (Nat.le_refl _)
    have hle := posR_le r l l.length
    obtain ⟨p, hp⟩ : ∃ p, posR r l l.length = p := ⟨_, rfl⟩
    rw [hp] at h1 h2 hle ⊢
    have hd : ∀ x ∈ l.drop p, cmpR r x < 0 := by
      intro x hx
      obtain ⟨j, hj, e⟩ := List.mem_iff_getElem.1 hx
      rw [List.length_drop] at hj
      refine h1 (p + j) x (by omega) (by omega) ?_
      rw [← List.getElem?_drop, List.getElem?_eq_getElem (by rw [List.length_drop]; exact hj), e]
    have ht : ∀ x ∈ l.take p, cmpR x r < 0 := by
      intro x hx
      have hxl := List.mem_of_mem_take hx
      rcases h2 with h2 | ⟨y, hy, hc⟩
      · subst h2; simp at hx
      · have hyr : cmpR y r ≤ 0 := by rw [cmpR_swap]; omega
        have hyl : y ∈ l := List.mem_of_getElem? hy
        have hne : cmpR x r ≠ 0 := fun h0 => hm (by rw [← cmpR_zero.1 h0]; exact hxl)
        obtain ⟨j, hj, e⟩ := List.mem_iff_getElem.1 hx
        rw [List.length_take] at hj
        have hxj : l[j]? = some x := by
          rw [List.getElem?_eq_getElem (by omega)]
          rw [List.getElem_take] at e
          rw [e]
        by_cases hjp : j = p - 1
        · subst hjp
          rw [hy] at hxj
          injection hxj with hxj
          subst hxj
          rcases cmpR_bd y r with q | q | q <;> omega
        · have hlt : cmpR x y < 0 := by
            obtain ⟨a1, a2⟩ := List.getElem?_eq_some_iff.1 hxj
            obtain ⟨b1, b2⟩ := List.getElem?_eq_some_iff.1 hy
            rw [← a2, ← b2]
            exact List.pairwise_iff_getElem.1 h j (p - 1) a1 b1 (by omega)
          exact cmpR_lt_le hlt hyr
    unfold Up
    rw [List.pairwise_append]
    refine ⟨h.sublist (List.take_sublist _ _), List.pairwise_cons.2 ⟨hd, h.sublist (List.drop_sublist _ _)⟩, fun a ha b hb => ?_⟩
    rcases List.mem_cons.1 hb with rfl | hb
    · exact ht a ha
    · exact cmpR_lt_trans (ht a ha) (hd b hb)
theorem ins_mem_iff {l : List Req} {r x : Req} : x ∈ insR l r ↔ x = r ∨ x ∈ l := by
  refine ⟨ins_mem, fun h => ?_⟩
  unfold insR
  split
  · rename_i hm
    rcases h with h | h
    · rw [h]; exact hm
    · exact h
  · rw [List.mem_append, List.mem_cons]
    rcases h with h | h
    · exact Or.inr (Or.inl h)
    · rw [← List.take_append_drop (posR r l l.length) l] at h
      rcases List.mem_append.1 h with h | h
      · exact Or.inl h
      · exact Or.inr (Or.inr h)
theorem fold_up : ∀ (l acc : List Req), Up acc → Up (l.foldl insR acc)
  | [], _, h => h
  | r :: l, _, h => fold_up l _ (ins_up r h)
theorem fold_mem : ∀ (l acc : List Req) (x : Req), x ∈ l.foldl insR acc ↔ x ∈ acc ∨ x ∈ l
  | [], _, _ => by simp
  | r :: l, acc, x => by
    rw [List.foldl_cons, fold_mem l _ x, ins_mem_iff, List.mem_cons]
    constructor
    · rintro ((h | h) | h)
      · exact Or.inr (Or.inl h)
      · exact Or.inl h
      · exact Or.inr (Or.inr h)
    · rintro (h | h | h)
      · exact Or.inl (Or.inr h)
      · exact Or.inl (Or.inl h)
      · exact Or.inr h
theorem ord_up (l : List Req) : Up (ordR l) := fold_up l [] List.Pairwise.nil
theorem ord_mem_iff (l : List Req) (x : Req) : x ∈ ordR l ↔ x ∈ l := by unfold ordR; rw [fold_mem]; simp
end Psp
end
section
namespace Go.Proofs.YtadpkjgjciodnaaGreat
open Go.RowKit
set_option linter.unusedVariables false
set_option linter.unusedSimpArgs false

theorem kI_lt {f s : Int} (hf : 1 ≤ f ∧ f ≤ 4) {i j : Nat} (h : i < j) : kI f s i < kI f s j := by
  have e1 : Psp.nodes f = 3 * f + 1 := by unfold Psp.nodes; rw [if_pos hf]
  have e2 : Psp.quorum f = 2 * f + 1 := by unfold Psp.quorum; rw [if_pos hf]
  unfold kI
  rw [e1, e2]
  split <;> split <;> omega
theorem kI_bd {f s : Int} (hf : 1 ≤ f ∧ f ≤ 4) {i : Nat} (h : (i : Int) < 2 * f + 1) : 0 ≤ kI f s i ∧ kI f s i < 3 * f + 1 := by
  have e1 : Psp.nodes f = 3 * f + 1 := by unfold Psp.nodes; rw [if_pos hf]
  have e2 : Psp.quorum f = 2 * f + 1 := by unfold Psp.quorum; rw [if_pos hf]
  unfold kI
  rw [e1, e2]
  split <;> omega

theorem upTo_range {f s N : Int} (hf : 1 ≤ f ∧ f ≤ 4) : ∀ (n k : Nat) (p : Int), (∀ j, j < k + n → kI f s j < N) → p < kI f s k → (n = 0 ∨ True) → Psp.upTo N p ((List.range' k n).map (kI f s)) = true
  | 0, _, _, _, _, _ => rfl
  | n + 1, k, p, h, hp, _ => by
    rw [List.range'_succ, List.map_cons]
    unfold Psp.upTo
    have h1 := h k (by omega)
    have h2 := upTo_range (s := s) hf n (k + 1) (kI f s k) (fun j hj => h j (by omega)) (kI_lt hf (by omega)) (Or.inr trivial)
    rw [if_neg (by omega)]
    exact h2

theorem may_of {f : Int} (hf : 1 ≤ f ∧ f ≤ 4) : Psp.may f = true := by unfold Psp.may; simp; omega
end Go.Proofs.YtadpkjgjciodnaaGreat
end
