/- The reference: Rises, Right; reqs.Batch. -/
import Derived.Test.YtnlnkcljehafkaaRcmp
import Derived.Test.YtnlnkcljehafkaaRs
namespace Psp
/-- In order, each once. -/
def rises : List Req → Bool
  | a :: b :: l => decide (cmpR a b < 0) && rises (b :: l)
  | _ => true
theorem rises_no : ∀ {l : List Req} {k : Nat} {a b : Req}, l[k]? = some a → l[k + 1]? = some b → 0 ≤ cmpR a b → rises l = false
  | [], k, a, b, h, _, _ => by simp at h
  | [x], 0, a, b, _, h, _ => by simp at h
  | [x], k + 1, a, b, h, _, _ => by simp at h
  | x :: y :: l, 0, a, b, h1, h2, h => by
    simp at h1 h2; subst h1 h2
    simp only [rises]; rw [decide_eq_false (by omega)]; rfl
  | x :: y :: l, k + 1, a, b, h1, h2, h => by
    simp only [rises]
    rw [rises_no (l := y :: l) (k := k) (by simpa using h1) (by simpa using h2) h, Bool.and_false]
theorem rises_yes : ∀ {l : List Req}, (∀ k a b, l[k]? = some a → l[k + 1]? = some b → cmpR a b < 0) → rises l = true
  | [], _ => rfl
  | [x], _ => rfl
  | x :: y :: l, h => by
    simp only [rises]
    rw [decide_eq_true (h 0 x y rfl rfl), rises_yes (l := y :: l) (fun k a b h1 h2 => h (k + 1) a b (by simpa using h1) (by simpa using h2))]
    rfl
end Psp
namespace Go.Proofs.Ytnlnkcljehafkaa
open Go.RowKit
set_option linter.unusedVariables false

theorem ri_range {α : Type} {f : α → List Value} {k : Nat} (hf : ∀ a, (f a).length = k) {w : World} {b o : Nat} {l : List α} (h : Lies w b o (l.flatMap f)) {i : Nat} (hi : i < l.length) : w.rangeAt b (o + i * k) (f l[i]) := by
  intro j v hv
  have hj : j < k := by have := (List.getElem?_eq_some_iff.1 hv).1; rwa [hf] at this
  have h1 := flat_get (f := f) (k := k) hf l i j hj
  rw [List.getElem?_eq_getElem hi] at h1
  rw [Nat.add_assoc]
  exact h _ v (by rw [h1]; exact hv)
theorem ri_elem {w : World} {P : Nat → Prop} {v : Value} {n : Nat} {l : List Psp.Req} (h : RdP w P 6 v n (l.flatMap rq)) (hl : l.length = n) (hn : 0 < n) : ∃ b o c, v = .slice (some ⟨b, o, none⟩) n c ∧ b < w.heap.size ∧ n ≤ c ∧ c ≤ 9223372036854775807 ∧ ∀ (k : Nat) (a : Psp.Req), l[k]? = some a → ∀ w' : World, w'.heap[b]? = w.heap[b]? → w'.rangeAt b (o + k * 6) (rq a) := by
  obtain ⟨_, A, c, rfl, h1, h2, h3⟩ := h.parts
  obtain ⟨b, o, rfl, _, hb, hx⟩ := h3 hn
  refine ⟨b, o, c, rfl, hb, h1, h2, fun k a ha w' hw => ?_⟩
  obtain ⟨hk, he⟩ := List.getElem?_eq_some_iff.1 ha
  have := ri_range (f := rq) (k := 6) (fun _ => rfl) hx hk
  rw [he] at this
  exact range_keep this hw

end Go.Proofs.Ytnlnkcljehafkaa
