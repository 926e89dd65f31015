/- Slices that the call owns, over other work: what came behind; two of them of unlike elements. Plain facts on worlds. -/
import Derived.Test.YtmbdailffhdonaaLater
namespace Go.Proofs.Ytmbdailffhdonaa
open Go.RowKit
set_option linter.unusedVariables false

section
variable {w w' : World} {base base' k k' n n' : Nat} {e e' : TypeId} {v v' : Value} {xs xs' : List Value}

theorem own_below (h : w.ownsRow base e k v n xs) (hb : Below w.heap.size w w') : w'.ownsRow base e k v n xs := by
  refine ⟨h.1, ?_⟩
  rcases h.2 with hn | ⟨g, cap, cur, rfl, hbg, hg, r⟩
  · exact .inl hn
  · exact .inr ⟨g, cap, cur, rfl, hbg, (hb.block g (Array.getElem?_eq_some_iff.1 hg).1).trans hg, r⟩

theorem own_apart (h : w.ownsRow base e k v n xs) (h' : w.ownsRow base' e' k' v' n' xs') (hne : e ≠ e') : v.ownBlock = none ∨ v.ownBlock ≠ v'.ownBlock := by
  rcases h.2 with ⟨rfl, _⟩ | ⟨g, cap, cur, rfl, _, hg, _⟩
  · exact .inl rfl
  · refine .inr ?_
    rcases h'.2 with ⟨rfl, _⟩ | ⟨g', cap', cur', rfl, _, hg', _⟩
    · simp [Value.ownBlock]
    · intro he
      have e1 : g = g' := by simpa [Value.ownBlock] using he
      subst e1
      rw [hg] at hg'
      injection hg' with hg'
      injection hg' with _ ht
      exact hne ht

theorem own_slice (h : w.ownsRow base e k v n xs) : ∃ A c, v = .slice A n c ∧ n ≤ c ∧ c ≤ 9223372036854775807 ∧ (0 < n → ∃ g, A = some ⟨g, 0, none⟩ ∧ base ≤ g ∧ g < w.heap.size ∧ Lies w g 0 xs) := by
  have hr := Rd.of_own h
  obtain ⟨_, A, c, rfl, hc, hm, hl⟩ := hr
  unfold maxLen at hm
  refine ⟨A, c, rfl, hc, by omega, fun hn => ?_⟩
  obtain ⟨b, o, rfl, hb, hlies⟩ := hl hn
  obtain ⟨g, cap, e1, hg, hlt⟩ := h.form hn
  injection e1 with e1
  injection e1 with e1
  injection e1 with e2 e3
  subst e2 e3
  exact ⟨b, rfl, hg, hlt, hlies⟩

theorem own_lt (h : w.ownsRow base e k v n xs) : ∀ j, v.ownBlock = some j → base ≤ j := fun j hj => (h.lt j hj).1

/-- A cell below 'base' is as it was behind an append onto what is owned from 'base' on. -/
theorem own_far (h : w.ownsRow base e k v n xs) (g : w.grownBy w' v.ownBlock) {b o : Nat} (hb : b < base) (hbase : base ≤ w.heap.size) : w'.cell? ⟨b, o, none⟩ = w.cell? ⟨b, o, none⟩ :=
  g.cell_far ⟨b, o, none⟩ (Nat.lt_of_lt_of_le hb hbase) (fun he => by have := (h.lt b he.symm).1; omega)

theorem own_cell {A : Option Addr} {c : Nat} (h : w.ownsRow base e 1 (.slice A n c) n xs) {j : Nat} (hj : j < n) : ∃ g, A = some ⟨g, 0, none⟩ ∧ ∃ hx : j < xs.length, w.cell? ⟨g, j, none⟩ = some xs[j] := by
  obtain ⟨A', c', e1, _, _, hl⟩ := own_slice h
  injection e1 with e1 _ _
  subst e1
  obtain ⟨g, rfl, _, _, hlies⟩ := hl (by omega)
  have hx : j < xs.length := by have := h.1; omega
  refine ⟨g, rfl, hx, ?_⟩
  have := hlies.at_ hx
  rwa [Nat.zero_add] at this
end

end Go.Proofs.Ytmbdailffhdonaa
