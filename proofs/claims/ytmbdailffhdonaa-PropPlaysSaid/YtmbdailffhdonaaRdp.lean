/- Slices that read as lists in blocks of a kind; what keeps them. Lines out of Pm, Pw2, Wrw (gen_rdp.py): never import it beside these. -/
import Derived.Test.YtmbdailffhdonaaStep
import Derived.Test.YtmbdailffhdonaaReqs
namespace Go.Proofs.Ytmbdailffhdonaa
open Go.RowKit
set_option linter.unusedVariables false

/-- The slice value v has n elements of k cells, which are xs and lie in a block of P. -/
def RdP (w : World) (P : Nat → Prop) (k : Nat) (v : Value) (n : Nat) (xs : List Value) : Prop :=
  xs.length = n * k ∧ ∃ A c, v = .slice A n c ∧ n ≤ c ∧ c ≤ maxLen ∧ (0 < n → ∃ b o, A = some ⟨b, o, none⟩ ∧ P b ∧ b < w.heap.size ∧ Lies w b o xs)
section
variable {w w' : World} {P P' : Nat → Prop} {B k n : Nat} {v : Value} {xs : List Value}
theorem RdP.keep (h : RdP w P k v n xs) (hs : w.heap.size ≤ w'.heap.size) (hk : ∀ b, P b → b < w.heap.size → w'.heap[b]? = w.heap[b]?) : RdP w' P k v n xs := by
  obtain ⟨h1, A, c, h2, h3, h4, h5⟩ := h
  refine ⟨h1, A, c, h2, h3, h4, fun hn => ?_⟩
  obtain ⟨b, o, e, hb, hlt, hl⟩ := h5 hn
  exact ⟨b, o, e, hb, by omega, hl.keep (hk b hb hlt)⟩
theorem RdP.mono (h : RdP w P k v n xs) (hP : ∀ b, b < w.heap.size → P b → P' b) : RdP w P' k v n xs := by
  obtain ⟨h1, A, c, h2, h3, h4, h5⟩ := h
  refine ⟨h1, A, c, h2, h3, h4, fun hn => ?_⟩
  obtain ⟨b, o, e, hb, hlt, hl⟩ := h5 hn
  exact ⟨b, o, e, hP b hlt hb, hlt, hl⟩
theorem RdP.fp {S : Nat → Prop} (h : RdP w P k v n xs) (g : Fp S w w') (hs : ∀ b, P b → ¬ S b) : RdP w' P k v n xs := h.keep g.size fun b hb hlt => g.block b hlt (hs b hb)
theorem RdP.below (h : RdP w P k v n xs) (g : Below w.heap.size w w') : RdP w' P k v n xs := h.keep g.size fun b hb hlt => g.block b hlt
theorem RdP.to_rd (h : RdP w P k v n xs) : Rd w w.heap.size k v n xs := by
  obtain ⟨h1, A, c, h2, h3, h4, h5⟩ := h
  refine ⟨h1, A, c, h2, h3, h4, fun hn => ?_⟩
  obtain ⟨b, o, e, hb, hlt, hl⟩ := h5 hn
  exact ⟨b, o, e, hlt, hl⟩
theorem Rd.to_p (h : Rd w B k v n xs) (hB : B ≤ w.heap.size) : RdP w (fun b => b < B) k v n xs := by
  obtain ⟨h1, A, c, h2, h3, h4, h5⟩ := h
  refine ⟨h1, A, c, h2, h3, h4, fun hn => ?_⟩
  obtain ⟨b, o, e, hb, hl⟩ := h5 hn
  exact ⟨b, o, e, hb, by omega, hl⟩
theorem RdP.none_ : RdP w P k (.slice none 0 0) 0 [] := ⟨by simp, none, 0, rfl, Nat.le_refl _, Nat.zero_le _, fun h => absurd h (by omega)⟩
/-- What is owned reads as itself, in its own block. -/
theorem RdP.of_own {base : Nat} {e : TypeId} (h : w.ownsRow base e k v n xs) : RdP w (fun b => v.ownBlock = some b ∧ base ≤ b) k v n xs := by
  have hr := Rd.of_own h
  obtain ⟨h1, A, c, rfl, h3, h4, h5⟩ := hr
  refine ⟨h1, A, c, rfl, h3, h4, fun hn => ?_⟩
  obtain ⟨b, o, rfl, hb, hl⟩ := h5 hn
  have h6 : (Value.slice (some ⟨b, o, none⟩) n c).ownBlock = some b := rfl
  exact ⟨b, o, rfl, ⟨h6, (h.lt b h6).1⟩, hb, hl⟩
/-- As the walk wants it. -/
theorem RdP.parts (h : RdP w P k v n xs) : xs.length = n * k ∧ ∃ A c, v = .slice A n c ∧ n ≤ c ∧ c ≤ 9223372036854775807 ∧ (0 < n → ∃ b o, A = some ⟨b, o, none⟩ ∧ P b ∧ b < w.heap.size ∧ Lies w b o xs) := by
  obtain ⟨h1, A, c, h2, h3, h4, h5⟩ := h
  unfold maxLen at h4
  exact ⟨h1, A, c, h2, h3, by omega, h5⟩
end

section
variable {w w' : World} {P P' : Nat → Prop} {k n : Nat} {v : Value} {xs : List Value}
theorem own_keep {base : Nat} {e : TypeId} {k n : Nat} {v : Value} {xs : List Value} (h : w.ownsRow base e k v n xs) (hk : ∀ b, v.ownBlock = some b → w'.heap[b]? = w.heap[b]?) : w'.ownsRow base e k v n xs := by
  refine ⟨h.1, ?_⟩
  rcases h.2 with hn | ⟨b, cap, cur, rfl, hb, hh, r⟩
  · exact .inl hn
  · exact .inr ⟨b, cap, cur, rfl, hb, (hk b rfl).trans hh, r⟩
/-- What of a world is wanted for all that reads by P to read by P' in another. -/
def Keeps (P P' : Nat → Prop) (w w' : World) : Prop := w.heap.size ≤ w'.heap.size ∧ ∀ b, P b → b < w.heap.size → w'.heap[b]? = w.heap[b]? ∧ P' b
theorem RdP.keeps (h : RdP w P k v n xs) (g : Keeps P P' w w') : RdP w' P' k v n xs := by
  obtain ⟨h1, A, c, h2, h3, h4, h5⟩ := h
  refine ⟨h1, A, c, h2, h3, h4, fun hn => ?_⟩
  obtain ⟨b, o, e, hb, hlt, hl⟩ := h5 hn
  exact ⟨b, o, e, (g.2 b hb hlt).2, by have := g.1; omega, hl.keep (g.2 b hb hlt).1⟩
theorem Keeps.below (g : Below w.heap.size w w') : Keeps P P w w' := ⟨g.size, fun b hb hlt => ⟨g.block b hlt, hb⟩⟩
theorem Keeps.mono (hP : ∀ b, b < w.heap.size → P b → P' b) : Keeps P P' w w := ⟨Nat.le_refl _, fun b hb hlt => ⟨rfl, hP b hlt hb⟩⟩
theorem RdP.one (h : RdP w P k v n xs) : v.oneCell' = true := by obtain ⟨_, A, c, rfl, _⟩ := h; rfl
end
def Off (W : World) (S : Nat → Prop) (bm : Nat) (b : Nat) : Prop := b < W.heap.size ∧ ¬ S b ∧ b ≠ bm
theorem Off.below {W W' : World} {S : Nat → Prop} {bm b : Nat} (h : Off W S bm b) (hb : Below W.heap.size W W') : Off W' S bm b := ⟨Nat.lt_of_lt_of_le h.1 hb.size, h.2⟩
theorem Off.seal {W W' : World} {S S' T : Nat → Prop} {bm b : Nat} (h : Off W S bm b) (hf : Fp T W W') (hS : ∀ b, S' b → S b ∨ W.heap.size ≤ b) : Off W' S' bm b :=
  ⟨Nat.lt_of_lt_of_le h.1 hf.size, fun hh => by
    rcases hS b hh with h1 | h1
    · exact h.2.1 h1
    · have := h.1; omega, h.2.2⟩
theorem Off.new {w : World} {S : Nat → Prop} {bm : Nat} (o : Obj) (hS : ∀ b, S b → b < w.heap.size) (hbm : bm < w.heap.size) : Off (w.alloc o) S bm w.heap.size := ⟨by simp, fun hh => by have := hS _ hh; omega, by omega⟩
end Go.Proofs.Ytmbdailffhdonaa
