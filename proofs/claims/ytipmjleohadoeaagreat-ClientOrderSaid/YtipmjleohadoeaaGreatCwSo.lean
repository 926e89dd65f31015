/- A client, its notary, and the document's notary: what a law's walk keeps. -/
import Derived.Test.YtipmjleohadoeaaGreatClSo
import Derived.Test.YtipmjleohadoeaaGreatTvSo
import Derived.Test.YtipmjleohadoeaaGreatWrwSo
namespace Go.Proofs.YtipmjleohadoeaaGreat
open Go.RowKit
set_option linter.unusedVariables false
set_option linter.unusedSimpArgs false

/-- A client and two notaries; all but the first notary lies in blocks of S. -/
structure Cw (W : World) (S : Nat → Prop) (g bm h : Nat) (K L : List Key) (k ct : Nat) (c : Cf) (id : Int) (s : CS) : Prop where
  ex : ∃ T U : Nat → Prop, (∀ b, S b ↔ (T b ∨ U b)) ∧ Cn W U g bm K k ct c id s ∧ Tv W T g bm h K L ∧ ∀ b, T b → ¬ U b
section
variable {W W' : World} {S : Nat → Prop} {g bm h k ct : Nat} {K L : List Key} {c : Cf} {id : Int} {s : CS}
theorem Cw.nt (H : Cw W S g bm h K L k ct c id s) : Nt W g bm K := by obtain ⟨T, U, _, h1, _⟩ := H.ex; exact h1.nt
theorem Cw.lt (H : Cw W S g bm h K L k ct c id s) : ∀ b, S b → b < W.heap.size := by
  obtain ⟨T, U, hS, h1, h2, _⟩ := H.ex
  intro b hb
  rcases (hS b).1 hb with hb | hb
  · exact h2.lt b hb
  · exact h1.cm.lt b hb
theorem Cw.below (H : Cw W S g bm h K L k ct c id s) (hb : Below W.heap.size W W') : Cw W' S g bm h K L k ct c id s := by
  obtain ⟨T, U, hS, h1, h2, h3⟩ := H.ex
  exact ⟨T, U, hS, h1.below hb, h2.below hb, h3⟩
theorem Cw.fp {R : Nat → Prop} (H : Cw W S g bm h K L k ct c id s) (hf : Fp R W W') (hg : ¬ R g) (hb : ¬ R bm) (hR : ∀ b, S b → ¬ R b) : Cw W' S g bm h K L k ct c id s := by
  obtain ⟨T, U, hS, h1, h2, h3⟩ := H.ex
  exact ⟨T, U, hS, h1.fp hf (fun b hb => hR b ((hS b).2 (.inr hb))) hg hb, h2.fp hf hg hb (fun b hb => hR b ((hS b).2 (.inl hb))), h3⟩
/-- Two notaries alone. -/
theorem Cw.start (h2 : Tv W S g bm h K L) {U : Nat → Prop} (h1 : Clm W U k ct g c id s) (hU : ∀ b, U b → ¬ S b ∧ b ≠ g ∧ b ≠ bm) : Cw W (fun b => S b ∨ U b) g bm h K L k ct c id s :=
  ⟨S, U, fun b => Iff.rfl, ⟨h2.nt, h1, fun hh => (hU g hh).2.1 rfl, fun hh => (hU bm hh).2.2 rfl⟩, h2, fun b hb hu => (hU b hu).1 hb⟩
/-- What the client does to itself and its notary. -/
theorem Cw.op {P : Program} {f : FuncId} {args : Array Value} {K' : List Key} {s' : CS} {Q : Ending → World → Prop} (H : Cw W S g bm h K L k ct c id s)
    (hop : ∀ U, Cn W U g bm K k ct c id s → Calls P f args W fun e W' => Q e W' ∧ ∃ U', Cn W' U' g bm K' k ct c id s' ∧ (∀ b, U' b → U b ∨ W.heap.size ≤ b) ∧ Fp (fun b => U b ∨ b = bm) W W') :
    Calls P f args W fun e W' => Q e W' ∧ ∃ S', Cw W' S' g bm h K' L k ct c id s' ∧ (∀ b, S' b → S b ∨ W.heap.size ≤ b) ∧ Fp (fun b => S b ∨ b = bm) W W' := by
  obtain ⟨T, U, hS, h1, h2, h3⟩ := H.ex
  refine (hop U h1).mono ?_
  rintro e W' ⟨hq, U', h4, h5, h6⟩
  have hTb : ∀ b, T b → ¬ (U b ∨ b = bm) := fun b hb => by
    rintro (hh | hh)
    · exact h3 b hb hh
    · exact h2.sep.2 (hh ▸ hb)
  refine ⟨hq, fun b => T b ∨ U' b, ⟨T, U', fun b => Iff.rfl, h4, ⟨h4.nt, h2.nr.fp h6 hTb, h2.sep, fun b hb => Nat.lt_of_lt_of_le (h2.lt b hb) h6.size, h2.sh⟩, fun b hb hu => ?_⟩, fun b hb => ?_, h6.mono fun b _ hb => ?_⟩
  · rcases h5 b hu with h7 | h7
    · exact h3 b hb h7
    · have := h2.lt b hb; omega
  · rcases hb with hb | hb
    · exact .inl ((hS b).2 (.inl hb))
    · rcases h5 b hb with h7 | h7
      · exact .inl ((hS b).2 (.inr h7))
      · exact .inr h7
  · rcases hb with hb | hb
    · exact .inl ((hS b).2 (.inr hb))
    · exact .inr hb
/-- What the two notaries are asked. -/
theorem Cw.two {P : Program} {f : FuncId} {args : Array Value} {K' L' : List Key} {Q : Ending → World → (Nat → Prop) → Prop} (H : Cw W S g bm h K L k ct c id s)
    (hop : ∀ T, Tv W T g bm h K L → Calls P f args W fun e W' => ∃ T', Q e W' T' ∧ Tv W' T' g bm h K' L' ∧ (∀ b, T' b → T b ∨ W.heap.size ≤ b) ∧ Fp (fun b => T b ∨ b = bm) W W') :
    Calls P f args W fun e W' => ∃ T' S', Q e W' T' ∧ (∀ b, S' b → T' b ∨ b < W.heap.size) ∧ Cw W' S' g bm h K' L' k ct c id s ∧ (∀ b, S' b → S b ∨ W.heap.size ≤ b) ∧ Fp (fun b => S b ∨ b = bm) W W' := by
  obtain ⟨T, U, hS, h1, h2, h3⟩ := H.ex
  refine (hop T h2).mono ?_
  rintro e W' ⟨T', hq, h4, h5, h6⟩
  have hUb : ∀ b, U b → ¬ (T b ∨ b = bm) := fun b hb => by
    rintro (hh | hh)
    · exact h3 b hh hb
    · exact h1.sep.2 (hh ▸ hb)
  refine ⟨T', fun b => T' b ∨ U b, hq, fun b hb => ?_, ⟨T', U, fun b => Iff.rfl, ⟨h4.nt, h1.cm.fp h6 hUb, h1.sep⟩, h4, fun b hb hu => ?_⟩, fun b hb => ?_, h6.mono fun b _ hb => ?_⟩
  · rcases hb with hb | hb
    · exact .inl hb
    · exact .inr (h1.cm.lt b hb)
  · rcases h5 b hb with h7 | h7
    · exact h3 b h7 hu
    · have := h1.cm.lt b hu; omega
  · rcases hb with hb | hb
    · rcases h5 b hb with h7 | h7
      · exact .inl ((hS b).2 (.inl h7))
      · exact .inr h7
    · exact .inl ((hS b).2 (.inr hb))
  · rcases hb with hb | hb
    · exact .inl ((hS b).2 (.inl hb))
    · exact .inr hb
/-- What the client alone is asked. -/
theorem Cw.ask {P : Program} {f : FuncId} {args : Array Value} {Q : Ending → World → Prop} (H : Cw W S g bm h K L k ct c id s) (hop : ∀ U, Clm W U k ct g c id s → Calls P f args W Q) : Calls P f args W Q := by
  obtain ⟨T, U, hS, h1, h2, h3⟩ := H.ex
  exact hop U h1.cm
end
end Go.Proofs.YtipmjleohadoeaaGreat
