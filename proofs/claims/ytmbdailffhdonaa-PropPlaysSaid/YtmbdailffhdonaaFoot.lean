/- Footprints: a world that is as another one but for certain blocks and new ones. Plain facts on worlds. -/
import Derived.Test.YtmbdailffhdonaaOwn
namespace Go.Proofs.Ytmbdailffhdonaa
open Go.RowKit
set_option linter.unusedVariables false

/-- w' is as w but for the blocks of S and new ones. -/
structure Fp (S : Nat → Prop) (w w' : World) : Prop where
  os : w'.os = w.os
  tape : w'.tape = w.tape
  output : w'.output = w.output
  size : w.heap.size ≤ w'.heap.size
  block : ∀ k, k < w.heap.size → ¬ S k → w'.heap[k]? = w.heap[k]?

section
variable {w w' w'' : World} {S S' : Nat → Prop} {B : Nat}
theorem Fp.refl (S : Nat → Prop) (w : World) : Fp S w w := ⟨rfl, rfl, rfl, Nat.le_refl _, fun _ _ _ => rfl⟩
theorem Fp.trans (h : Fp S w w') (g : Fp S' w' w'') (hs : ∀ k, S' k → S k ∨ w.heap.size ≤ k) : Fp S w w'' :=
  ⟨g.os.trans h.os, g.tape.trans h.tape, g.output.trans h.output, Nat.le_trans h.size g.size, fun k hk hn => by
    refine (g.block k (Nat.lt_of_lt_of_le hk h.size) fun hS => ?_).trans (h.block k hk hn)
    rcases hs k hS with h1 | h1
    · exact hn h1
    · omega⟩
theorem Fp.mono (h : Fp S w w') (hs : ∀ k, k < w.heap.size → S k → S' k) : Fp S' w w' := ⟨h.os, h.tape, h.output, h.size, fun k hk hn => h.block k hk fun h' => hn (hs k hk h')⟩
theorem Fp.of_below (h : Below w.heap.size w w') (S : Nat → Prop) : Fp S w w' := ⟨h.os, h.tape, h.output, h.size, fun k hk _ => h.block k hk⟩
theorem Fp.to_below (h : Fp S w w') (hB : B ≤ w.heap.size) (hs : ∀ k, k < w.heap.size → S k → B ≤ k) : Below B w w' :=
  ⟨h.os, h.tape, h.output, h.size, fun k hk => h.block k (by omega) fun h' => by have := hs k (by omega) h'; omega⟩
theorem Fp.below (h : Fp S w w') (g : Below w'.heap.size w' w'') : Fp S w w'' := h.trans (Fp.of_below g (fun _ => False)) (fun _ h => h.elim)
theorem Fp.drewN (h : Fp S w w') (n : Nat) : Fp S w (w'.drewN n) := ⟨h.os, h.tape, h.output, h.size, h.block⟩
theorem Fp.drew (h : Fp S w w') : Fp S w w'.drew := ⟨h.os, h.tape, h.output, h.size, h.block⟩
theorem Fp.alloc (h : Fp S w w') (o : Obj) : Fp S w (w'.alloc o) := h.below ((Below.refl _ _).alloc (Nat.le_refl _) _)
theorem Fp.setCell (h : Fp S w w') {p : Addr} (hp : S p.block ∨ w.heap.size ≤ p.block) (u : Value) : Fp S w (w'.setCell p u) :=
  ⟨h.os, h.tape, h.output, by simpa [World.setCell] using h.size, fun k hk hn => (Below.heap_setCell w' p u k (by
    rintro rfl
    rcases hp with hp | hp
    · exact hn hp
    · omega)).trans (h.block k hk hn)⟩
theorem Fp.setCells (h : Fp S w w') {b o : Nat} (hp : S b ∨ w.heap.size ≤ b) (vs : List Value) : Fp S w (w'.setCells b o vs) := by
  induction vs generalizing w' o with
  | nil => exact h
  | cons v vs ih => exact ih (h.setCell (p := ⟨b, o, none⟩) hp v)
theorem Fp.grown {row : Option Nat} (h : Fp S w w') (g : w'.grownBy w'' row) (hr : ∀ k, row = some k → S k ∨ w.heap.size ≤ k) : Fp S w w'' :=
  ⟨g.os.trans h.os, g.tape.trans h.tape, g.output.trans h.output, Nat.le_trans h.size g.size, fun k hk hn => by
    refine (g.block k (Nat.lt_of_lt_of_le hk h.size) fun e => ?_).trans (h.block k hk hn)
    rcases hr k e.symm with h1 | h1
    · exact hn h1
    · omega⟩
theorem Fp.cell (h : Fp S w w') {b o : Nat} (hb : b < w.heap.size) (hn : ¬ S b) : w'.cell? ⟨b, o, none⟩ = w.cell? ⟨b, o, none⟩ := World.cell?_of_block (a := ⟨b, o, none⟩) (h.block b hb hn)
theorem Rd.fp {k n : Nat} {v : Value} {xs : List Value} (h : Rd w B k v n xs) (g : Fp S w w') (hB : B ≤ w.heap.size) (hs : ∀ k, k < B → ¬ S k) : Rd w' B k v n xs := h.keep fun b hb => g.block b (by omega) (hs b hb)
end
end Go.Proofs.Ytmbdailffhdonaa
