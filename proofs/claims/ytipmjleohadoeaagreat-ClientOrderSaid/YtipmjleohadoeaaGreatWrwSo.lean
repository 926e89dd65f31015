/- Boxes and bytes apart from the notaries' memory. Printed by gen_wrw.py out of Rw and Vwe: never import it beside these. -/
import Derived.Test.YtipmjleohadoeaaGreatJ22So
namespace Go.Proofs.YtipmjleohadoeaaGreat
open Go.RowKit
set_option linter.unusedVariables false
set_option linter.unusedSimpArgs false

/-- Memory that the notaries have not. -/
def Off (W : World) (S : Nat → Prop) (bm : Nat) (b : Nat) : Prop := b < W.heap.size ∧ ¬ S b ∧ b ≠ bm
theorem Off.below {W W' : World} {S : Nat → Prop} {bm b : Nat} (h : Off W S bm b) (hb : Below W.heap.size W W') : Off W' S bm b := ⟨Nat.lt_of_lt_of_le h.1 hb.size, h.2⟩
theorem Off.seal {W W' : World} {S S' T : Nat → Prop} {bm b : Nat} (h : Off W S bm b) (hf : Fp T W W') (hS : ∀ b, S' b → S b ∨ W.heap.size ≤ b) : Off W' S' bm b :=
  ⟨Nat.lt_of_lt_of_le h.1 hf.size, fun hh => by
    rcases hS b hh with h1 | h1
    · exact h.2.1 h1
    · have := h.1; omega, h.2.2⟩
theorem Off.new {w : World} {S : Nat → Prop} {bm : Nat} (o : Obj) (hS : ∀ b, S b → b < w.heap.size) (hbm : bm < w.heap.size) : Off (w.alloc o) S bm w.heap.size := ⟨by simp, fun hh => by have := hS _ hh; omega, by omega⟩
/-- A box. -/
structure Rw (W : World) (S : Nat → Prop) (bm : Nat) (j : Nat) (o : Obj) : Prop where
  row : W.heap[j]? = some o
  off : Off W S bm j
theorem Rw.lt {W : World} {S : Nat → Prop} {bm j : Nat} {o : Obj} (h : Rw W S bm j o) : j < W.heap.size := h.off.1
theorem Rw.below {W W' : World} {S : Nat → Prop} {bm j : Nat} {o : Obj} (h : Rw W S bm j o) (hb : Below W.heap.size W W') : Rw W' S bm j o := ⟨(hb.block j h.lt).trans h.row, h.off.below hb⟩
theorem Rw.seal {W W' : World} {S S' : Nat → Prop} {bm j : Nat} {o : Obj} (h : Rw W S bm j o) (hf : Fp (fun b => S b ∨ b = bm) W W') (hS : ∀ b, S' b → S b ∨ W.heap.size ≤ b) : Rw W' S' bm j o :=
  ⟨(hf.block j h.lt (by rintro (hh | hh); exact h.off.2.1 hh; exact h.off.2.2 hh)).trans h.row, h.off.seal hf hS⟩
theorem Rw.other {W W' : World} {S T : Nat → Prop} {bm j : Nat} {o : Obj} (h : Rw W S bm j o) (hf : Fp T W W') (hn : ¬ T j) : Rw W' S bm j o :=
  ⟨(hf.block j h.lt hn).trans h.row, h.off.seal hf fun b hb => .inl hb⟩
theorem Rw.new {w : World} {S : Nat → Prop} {bm : Nat} (o : Obj) (hS : ∀ b, S b → b < w.heap.size) (hbm : bm < w.heap.size) : Rw (w.alloc o) S bm w.heap.size o := ⟨heap_alloc_new w o, Off.new o hS hbm⟩
theorem Rw.cell {W : World} {S : Nat → Prop} {bm j : Nat} {cs : Array Value} {T : TypeId} (h : Rw W S bm j (.cells cs T (0, 0))) {k : Nat} {u : Value} (hk : cs[k]? = some u) : W.cell? ⟨j, k, none⟩ = some u := by rw [cell_of_row _ _ k _ _ _ h.row]; exact hk
theorem Rw.ice {W : World} {S : Nat → Prop} {bm j : Nat} {cs : Array Value} {T : TypeId} (h : Rw W S bm j (.cells cs T (0, 0))) (k : Nat) : W.frozen? ⟨j, k, none⟩ = false := frozen_of_row _ _ k _ _ h.row
/-- Bytes, apart. -/
structure Bk (W : World) (S : Nat → Prop) (bm : Nat) (v : Value) (bs : List UInt8) : Prop where
  rd : RdP W (Off W S bm) 1 v bs.length (bs.map bv)
theorem Bk.below {W W' : World} {S : Nat → Prop} {bm : Nat} {v : Value} {bs : List UInt8} (h : Bk W S bm v bs) (hb : Below W.heap.size W W') : Bk W' S bm v bs := ⟨h.rd.keeps ⟨hb.size, fun b hP hlt => ⟨hb.block b hlt, hP.below hb⟩⟩⟩
theorem Bk.seal {W W' : World} {S S' : Nat → Prop} {bm : Nat} {v : Value} {bs : List UInt8} (h : Bk W S bm v bs) (hf : Fp (fun b => S b ∨ b = bm) W W') (hS : ∀ b, S' b → S b ∨ W.heap.size ≤ b) : Bk W' S' bm v bs :=
  ⟨h.rd.keeps ⟨hf.size, fun b hP hlt => ⟨hf.block b hlt (by rintro (hh | hh); exact hP.2.1 hh; exact hP.2.2 hh), hP.seal hf hS⟩⟩⟩
theorem Bk.new {W W' : World} {S : Nat → Prop} {bm : Nat} {v : Value} {bs : List UInt8} (h : RdP W' (fun b => W.heap.size ≤ b) 1 v bs.length (bs.map bv)) (hS : ∀ b, S b → b < W.heap.size) (hbm : bm < W.heap.size) : Bk W' S bm v bs :=
  ⟨h.mono fun b hb hP => ⟨hb, fun hh => by have := hS b hh; omega, by omega⟩⟩
theorem Bk.all {W : World} {S : Nat → Prop} {bm : Nat} {v : Value} {bs : List UInt8} (h : Bk W S bm v bs) : RdP W (fun b => b < W.heap.size) 1 v bs.length (bs.map bv) := h.rd.mono fun b hb _ => hb
end Go.Proofs.YtipmjleohadoeaaGreat
