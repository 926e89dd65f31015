/- What a law's walk keeps: boxes, certificates, parts apart from the notaries' memory. A guard that holds is taken away ahead of a quiet step. -/
import Derived.Test.YtadpkjgjciodnaaGreatJ26Ra
import Derived.Test.YtadpkjgjciodnaaGreatRiseRa
import Derived.Deep.CutBlock
import Derived.Deep.LoopGhost
import Derived.Deep.AppendLies
import Derived.Deep.RegionHeld3
import Derived.Deep.RegionLaw
import Derived.OwnWalk
import Derived.Test.YtadpkjgjciodnaaGreatBatchRa
import Derived.Test.YtadpkjgjciodnaaGreatBalRa
import Derived.Test.YtadpkjgjciodnaaGreatJ22Ra
import Derived.Test.YtadpkjgjciodnaaGreatV7Ra
import Derived.Test.YtadpkjgjciodnaaGreatPhXRa
import Derived.Deep.RegionWith
import Derived.Test.YtadpkjgjciodnaaGreatJ28Ra
import Derived.Test.YtadpkjgjciodnaaGreatGgRa
section
namespace Go.Proofs.YtadpkjgjciodnaaGreat
open Go.RowKit
set_option linter.unusedVariables false
set_option linter.unusedSimpArgs false

/-- Memory that the notaries have not. -/
def Off (W : World) (S : Nat → Prop) (bm : Nat) (b : Nat) : Prop := b < W.heap.size ∧ ¬ S b ∧ b ≠ bm
theorem Off.below {W W' : World} {S : Nat → Prop} {bm b : Nat} (h : Off W S bm b) (hb : Below W.heap.size W W') : Off W' S bm b := ⟨Nat.lt_of_lt_of_le h.1 hb.size, h.2⟩
theorem Off.seal {W W' : World} {S S' T : Nat → Prop} {bm b : Nat} (h : Off W S bm b) (hf : Fp T W W') (hS : ∀ b, S' b → S b ∨ W.heap.size ≤ b) : Off W' S' bm b :=
  ⟨Nat.lt_of_lt_of_le h.1 hf.size, fun hh => by
    rcases hS b hh with h1 | h1
    · exact h.2.1 h1
    · have := h.1; omega, h.2.2⟩
theorem Off.new {w : World} {S : Nat → Prop} {bm : Nat} (o : Obj) (hS : ∀ b, S b → b < w.heap.size) (hbm : bm < w.heap.size) : Off (w.alloc o) S bm w.heap.size := ⟨by simp, fun hh => by have := hS _ hh; omega, by omega⟩
/-- A box. -/
structure Rw (W : World) (S : Nat → Prop) (bm : Nat) (j : Nat) (o : Obj) : Prop where
  row : W.heap[j]? = some o
  off : Off W S bm j
theorem Rw.lt {W : World} {S : Nat → Prop} {bm j : Nat} {o : Obj} (h : Rw W S bm j o) : j < W.heap.size := h.off.1
theorem Rw.below {W W' : World} {S : Nat → Prop} {bm j : Nat} {o : Obj} (h : Rw W S bm j o) (hb : Below W.heap.size W W') : Rw W' S bm j o := ⟨(hb.block j h.lt).trans h.row, h.off.below hb⟩
theorem Rw.seal {W W' : World} {S S' : Nat → Prop} {bm j : Nat} {o : Obj} (h : Rw W S bm j o) (hf : Fp (fun b => S b ∨ b = bm) W W') (hS : ∀ b, S' b → S b ∨ W.heap.size ≤ b) : Rw W' S' bm j o :=
  ⟨(hf.block j h.lt (by rintro (hh | hh); exact h.off.2.1 hh; exact h.off.2.2 hh)).trans h.row, h.off.seal hf hS⟩
theorem Rw.new {w : World} {S : Nat → Prop} {bm : Nat} (o : Obj) (hS : ∀ b, S b → b < w.heap.size) (hbm : bm < w.heap.size) : Rw (w.alloc o) S bm w.heap.size o := ⟨heap_alloc_new w o, Off.new o hS hbm⟩
theorem Rw.cell {W : World} {S : Nat → Prop} {bm j : Nat} {cs : Array Value} {T : TypeId} (h : Rw W S bm j (.cells cs T (0, 0))) {k : Nat} {u : Value} (hk : cs[k]? = some u) : W.cell? ⟨j, k, none⟩ = some u := by rw [cell_of_row _ _ k _ _ _ h.row]; exact hk
/-- A certificate, apart. -/
def Ck (W : World) (S : Nat → Prop) (bm : Nat) (x : CertV) : Prop := CertOk W (Off W S bm) x
theorem Ck.below {W W' : World} {S : Nat → Prop} {bm : Nat} {x : CertV} (h : Ck W S bm x) (hb : Below W.heap.size W W') : Ck W' S bm x := CertOk.keeps h ⟨hb.size, fun b hP hlt => ⟨hb.block b hlt, hP.below hb⟩⟩
theorem Ck.seal {W W' : World} {S S' : Nat → Prop} {bm : Nat} {x : CertV} (h : Ck W S bm x) (hf : Fp (fun b => S b ∨ b = bm) W W') (hS : ∀ b, S' b → S b ∨ W.heap.size ≤ b) : Ck W' S' bm x :=
  CertOk.keeps h ⟨hf.size, fun b hP hlt => ⟨hf.block b hlt (by rintro (hh | hh); exact hP.2.1 hh; exact hP.2.2 hh), hP.seal hf hS⟩⟩
theorem Ck.slices {W : World} {S : Nat → Prop} {bm : Nat} {x : CertV} (h : Ck W S bm x) : ∃ A1 c1 A2 c2, x.b = .slice A1 x.c.b.length c1 ∧ x.o = .slice A2 x.c.o.length c2 := by
  obtain ⟨_, A1, c1, e1, _⟩ := RdP.parts h.1
  obtain ⟨_, A2, c2, e2, _⟩ := RdP.parts h.2
  exact ⟨A1, c1, A2, c2, e1, e2⟩
/-- A certificate alone in a literal. -/
theorem rdC_one {W : World} {S : Nat → Prop} {bm j : Nat} {x : CertV} {T : TypeId} (hr : Rw W S bm j (.cells (cv x).toArray T (0, 0))) (hx : Ck W S bm x) : RdC W (Off W S bm) (.slice (some ⟨j, 0, none⟩) 1 1) [x.c] :=
  ⟨[x], rfl, ⟨rfl, some ⟨j, 0, none⟩, 1, rfl, Nat.le_refl _, by unfold maxLen; omega, fun _ => ⟨j, 0, rfl, hr.off, hr.lt, fun k u hk => by
    rw [Nat.zero_add]
    refine hr.cell ?_
    rw [List.getElem?_toArray]
    simpa using hk⟩⟩, fun y hy => by rw [List.mem_singleton.1 hy]; exact hx⟩
theorem PartOk.keeps' {w w' : World} {P P' : Nat → Prop} {x : PartV} (h : PartOk w P x) (g : Keeps P P' w w') : PartOk w' P' x := ⟨RdP.keeps h.1 g, RdC.keeps h.2 g⟩
/-- A part, apart. -/
def Pk (W : World) (S : Nat → Prop) (bm : Nat) (x : PartV) : Prop := PartOk W (Off W S bm) x
theorem Pk.below {W W' : World} {S : Nat → Prop} {bm : Nat} {x : PartV} (h : Pk W S bm x) (hb : Below W.heap.size W W') : Pk W' S bm x := PartOk.keeps' h ⟨hb.size, fun b hP hlt => ⟨hb.block b hlt, hP.below hb⟩⟩
theorem Pk.seal {W W' : World} {S S' : Nat → Prop} {bm : Nat} {x : PartV} (h : Pk W S bm x) (hf : Fp (fun b => S b ∨ b = bm) W W') (hS : ∀ b, S' b → S b ∨ W.heap.size ≤ b) : Pk W' S' bm x :=
  PartOk.keeps' h ⟨hf.size, fun b hP hlt => ⟨hf.block b hlt (by rintro (hh | hh); exact hP.2.1 hh; exact hP.2.2 hh), hP.seal hf hS⟩⟩
/-- A part alone in a literal. -/
theorem rdA_one {W : World} {S : Nat → Prop} {bm j : Nat} {x : PartV} {T : TypeId} (hr : Rw W S bm j (.cells (pv x).toArray T (0, 0))) (hx : Pk W S bm x) : RdA W (Off W S bm) (.slice (some ⟨j, 0, none⟩) 1 1) [x.p] :=
  ⟨[x], rfl, ⟨rfl, some ⟨j, 0, none⟩, 1, rfl, Nat.le_refl _, by unfold maxLen; omega, fun _ => ⟨j, 0, rfl, hr.off, hr.lt, fun k u hk => by
    rw [Nat.zero_add]
    refine hr.cell ?_
    rw [List.getElem?_toArray]
    simpa using hk⟩⟩, fun y hy => by rw [List.mem_singleton.1 hy]; exact hx⟩
end Go.Proofs.YtadpkjgjciodnaaGreat
end
section
namespace Go.Proofs.YtadpkjgjciodnaaGreat
open Go.RowKit
set_option linter.unusedVariables false

theorem wpQuiet_bare {P : Program} {ops : Array Oper} {C : World → Prop} {Q : Act → Prop} {d : Option Nat} {op : Op} {t : TypeId} {ps : String} {af : Array Edge} {gd : Nat × Bool} {rest : List Oper} {a : Act} (hw : Region.wanted ⟨d, op, t, ps, af, some gd⟩ (yielded ops a.tmps) = true)
    (h : wpQuiet P ops C Q (⟨d, op, t, ps, af, none⟩ :: rest) a) : wpQuiet P ops C Q (⟨d, op, t, ps, af, some gd⟩ :: rest) a := by
  unfold wpQuiet at h ⊢
  rw [if_pos hw]
  rw [if_pos (by simp [Region.wanted])] at h
  exact h
theorem wpList_bare {P : Program} {ops : Array Oper} {Q : Exit → Act → World → Prop} {d : Option Nat} {op : Op} {t : TypeId} {ps : String} {af : Array Edge} {gd : Nat × Bool} {rest : List Oper} {a : Act} {w : World} (hw : Region.wanted ⟨d, op, t, ps, af, some gd⟩ (yielded ops a.tmps) = true)
    (h : wpList P ops Q (⟨d, op, t, ps, af, none⟩ :: rest) a w) : wpList P ops Q (⟨d, op, t, ps, af, some gd⟩ :: rest) a w := by
  unfold wpList at h ⊢
  rw [if_pos hw]
  rw [if_pos (by simp [Region.wanted])] at h
  exact h
end Go.Proofs.YtadpkjgjciodnaaGreat
end
