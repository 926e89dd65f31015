/- Rows of certificates, of parts, that grow between seals. Printed by gen_vwc.py. -/
import Derived.Test.YtadpkjgjciodnaaGreatRwVi
import Derived.Test.YtadpkjgjciodnaaGreatCpoVi
namespace Go.Proofs.YtadpkjgjciodnaaGreat
open Go.RowKit
set_option linter.unusedVariables false

theorem Rw.grown {W W2 : World} {S : Nat → Prop} {bm j : Nat} {o : Obj} {ob : Option Nat} (h : Rw W S bm j o) (hg : W.grownBy W2 ob) (hj : ob ≠ some j) : Rw W2 S bm j o :=
  ⟨(hg.block j h.lt (fun he => hj he.symm)).trans h.row, Nat.lt_of_lt_of_le h.lt hg.size, h.off.2⟩

structure Cg (W : World) (S : Nat → Prop) (bm base : Nat) (L : List CertV) (v : Value) : Prop where
  own : W.ownsRow base 25 5 v L.length (L.flatMap cv)
  sep : ∀ b, v.ownBlock = some b → ¬ S b ∧ b ≠ bm
  ok : ∀ x ∈ L, CertOk W (fun b => Off W S bm b ∧ v.ownBlock ≠ some b) x
theorem Cg.nil {W : World} {S : Nat → Prop} {bm base : Nat} : Cg W S bm base [] (.slice none 0 0) :=
  ⟨World.ownsRow_nil _ _ _ _, fun b hb => (by simp [Value.ownBlock] at hb), fun x h => (by cases h)⟩
theorem Cg.below {W W' : World} {S : Nat → Prop} {bm base : Nat} {L : List CertV} {v : Value} (h : Cg W S bm base L v) (hb : Below W.heap.size W W') : Cg W' S bm base L v :=
  ⟨own_below h.own hb, h.sep, fun x hx => CertOk.keeps (h.ok x hx) ⟨hb.size, fun b hP hlt => ⟨hb.block b hlt, hP.1.below hb, hP.2⟩⟩⟩
theorem Cg.seal {W W' : World} {S S' : Nat → Prop} {bm base : Nat} {L : List CertV} {v : Value} (h : Cg W S bm base L v) (hf : Fp (fun b => S b ∨ b = bm) W W') (hS : ∀ b, S' b → S b ∨ W.heap.size ≤ b) : Cg W' S' bm base L v := by
  refine ⟨own_keep h.own fun b hb => hf.block b (h.own.lt b hb).2 ?_, fun b hb => ⟨fun hh => ?_, (h.sep b hb).2⟩, fun x hx => CertOk.keeps (h.ok x hx) ⟨hf.size, fun b hP hlt => ⟨hf.block b hlt ?_, hP.1.seal hf hS, hP.2⟩⟩⟩
  · rintro (hh | hh)
    · exact (h.sep b hb).1 hh
    · exact (h.sep b hb).2 hh
  · rcases hS b hh with h1 | h1
    · exact (h.sep b hb).1 h1
    · have := (h.own.lt b hb).2; omega
  · rintro (hh | hh)
    · exact hP.1.2.1 hh
    · exact hP.1.2.2 hh
theorem Cg.rd {W : World} {S : Nat → Prop} {bm base : Nat} {L : List CertV} {v : Value} (h : Cg W S bm base L v) : RdC W (Off W S bm) v (L.map (·.c)) := by
  obtain ⟨A, c, rfl, hc, hm, hl⟩ := own_slice h.own
  refine ⟨L, rfl, ⟨h.own.1, A, c, rfl, hc, by unfold maxLen; omega, fun hn => ?_⟩, fun x hx => CertOk.keeps (h.ok x hx) ⟨Nat.le_refl _, fun b hP hlt => ⟨rfl, hP.1⟩⟩⟩
  obtain ⟨g, rfl, hg, hlt, hlies⟩ := hl hn
  exact ⟨g, 0, rfl, ⟨hlt, h.sep g (by simp [Value.ownBlock])⟩, hlt, hlies⟩
theorem Cg.snoc {W W2 : World} {S : Nat → Prop} {bm base : Nat} {L : List CertV} {v v' : Value} {x : CertV} (h : Cg W S bm base L v) (hx : CertOk W (fun b => Off W S bm b ∧ v.ownBlock ≠ some b) x) (hown : W2.ownsRow base 25 5 v' (L.length + 1) (L.flatMap cv ++ cv x)) (hg : W.grownBy W2 v.ownBlock) (hv : v'.ownBlock = v.ownBlock ∨ v'.ownBlock = some (W.heap.size + 1)) (hSl : ∀ b, S b → b < W.heap.size) (hbm : bm < W.heap.size) : Cg W2 S bm base (L ++ [x]) v' := by
  have hk : ∀ y, CertOk W (fun b => Off W S bm b ∧ v.ownBlock ≠ some b) y → CertOk W2 (fun b => Off W2 S bm b ∧ v'.ownBlock ≠ some b) y := fun y hy => CertOk.keeps hy ⟨hg.size, fun b hP hlt => ⟨hg.block b hlt (fun he => hP.2 he.symm), ⟨Nat.lt_of_lt_of_le hlt hg.size, hP.1.2⟩, fun he => by
    rcases hv with h1 | h1
    · exact hP.2 (h1 ▸ he)
    · rw [h1] at he; injection he with he; omega⟩⟩
  refine ⟨?_, fun b hb => ?_, fun y hy => ?_⟩
  · rw [List.length_append, List.flatMap_append]
    simpa using hown
  · rcases hv with h1 | h1
    · exact h.sep b (h1 ▸ hb)
    · rw [h1] at hb
      injection hb with hb
      refine ⟨fun hh => ?_, by omega⟩
      have := hSl b hh
      omega
  · rcases List.mem_append.1 hy with hy | hy
    · exact hk y (h.ok y hy)
    · rw [List.mem_singleton.1 hy]
      exact hk x hx

structure Pg (W : World) (S : Nat → Prop) (bm base : Nat) (L : List PartV) (v : Value) : Prop where
  own : W.ownsRow base 62 4 v L.length (L.flatMap pv)
  sep : ∀ b, v.ownBlock = some b → ¬ S b ∧ b ≠ bm
  ok : ∀ x ∈ L, PartOk W (fun b => Off W S bm b ∧ v.ownBlock ≠ some b) x
theorem Pg.nil {W : World} {S : Nat → Prop} {bm base : Nat} : Pg W S bm base [] (.slice none 0 0) :=
  ⟨World.ownsRow_nil _ _ _ _, fun b hb => (by simp [Value.ownBlock] at hb), fun x h => (by cases h)⟩
theorem Pg.below {W W' : World} {S : Nat → Prop} {bm base : Nat} {L : List PartV} {v : Value} (h : Pg W S bm base L v) (hb : Below W.heap.size W W') : Pg W' S bm base L v :=
  ⟨own_below h.own hb, h.sep, fun x hx => PartOk.keeps' (h.ok x hx) ⟨hb.size, fun b hP hlt => ⟨hb.block b hlt, hP.1.below hb, hP.2⟩⟩⟩
theorem Pg.seal {W W' : World} {S S' : Nat → Prop} {bm base : Nat} {L : List PartV} {v : Value} (h : Pg W S bm base L v) (hf : Fp (fun b => S b ∨ b = bm) W W') (hS : ∀ b, S' b → S b ∨ W.heap.size ≤ b) : Pg W' S' bm base L v := by
  refine ⟨own_keep h.own fun b hb => hf.block b (h.own.lt b hb).2 ?_, fun b hb => ⟨fun hh => ?_, (h.sep b hb).2⟩, fun x hx => PartOk.keeps' (h.ok x hx) ⟨hf.size, fun b hP hlt => ⟨hf.block b hlt ?_, hP.1.seal hf hS, hP.2⟩⟩⟩
  · rintro (hh | hh)
    · exact (h.sep b hb).1 hh
    · exact (h.sep b hb).2 hh
  · rcases hS b hh with h1 | h1
    · exact (h.sep b hb).1 h1
    · have := (h.own.lt b hb).2; omega
  · rintro (hh | hh)
    · exact hP.1.2.1 hh
    · exact hP.1.2.2 hh
theorem Pg.rd {W : World} {S : Nat → Prop} {bm base : Nat} {L : List PartV} {v : Value} (h : Pg W S bm base L v) : RdA W (Off W S bm) v (L.map (·.p)) := by
  obtain ⟨A, c, rfl, hc, hm, hl⟩ := own_slice h.own
  refine ⟨L, rfl, ⟨h.own.1, A, c, rfl, hc, by unfold maxLen; omega, fun hn => ?_⟩, fun x hx => PartOk.keeps' (h.ok x hx) ⟨Nat.le_refl _, fun b hP hlt => ⟨rfl, hP.1⟩⟩⟩
  obtain ⟨g, rfl, hg, hlt, hlies⟩ := hl hn
  exact ⟨g, 0, rfl, ⟨hlt, h.sep g (by simp [Value.ownBlock])⟩, hlt, hlies⟩
theorem Pg.snoc {W W2 : World} {S : Nat → Prop} {bm base : Nat} {L : List PartV} {v v' : Value} {x : PartV} (h : Pg W S bm base L v) (hx : PartOk W (fun b => Off W S bm b ∧ v.ownBlock ≠ some b) x) (hown : W2.ownsRow base 62 4 v' (L.length + 1) (L.flatMap pv ++ pv x)) (hg : W.grownBy W2 v.ownBlock) (hv : v'.ownBlock = v.ownBlock ∨ v'.ownBlock = some (W.heap.size + 1)) (hSl : ∀ b, S b → b < W.heap.size) (hbm : bm < W.heap.size) : Pg W2 S bm base (L ++ [x]) v' := by
  have hk : ∀ y, PartOk W (fun b => Off W S bm b ∧ v.ownBlock ≠ some b) y → PartOk W2 (fun b => Off W2 S bm b ∧ v'.ownBlock ≠ some b) y := fun y hy => PartOk.keeps' hy ⟨hg.size, fun b hP hlt => ⟨hg.block b hlt (fun he => hP.2 he.symm), ⟨Nat.lt_of_lt_of_le hlt hg.size, hP.1.2⟩, fun he => by
    rcases hv with h1 | h1
    · exact hP.2 (h1 ▸ he)
    · rw [h1] at he; injection he with he; omega⟩⟩
  refine ⟨?_, fun b hb => ?_, fun y hy => ?_⟩
  · rw [List.length_append, List.flatMap_append]
    simpa using hown
  · rcases hv with h1 | h1
    · exact h.sep b (h1 ▸ hb)
    · rw [h1] at hb
      injection hb with hb
      refine ⟨fun hh => ?_, by omega⟩
      have := hSl b hh
      omega
  · rcases List.mem_append.1 hy with hy | hy
    · exact hk y (h.ok y hy)
    · rw [List.mem_singleton.1 hy]
      exact hk x hx
end Go.Proofs.YtadpkjgjciodnaaGreat
