/- What a law's walk keeps: boxes, certificates, parts apart from the notaries' memory. -/
import Derived.Test.YtadpkjgjciodnaaGreatCrpVi
import Derived.Test.YtadpkjgjciodnaaGreatTpVi
namespace Go.Proofs.YtadpkjgjciodnaaGreat
open Go.RowKit
set_option linter.unusedVariables false
set_option linter.unusedSimpArgs false

/-- Memory that the notaries have not. -/
def Off (W : World) (S : Nat → Prop) (bm : Nat) (b : Nat) : Prop := b < W.heap.size ∧ ¬ S b ∧ b ≠ bm
theorem Off.below {W W' : World} {S : Nat → Prop} {bm b : Nat} (h : Off W S bm b) (hb : Below W.heap.size W W') : Off W' S bm b := ⟨Nat.lt_of_lt_of_le h.1 hb.size, h.2⟩
theorem Off.seal {W W' : World} {S S' T : Nat → Prop} {bm b : Nat} (h : Off W S bm b) (hf : Fp T W W') (hS : ∀ b, S' b → S b ∨ W.heap.size ≤ b) : Off W' S' bm b :=
  ⟨Nat.lt_of_lt_of_le h.1 hf.size, fun hh => by
    rcases hS b hh with h1 | h1
    · exact h.2.1 h1
    · have := h.1; omega, h.2.2⟩
theorem Off.new {w : World} {S : Nat → Prop} {bm : Nat} (o : Obj) (hS : ∀ b, S b → b < w.heap.size) (hbm : bm < w.heap.size) : Off (w.alloc o) S bm w.heap.size := ⟨by simp, fun hh => by have := hS _ hh; omega, by omega⟩
/-- A box. -/
structure Rw (W : World) (S : Nat → Prop) (bm : Nat) (j : Nat) (o : Obj) : Prop where
  row : W.heap[j]? = some o
  off : Off W S bm j
theorem Rw.lt {W : World} {S : Nat → Prop} {bm j : Nat} {o : Obj} (h : Rw W S bm j o) : j < W.heap.size := h.off.1
theorem Rw.below {W W' : World} {S : Nat → Prop} {bm j : Nat} {o : Obj} (h : Rw W S bm j o) (hb : Below W.heap.size W W') : Rw W' S bm j o := ⟨(hb.block j h.lt).trans h.row, h.off.below hb⟩
theorem Rw.seal {W W' : World} {S S' : Nat → Prop} {bm j : Nat} {o : Obj} (h : Rw W S bm j o) (hf : Fp (fun b => S b ∨ b = bm) W W') (hS : ∀ b, S' b → S b ∨ W.heap.size ≤ b) : Rw W' S' bm j o :=
  ⟨(hf.block j h.lt (by rintro (hh | hh); exact h.off.2.1 hh; exact h.off.2.2 hh)).trans h.row, h.off.seal hf hS⟩
theorem Rw.other {W W' : World} {S T : Nat → Prop} {bm j : Nat} {o : Obj} (h : Rw W S bm j o) (hf : Fp T W W') (hn : ¬ T j) : Rw W' S bm j o :=
  ⟨(hf.block j h.lt hn).trans h.row, h.off.seal hf fun b hb => .inl hb⟩
theorem Rw.new {w : World} {S : Nat → Prop} {bm : Nat} (o : Obj) (hS : ∀ b, S b → b < w.heap.size) (hbm : bm < w.heap.size) : Rw (w.alloc o) S bm w.heap.size o := ⟨heap_alloc_new w o, Off.new o hS hbm⟩
theorem Rw.cell {W : World} {S : Nat → Prop} {bm j : Nat} {cs : Array Value} {T : TypeId} (h : Rw W S bm j (.cells cs T (0, 0))) {k : Nat} {u : Value} (hk : cs[k]? = some u) : W.cell? ⟨j, k, none⟩ = some u := by rw [cell_of_row _ _ k _ _ _ h.row]; exact hk
theorem Rw.ice {W : World} {S : Nat → Prop} {bm j : Nat} {cs : Array Value} {T : TypeId} (h : Rw W S bm j (.cells cs T (0, 0))) (k : Nat) : W.frozen? ⟨j, k, none⟩ = false := frozen_of_row _ _ k _ _ h.row
/-- A certificate, apart. -/
def Ck (W : World) (S : Nat → Prop) (bm : Nat) (x : CertV) : Prop := CertOk W (Off W S bm) x
theorem Ck.below {W W' : World} {S : Nat → Prop} {bm : Nat} {x : CertV} (h : Ck W S bm x) (hb : Below W.heap.size W W') : Ck W' S bm x := CertOk.keeps h ⟨hb.size, fun b hP hlt => ⟨hb.block b hlt, hP.below hb⟩⟩
theorem Ck.seal {W W' : World} {S S' : Nat → Prop} {bm : Nat} {x : CertV} (h : Ck W S bm x) (hf : Fp (fun b => S b ∨ b = bm) W W') (hS : ∀ b, S' b → S b ∨ W.heap.size ≤ b) : Ck W' S' bm x :=
  CertOk.keeps h ⟨hf.size, fun b hP hlt => ⟨hf.block b hlt (by rintro (hh | hh); exact hP.2.1 hh; exact hP.2.2 hh), hP.seal hf hS⟩⟩
theorem Ck.slices {W : World} {S : Nat → Prop} {bm : Nat} {x : CertV} (h : Ck W S bm x) : ∃ A1 c1 A2 c2, x.b = .slice A1 x.c.b.length c1 ∧ x.o = .slice A2 x.c.o.length c2 := by
  obtain ⟨_, A1, c1, e1, _⟩ := RdP.parts h.1
  obtain ⟨_, A2, c2, e2, _⟩ := RdP.parts h.2
  exact ⟨A1, c1, A2, c2, e1, e2⟩
theorem two_cert' (kind f skip : Int) (c : Psp.Cert) (A1 A2 : Option Addr) (c1 c2 : Nat) (S : Nat → Prop) (g bm h : Nat) (K : List Key) (w : World) (hT : Tw w S g bm h K) (hf : 1 ≤ f ∧ f ≤ 4) (hs : isI64 skip)
    (hx : Ck w S bm ⟨c, .slice A1 c.b.length c1, .slice A2 c.o.length c2⟩) (hK : K.length < 900000) (hlen : c.b.length ≤ 1000) :
    Calls Tryz.prog 10 #[.agg #[.pointer (some ⟨g, 0, none⟩), .pointer (some ⟨h, 0, none⟩)], .int .i64 kind, .int .i64 f, .int .i64 skip, .agg #[.int .i64 c.v, .int .i64 c.i, .int .i64 c.q, .slice A1 c.b.length c1, .slice A2 c.o.length c2]] w fun e w' => ∃ a K' E1 d1 E2 d2 S', certS K kind f skip c = (a, K') ∧ e = .returned (.agg #[.int .i64 a.v, .int .i64 a.i, .int .i64 a.q, .slice E1 a.b.length d1, .slice E2 a.o.length d2]) ∧
      Tw w' S' g bm h K' ∧ (∀ b, S' b → S b ∨ w.heap.size ≤ b) ∧ Fp (fun b => S b ∨ b = bm) w w' ∧ CertOk w' (fun b => w.heap.size ≤ b ∧ Off w' S' bm b) ⟨a, .slice E1 a.b.length d1, .slice E2 a.o.length d2⟩ := by
  refine (two_cert kind f skip c A1 A2 c1 c2 S g bm h K w (Off w S bm) hT hf hs hx (fun b hb => hb.2) hK hlen).mono ?_
  rintro e w' ⟨B1, n1, d1, B2, q2, d2, S', rfl, hn, hq, hT', hS', hF', hx'⟩
  subst hn hq
  exact ⟨_, _, B1, d1, B2, d2, S', rfl, rfl, hT', hS', hF', hx'⟩
theorem PartOk.keeps' {w w' : World} {P P' : Nat → Prop} {x : PartV} (h : PartOk w P x) (g : Keeps P P' w w') : PartOk w' P' x := ⟨RdP.keeps h.1 g, RdC.keeps h.2 g⟩
/-- A part, apart. -/
def Pk (W : World) (S : Nat → Prop) (bm : Nat) (x : PartV) : Prop := PartOk W (Off W S bm) x
theorem Pk.below {W W' : World} {S : Nat → Prop} {bm : Nat} {x : PartV} (h : Pk W S bm x) (hb : Below W.heap.size W W') : Pk W' S bm x := PartOk.keeps' h ⟨hb.size, fun b hP hlt => ⟨hb.block b hlt, hP.below hb⟩⟩
theorem Pk.seal {W W' : World} {S S' : Nat → Prop} {bm : Nat} {x : PartV} (h : Pk W S bm x) (hf : Fp (fun b => S b ∨ b = bm) W W') (hS : ∀ b, S' b → S b ∨ W.heap.size ≤ b) : Pk W' S' bm x :=
  PartOk.keeps' h ⟨hf.size, fun b hP hlt => ⟨hf.block b hlt (by rintro (hh | hh); exact hP.2.1 hh; exact hP.2.2 hh), hP.seal hf hS⟩⟩
end Go.Proofs.YtadpkjgjciodnaaGreat
