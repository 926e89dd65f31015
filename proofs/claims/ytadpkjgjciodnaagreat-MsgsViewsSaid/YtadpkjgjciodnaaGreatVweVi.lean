/- What the walk of MsgsViews keeps besides: certificates and a part in memory that is older than a place. -/
import Derived.Test.YtadpkjgjciodnaaGreatVwcVi
import Derived.Test.YtadpkjgjciodnaaGreatVwnVi
namespace Go.Proofs.YtadpkjgjciodnaaGreat
open Go.RowKit
set_option linter.unusedVariables false

theorem PF.wf {K : List Key} {f cl view : Int} {p : Psp.Part} (h : PF K f cl view p) (hf : 1 ≤ f ∧ f ≤ 4) (hcl : cl ≤ 4) (hK : K.length < 1099511627776) : wfPart p := by
  have hb := sealed_bd h.se
  have hn := h.nd
  exact ⟨i64_small (by omega) (by omega), votes_wf (fun n => chM n (view - 1)) h.vs hK, fun c hc => (h.cs.cf c hc).wf hf.2 hcl hK, i64_small (by omega) (by omega)⟩
theorem PF.big {K : List Key} {f cl view : Int} {p : Psp.Part} (h : PF K f cl view p) : ∀ c ∈ p.c, c.b.length ≤ 1000 := fun c hc => by have := (h.cs.cf c hc).sb; omega
/-- Certificates, apart, in memory older than B. -/
structure Cs (W : World) (S : Nat → Prop) (bm B : Nat) (v : Value) (l : List Psp.Cert) : Prop where
  rd : RdC W (fun b => Off W S bm b ∧ b < B) v l
section
variable {W W' : World} {S S' T : Nat → Prop} {bm B : Nat} {v : Value} {l : List Psp.Cert} {x : PartV} {ob : Option Nat}
theorem Cs.below (h : Cs W S bm B v l) (hb : Below W.heap.size W W') : Cs W' S bm B v l := ⟨h.rd.keeps ⟨hb.size, fun b hP hlt => ⟨hb.block b hlt, hP.1.below hb, hP.2⟩⟩⟩
theorem Cs.seal (h : Cs W S bm B v l) (hf : Fp (fun b => S b ∨ b = bm) W W') (hS : ∀ b, S' b → S b ∨ W.heap.size ≤ b) : Cs W' S' bm B v l :=
  ⟨h.rd.keeps ⟨hf.size, fun b hP hlt => ⟨hf.block b hlt (by rintro (hh | hh); exact hP.1.2.1 hh; exact hP.1.2.2 hh), hP.1.seal hf hS, hP.2⟩⟩⟩
theorem Cs.other (h : Cs W S bm B v l) (hf : Fp T W W') (hT : ∀ b, T b → B ≤ b) : Cs W' S bm B v l :=
  ⟨h.rd.keeps ⟨hf.size, fun b hP hlt => ⟨hf.block b hlt fun hh => by have := hT b hh; have := hP.2; omega, hP.1.seal hf fun b hb => .inl hb, hP.2⟩⟩⟩
theorem Cs.of (h : RdC W (Off W S bm) v l) : Cs W S bm W.heap.size v l := ⟨h.keeps (Keeps.mono fun b hb hP => ⟨hP, hP.1⟩)⟩
/-- A part, apart, in memory older than B. -/
structure Ps (W : World) (S : Nat → Prop) (bm B : Nat) (x : PartV) : Prop where
  ok : PartOk W (fun b => Off W S bm b ∧ b < B) x
theorem Ps.below (h : Ps W S bm B x) (hb : Below W.heap.size W W') : Ps W' S bm B x := ⟨PartOk.keeps' h.ok ⟨hb.size, fun b hP hlt => ⟨hb.block b hlt, hP.1.below hb, hP.2⟩⟩⟩
theorem Ps.seal (h : Ps W S bm B x) (hf : Fp (fun b => S b ∨ b = bm) W W') (hS : ∀ b, S' b → S b ∨ W.heap.size ≤ b) : Ps W' S' bm B x :=
  ⟨PartOk.keeps' h.ok ⟨hf.size, fun b hP hlt => ⟨hf.block b hlt (by rintro (hh | hh); exact hP.1.2.1 hh; exact hP.1.2.2 hh), hP.1.seal hf hS, hP.2⟩⟩⟩
theorem Ps.other (h : Ps W S bm B x) (hf : Fp T W W') (hT : ∀ b, T b → B ≤ b) : Ps W' S bm B x :=
  ⟨PartOk.keeps' h.ok ⟨hf.size, fun b hP hlt => ⟨hf.block b hlt fun hh => by have := hT b hh; have := hP.2; omega, hP.1.seal hf fun b hb => .inl hb, hP.2⟩⟩⟩
theorem Ps.of (h : PartOk W (Off W S bm) x) : Ps W S bm W.heap.size x := ⟨PartOk.keeps' h (Keeps.mono fun b hb hP => ⟨hP, hP.1⟩)⟩
theorem Ps.pk (h : Ps W S bm B x) : Pk W S bm x := PartOk.keeps' h.ok (Keeps.mono fun b hb hP => hP.1)
end
/-- A message, apart. -/
structure Mo (W : World) (S : Nat → Prop) (bm : Nat) (x : MsgV) : Prop where
  ok : MsgOk W (Off W S bm) x
theorem Mo.below {W W' : World} {S : Nat → Prop} {bm : Nat} {x : MsgV} (h : Mo W S bm x) (hb : Below W.heap.size W W') : Mo W' S bm x := ⟨h.ok.keeps ⟨hb.size, fun b hP hlt => ⟨hb.block b hlt, hP.below hb⟩⟩⟩
theorem Mo.seal {W W' : World} {S S' : Nat → Prop} {bm : Nat} {x : MsgV} (h : Mo W S bm x) (hf : Fp (fun b => S b ∨ b = bm) W W') (hS : ∀ b, S' b → S b ∨ W.heap.size ≤ b) : Mo W' S' bm x :=
  ⟨h.ok.keeps ⟨hf.size, fun b hP hlt => ⟨hf.block b hlt (by rintro (hh | hh); exact hP.2.1 hh; exact hP.2.2 hh), hP.seal hf hS⟩⟩⟩
/-- Bytes, apart. -/
structure Bk (W : World) (S : Nat → Prop) (bm : Nat) (v : Value) (bs : List UInt8) : Prop where
  rd : RdP W (Off W S bm) 1 v bs.length (bs.map bv)
theorem Bk.below {W W' : World} {S : Nat → Prop} {bm : Nat} {v : Value} {bs : List UInt8} (h : Bk W S bm v bs) (hb : Below W.heap.size W W') : Bk W' S bm v bs := ⟨h.rd.keeps ⟨hb.size, fun b hP hlt => ⟨hb.block b hlt, hP.below hb⟩⟩⟩
theorem Bk.seal {W W' : World} {S S' : Nat → Prop} {bm : Nat} {v : Value} {bs : List UInt8} (h : Bk W S bm v bs) (hf : Fp (fun b => S b ∨ b = bm) W W') (hS : ∀ b, S' b → S b ∨ W.heap.size ≤ b) : Bk W' S' bm v bs :=
  ⟨h.rd.keeps ⟨hf.size, fun b hP hlt => ⟨hf.block b hlt (by rintro (hh | hh); exact hP.2.1 hh; exact hP.2.2 hh), hP.seal hf hS⟩⟩⟩
theorem Bk.new {W W' : World} {S : Nat → Prop} {bm : Nat} {v : Value} {bs : List UInt8} (h : RdP W' (fun b => W.heap.size ≤ b) 1 v bs.length (bs.map bv)) (hS : ∀ b, S b → b < W.heap.size) (hbm : bm < W.heap.size) : Bk W' S bm v bs :=
  ⟨h.mono fun b hb hP => ⟨hb, fun hh => by have := hS b hh; omega, by omega⟩⟩
theorem Bk.all {W : World} {S : Nat → Prop} {bm : Nat} {v : Value} {bs : List UInt8} (h : Bk W S bm v bs) : RdP W (fun b => b < W.heap.size) 1 v bs.length (bs.map bv) := h.rd.mono fun b hb _ => hb
theorem pts_step {K : List Key} {f view skip : Int} {lc : List Psp.Cert} {i : Nat} : pts K f view skip lc (i + 1) = ((pts K f view skip lc i).1 ++ [(partS (pts K f view skip lc i).2 f view (i : Int) skip lc).1], (partS (pts K f view skip lc i).2 f view (i : Int) skip lc).2) := rfl
theorem rdv_drop {w : World} {P : Nat → Prop} {b o n c k : Nat} {l : List Psp.Vote} (h : RdP w P 2 (.slice (some ⟨b, o, none⟩) n c) l.length (l.flatMap vt)) (hk : k ≤ n) : RdP w P 2 (.slice (some ⟨b, o + k * 2, none⟩) (n - k) (c - k)) (l.drop k).length ((l.drop k).flatMap vt) := by
  obtain ⟨h1, A, c', e, h2, h3, h4⟩ := h
  injection e with e1 e2 e3
  subst e2 e3
  have hd : (l.drop k).flatMap vt = (l.flatMap vt).drop (k * 2) := by
    have h5 : ∀ (l : List Psp.Vote) (k : Nat), (l.drop k).flatMap vt = (l.flatMap vt).drop (k * 2) := by
      intro l
      induction l with
      | nil => intro k; simp
      | cons x l ih =>
        intro k
        cases k with
        | zero => simp
        | succ k =>
          rw [List.drop_succ_cons, ih k, List.flatMap_cons, show (k + 1) * 2 = 2 + k * 2 by omega, ← List.drop_drop]
          congr 1
    exact h5 l k
  refine ⟨by rw [hd, List.length_drop, h1, List.length_drop, Nat.sub_mul], some ⟨b, o + k * 2, none⟩, c - k, by rw [List.length_drop], by rw [List.length_drop]; omega, by unfold maxLen at *; omega, fun hp => ?_⟩
  rw [List.length_drop] at hp
  obtain ⟨b', o', e4, h5, h6, h7⟩ := h4 (by omega)
  rw [← e1] at e4
  injection e4 with e4
  injection e4 with e5 e6
  subst e5 e6
  refine ⟨b, o + k * 2, rfl, h5, h6, ?_⟩
  rw [hd]
  exact h7.drop (k * 2)
end Go.Proofs.YtadpkjgjciodnaaGreat
