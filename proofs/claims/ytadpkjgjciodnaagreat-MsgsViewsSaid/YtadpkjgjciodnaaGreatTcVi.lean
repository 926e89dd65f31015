/- Two.Cert, Two.Part: a certificate, a view change with their seals. Printed by gen_tc.py. -/
import Derived.Test.YtadpkjgjciodnaaGreatTqVi
import Derived.Test.YtadpkjgjciodnaaGreatVt2Vi
namespace Go.Proofs.YtadpkjgjciodnaaGreat
open Go.RowKit
set_option linter.unusedVariables false
set_option linter.unusedSimpArgs false

/-- A certificate with its seals, and what has been sealed. -/
def certS (K : List Key) (kind f skip : Int) (c : Psp.Cert) : Psp.Cert × List Key :=
  (⟨c.v, c.i, c.q, Psp.ordR (reqsF K c.b).1, (vts f (Psp.within skip (f + 1)) (fun k => balM kind k ⟨c.v, c.i, c.q, Psp.ordR (reqsF K c.b).1, c.o⟩) (reqsF K c.b).2 (Psp.quorum f).toNat).1⟩,
    (vts f (Psp.within skip (f + 1)) (fun k => balM kind k ⟨c.v, c.i, c.q, Psp.ordR (reqsF K c.b).1, c.o⟩) (reqsF K c.b).2 (Psp.quorum f).toNat).2)

set_option maxRecDepth 100000 in
set_option maxHeartbeats 8000000 in
theorem two_cert (kind f skip : Int) (c : Psp.Cert) (A1 A2 : Option Addr) (c1 c2 : Nat) (S : Nat → Prop) (g bm h : Nat) (K : List Key) (w : World) (P : Nat → Prop) (hT : Tw w S g bm h K) (hf : 1 ≤ f ∧ f ≤ 4) (hs : isI64 skip)
    (hx : CertOk w P ⟨c, .slice A1 c.b.length c1, .slice A2 c.o.length c2⟩) (hP : ∀ b, P b → ¬ S b ∧ b ≠ bm) (hK : K.length < 900000) (hlen : c.b.length ≤ 1000) :
    Calls Tryz.prog 10 #[.agg #[.pointer (some ⟨g, 0, none⟩), .pointer (some ⟨h, 0, none⟩)], .int .i64 kind, .int .i64 f, .int .i64 skip, .agg #[.int .i64 c.v, .int .i64 c.i, .int .i64 c.q, .slice A1 c.b.length c1, .slice A2 c.o.length c2]] w fun e w' => ∃ B1 n1 d1 B2 q2 d2 S', e = .returned (.agg #[.int .i64 c.v, .int .i64 c.i, .int .i64 c.q, .slice B1 n1 d1, .slice B2 q2 d2]) ∧
      n1 = (certS K kind f skip c).1.b.length ∧ q2 = (certS K kind f skip c).1.o.length ∧
      Tw w' S' g bm h (certS K kind f skip c).2 ∧ (∀ b, S' b → S b ∨ w.heap.size ≤ b) ∧ Fp (fun b => S b ∨ b = bm) w w' ∧
      CertOk w' (fun b => w.heap.size ≤ b ∧ b < w'.heap.size ∧ ¬ S' b ∧ b ≠ bm) ⟨(certS K kind f skip c).1, .slice B1 n1 d1, .slice B2 q2 d2⟩ := by
  obtain ⟨L1, hL1⟩ : ∃ L, Psp.ordR (reqsF K c.b).1 = L := ⟨_, rfl⟩
  obtain ⟨K1, hK1⟩ : ∃ K1, (reqsF K c.b).2 = K1 := ⟨_, rfl⟩
  have HL1 := Lib.hid hL1
  have HK1 := Lib.hid hK1
  have HT := Lib.hid hT
  have HX := Lib.hid hx
  have HP := Lib.hid hP
  have hgl := hT.nt.lt
  have HSl := Lib.hid hT.lt
  have Hc : Hid (certS K kind f skip c = (⟨c.v, c.i, c.q, L1, (vts f (Psp.within skip (f + 1)) (fun k => balM kind k ⟨c.v, c.i, c.q, L1, c.o⟩) K1 (Psp.quorum f).toNat).1⟩, (vts f (Psp.within skip (f + 1)) (fun k => balM kind k ⟨c.v, c.i, c.q, L1, c.o⟩) K1 (Psp.quorum f).toNat).2)) := Lib.hid (by unfold certS; rw [hL1, hK1])
  have hK1l : K1.length < 1000000 := by
    have h := reqsF_keys K c.b c.b.length (Nat.le_refl _)
    rw [List.take_length, hK1] at h
    omega
  have hb0 : Below w.heap.size w ((((w.alloc (.cells #[.pointer (some ⟨g, 0, none⟩), .pointer (some ⟨h, 0, none⟩)] 30)).alloc (.cells #[.int .i64 kind] 3)).alloc (.cells #[.int .i64 c.v, .int .i64 c.i, .int .i64 c.q, .slice A1 c.b.length c1, .slice A2 c.o.length c2] 25)).alloc (.cells #[.int .i64 0, .int .i64 0, .int .i64 0, .slice none 0 0, .slice none 0 0] 25)) := (((alloc_below w _).trans ((alloc_below (w.alloc (.cells #[.pointer (some ⟨g, 0, none⟩), .pointer (some ⟨h, 0, none⟩)] 30)) _).mono (by simp))).trans ((alloc_below ((w.alloc (.cells #[.pointer (some ⟨g, 0, none⟩), .pointer (some ⟨h, 0, none⟩)] 30)).alloc (.cells #[.int .i64 kind] 3)) _).mono (by simp; omega))).trans ((alloc_below (((w.alloc (.cells #[.pointer (some ⟨g, 0, none⟩), .pointer (some ⟨h, 0, none⟩)] 30)).alloc (.cells #[.int .i64 kind] 3)).alloc (.cells #[.int .i64 c.v, .int .i64 c.i, .int .i64 c.q, .slice A1 c.b.length c1, .slice A2 c.o.length c2] 25)) _).mono (by simp; omega))
  have ht0 : ((((w.alloc (.cells #[.pointer (some ⟨g, 0, none⟩), .pointer (some ⟨h, 0, none⟩)] 30)).alloc (.cells #[.int .i64 kind] 3)).alloc (.cells #[.int .i64 c.v, .int .i64 c.i, .int .i64 c.q, .slice A1 c.b.length c1, .slice A2 c.o.length c2] 25)).alloc (.cells #[.int .i64 0, .int .i64 0, .int .i64 0, .slice none 0 0, .slice none 0 0] 25)).heap[w.heap.size]? = some (.cells #[.pointer (some ⟨g, 0, none⟩), .pointer (some ⟨h, 0, none⟩)] 30 (0, 0)) := by have h := box_below (box_below (box_below (heap_alloc_new (w) (.cells #[.pointer (some ⟨g, 0, none⟩), .pointer (some ⟨h, 0, none⟩)] 30)) (alloc_below (w.alloc (.cells #[.pointer (some ⟨g, 0, none⟩), .pointer (some ⟨h, 0, none⟩)] 30)) (.cells #[.int .i64 kind] 3)) (Nat.le_refl _)) (alloc_below ((w.alloc (.cells #[.pointer (some ⟨g, 0, none⟩), .pointer (some ⟨h, 0, none⟩)] 30)).alloc (.cells #[.int .i64 kind] 3)) (.cells #[.int .i64 c.v, .int .i64 c.i, .int .i64 c.q, .slice A1 c.b.length c1, .slice A2 c.o.length c2] 25)) (Nat.le_refl _)) (alloc_below (((w.alloc (.cells #[.pointer (some ⟨g, 0, none⟩), .pointer (some ⟨h, 0, none⟩)] 30)).alloc (.cells #[.int .i64 kind] 3)).alloc (.cells #[.int .i64 c.v, .int .i64 c.i, .int .i64 c.q, .slice A1 c.b.length c1, .slice A2 c.o.length c2] 25)) (.cells #[.int .i64 0, .int .i64 0, .int .i64 0, .slice none 0 0, .slice none 0 0] 25)) (Nat.le_refl _); simpa using h
  have hk0 : ((((w.alloc (.cells #[.pointer (some ⟨g, 0, none⟩), .pointer (some ⟨h, 0, none⟩)] 30)).alloc (.cells #[.int .i64 kind] 3)).alloc (.cells #[.int .i64 c.v, .int .i64 c.i, .int .i64 c.q, .slice A1 c.b.length c1, .slice A2 c.o.length c2] 25)).alloc (.cells #[.int .i64 0, .int .i64 0, .int .i64 0, .slice none 0 0, .slice none 0 0] 25)).heap[w.heap.size + 1]? = some (.cells #[.int .i64 kind] 3 (0, 0)) := by have h := box_below (box_below (heap_alloc_new (w.alloc (.cells #[.pointer (some ⟨g, 0, none⟩), .pointer (some ⟨h, 0, none⟩)] 30)) (.cells #[.int .i64 kind] 3)) (alloc_below ((w.alloc (.cells #[.pointer (some ⟨g, 0, none⟩), .pointer (some ⟨h, 0, none⟩)] 30)).alloc (.cells #[.int .i64 kind] 3)) (.cells #[.int .i64 c.v, .int .i64 c.i, .int .i64 c.q, .slice A1 c.b.length c1, .slice A2 c.o.length c2] 25)) (Nat.le_refl _)) (alloc_below (((w.alloc (.cells #[.pointer (some ⟨g, 0, none⟩), .pointer (some ⟨h, 0, none⟩)] 30)).alloc (.cells #[.int .i64 kind] 3)).alloc (.cells #[.int .i64 c.v, .int .i64 c.i, .int .i64 c.q, .slice A1 c.b.length c1, .slice A2 c.o.length c2] 25)) (.cells #[.int .i64 0, .int .i64 0, .int .i64 0, .slice none 0 0, .slice none 0 0] 25)) (Nat.le_refl _); simpa using h
  have hc0 : ((((w.alloc (.cells #[.pointer (some ⟨g, 0, none⟩), .pointer (some ⟨h, 0, none⟩)] 30)).alloc (.cells #[.int .i64 kind] 3)).alloc (.cells #[.int .i64 c.v, .int .i64 c.i, .int .i64 c.q, .slice A1 c.b.length c1, .slice A2 c.o.length c2] 25)).alloc (.cells #[.int .i64 0, .int .i64 0, .int .i64 0, .slice none 0 0, .slice none 0 0] 25)).heap[w.heap.size + 2]? = some (.cells #[.int .i64 c.v, .int .i64 c.i, .int .i64 c.q, .slice A1 c.b.length c1, .slice A2 c.o.length c2] 25 (0, 0)) := by have h := box_below (heap_alloc_new ((w.alloc (.cells #[.pointer (some ⟨g, 0, none⟩), .pointer (some ⟨h, 0, none⟩)] 30)).alloc (.cells #[.int .i64 kind] 3)) (.cells #[.int .i64 c.v, .int .i64 c.i, .int .i64 c.q, .slice A1 c.b.length c1, .slice A2 c.o.length c2] 25)) (alloc_below (((w.alloc (.cells #[.pointer (some ⟨g, 0, none⟩), .pointer (some ⟨h, 0, none⟩)] 30)).alloc (.cells #[.int .i64 kind] 3)).alloc (.cells #[.int .i64 c.v, .int .i64 c.i, .int .i64 c.q, .slice A1 c.b.length c1, .slice A2 c.o.length c2] 25)) (.cells #[.int .i64 0, .int .i64 0, .int .i64 0, .slice none 0 0, .slice none 0 0] 25)) (Nat.le_refl _); simpa using h
  have hz0 : ((((w.alloc (.cells #[.pointer (some ⟨g, 0, none⟩), .pointer (some ⟨h, 0, none⟩)] 30)).alloc (.cells #[.int .i64 kind] 3)).alloc (.cells #[.int .i64 c.v, .int .i64 c.i, .int .i64 c.q, .slice A1 c.b.length c1, .slice A2 c.o.length c2] 25)).alloc (.cells #[.int .i64 0, .int .i64 0, .int .i64 0, .slice none 0 0, .slice none 0 0] 25)).heap[w.heap.size + 3]? = some (.cells #[.int .i64 0, .int .i64 0, .int .i64 0, .slice none 0 0, .slice none 0 0] 25 (0, 0)) := by have h := heap_alloc_new (((w.alloc (.cells #[.pointer (some ⟨g, 0, none⟩), .pointer (some ⟨h, 0, none⟩)] 30)).alloc (.cells #[.int .i64 kind] 3)).alloc (.cells #[.int .i64 c.v, .int .i64 c.i, .int .i64 c.q, .slice A1 c.b.length c1, .slice A2 c.o.length c2] 25)) (.cells #[.int .i64 0, .int .i64 0, .int .i64 0, .slice none 0 0, .slice none 0 0] 25); simpa using h
  have hs0 : ((((w.alloc (.cells #[.pointer (some ⟨g, 0, none⟩), .pointer (some ⟨h, 0, none⟩)] 30)).alloc (.cells #[.int .i64 kind] 3)).alloc (.cells #[.int .i64 c.v, .int .i64 c.i, .int .i64 c.q, .slice A1 c.b.length c1, .slice A2 c.o.length c2] 25)).alloc (.cells #[.int .i64 0, .int .i64 0, .int .i64 0, .slice none 0 0, .slice none 0 0] 25)).heap.size = w.heap.size + 4 := by simp
  clear hT hx hP hL1 hK1
  go_enter Tryz.func10, Tryz.ntmps10
  go_wp2_with fail
  obtain ⟨W, hW⟩ : ∃ W, (((w.alloc (.cells #[.pointer (some ⟨g, 0, none⟩), .pointer (some ⟨h, 0, none⟩)] 30)).alloc (.cells #[.int .i64 kind] 3)).alloc (.cells #[.int .i64 c.v, .int .i64 c.i, .int .i64 c.q, .slice A1 c.b.length c1, .slice A2 c.o.length c2] 25)).alloc (.cells #[.int .i64 0, .int .i64 0, .int .i64 0, .slice none 0 0, .slice none 0 0] 25) = W := ⟨_, rfl⟩
  rw [hW] at hb0 ht0 hk0 hc0 hz0 hs0 ⊢
  have HB0 := Lib.hid hb0
  have Ht0 := Lib.hid ht0
  have Hk0 := Lib.hid hk0
  have Hc0 := Lib.hid hc0
  have Hz0 := Lib.hid hz0
  have hsW : w.heap.size + 4 ≤ W.heap.size := by omega
  clear hW hb0 ht0 hk0 hc0 hz0 hs0
  refine (two_batch S g bm h K c.b c.b.length _ W P (HT.out.below HB0.out) (by omega) (HX.out.1.keeps (Keeps.below HB0.out)) rfl hlen HP.out).mono ?_
  rintro e w1 ⟨B1, d1, S1, rfl, hT1, hS1, hF1, B, hB, hO1, hSB⟩
  rw [HL1.out] at hO1 ⊢
  rw [HK1.out] at hT1
  have hz1 := hF1.size
  have hn0 : ∀ j, w.heap.size ≤ j → j < W.heap.size → ¬ (S j ∨ j = bm) := fun j hj _ => by rintro (hh | hh); (have := HSl.out _ hh; omega); omega
  have hS1n : ∀ j, w.heap.size ≤ j → j < W.heap.size → ¬ (S1 j ∨ j = bm) := fun j hj hjW => by
    rintro (hh | hh)
    · rcases hS1 j hh with h1 | h1
      · have := HSl.out _ h1; omega
      · omega
    · omega
  have Ht1 := Lib.hid ((hF1.block w.heap.size (by omega) (hn0 _ (by omega) (by omega))).trans Ht0.out)
  have Hk1 := Lib.hid ((hF1.block (w.heap.size + 1) (by omega) (hn0 _ (by omega) (by omega))).trans Hk0.out)
  have Hc1 := Lib.hid ((hF1.block (w.heap.size + 2) (by omega) (hn0 _ (by omega) (by omega))).trans Hc0.out)
  have Hz1 := Lib.hid ((hF1.block (w.heap.size + 3) (by omega) (hn0 _ (by omega) (by omega))).trans Hz0.out)
  have HT1 := Lib.hid hT1
  have HS1 := Lib.hid hS1
  have HF1 := Lib.hid hF1
  have HO1 := Lib.hid hO1
  have HSB := Lib.hid hSB
  have HS1n := Lib.hid hS1n
  clear hT1 hS1 hF1 hO1 hSB hn0 hS1n Ht0 Hk0 Hc0 Hz0
  have x3 : w1.cell? ⟨w.heap.size + 2, 3, none⟩ = some (.slice A1 c.b.length c1) := by rw [cell_of_row _ _ 3 _ _ _ Hc1.out]; rfl
  have z3 : w1.frozen? ⟨w.heap.size + 2, 3, none⟩ = false := frozen_of_row _ _ 3 _ _ Hc1.out
  go_upto_region 2 with fail
  have hc2 : (w1.setCell ⟨w.heap.size + 2, 3, none⟩ (.slice B1 L1.length d1)).heap[w.heap.size + 2]? = some (.cells #[.int .i64 c.v, .int .i64 c.i, .int .i64 c.q, .slice B1 L1.length d1, .slice A2 c.o.length c2] 25 (0, 0)) := by rw [heap_setCell_same w1 (w.heap.size + 2) 3 _ _ _ Hc1.out]; rfl
  have hf2 : Fp (fun b => b = w.heap.size + 2) w1 (w1.setCell ⟨w.heap.size + 2, 3, none⟩ (.slice B1 L1.length d1)) := (Fp.refl (fun b => b = w.heap.size + 2) w1).setCell (p := ⟨w.heap.size + 2, 3, none⟩) (Or.inl (show w.heap.size + 2 = w.heap.size + 2 from rfl)) _
  obtain ⟨W2, hW2⟩ : ∃ W2, w1.setCell ⟨w.heap.size + 2, 3, none⟩ (.slice B1 L1.length d1) = W2 := ⟨_, rfl⟩
  rw [hW2] at hc2 hf2 ⊢
  have hz2 := hf2.size
  have Hc2 := Lib.hid hc2
  have Ht2 := Lib.hid ((hf2.block w.heap.size (by omega) (by omega)).trans Ht1.out)
  have Hk2 := Lib.hid ((hf2.block (w.heap.size + 1) (by omega) (by omega)).trans Hk1.out)
  have Hz2 := Lib.hid ((hf2.block (w.heap.size + 3) (by omega) (by omega)).trans Hz1.out)
  have HT2 := Lib.hid (HT1.out.fp hf2 (by omega) (by omega) (fun b hb he => HS1n.out b (by omega) (by omega) (.inl hb)))
  have HO2 := Lib.hid (own_keep HO1.out (w' := W2) fun b hb => hf2.block b (HO1.out.lt b hb).2 (by have := (HO1.out.lt b hb).1; omega))
  have HF2 := Lib.hid (((Fp.of_below HB0.out _).trans HF1.out fun k hk => .inl hk).trans hf2 fun k hk => .inr (by omega))
  clear x3 z3 hW2 hc2 hf2 HT1 HO1 HF1 Ht1 Hk1 Hc1 Hz1
  have x0 : W2.cell? ⟨w.heap.size, 0, none⟩ = some (.pointer (some ⟨g, 0, none⟩)) := by rw [cell_of_row _ _ 0 _ _ _ Ht2.out]; rfl
  have x1 : W2.cell? ⟨w.heap.size, 1, none⟩ = some (.pointer (some ⟨h, 0, none⟩)) := by rw [cell_of_row _ _ 1 _ _ _ Ht2.out]; rfl
  go_wp2_with fail
  have hclo : ∀ (k : Int) (W' : World), 0 ≤ k → k ≤ 100 → Fp (fun b => S1 b ∨ b = bm) W2 W' → Calls Tryz.prog 40 #[.int .i64 k, .pointer (some ⟨w.heap.size + 1, 0, none⟩), .pointer (some ⟨w.heap.size + 2, 0, none⟩)] W' fun e w' => ∃ vb vo vc vp, e = .returned (.agg #[.int .i64 ((fun k => balM kind k ⟨c.v, c.i, c.q, L1, c.o⟩) k).k, .int .i64 ((fun k => balM kind k ⟨c.v, c.i, c.q, L1, c.o⟩) k).f, .int .i64 ((fun k => balM kind k ⟨c.v, c.i, c.q, L1, c.o⟩) k).v, .int .i64 ((fun k => balM kind k ⟨c.v, c.i, c.q, L1, c.o⟩) k).i, .int .i64 ((fun k => balM kind k ⟨c.v, c.i, c.q, L1, c.o⟩) k).q, .int .i64 ((fun k => balM kind k ⟨c.v, c.i, c.q, L1, c.o⟩) k).r, vb, vo, vc, vp]) ∧ MsgOk w' (fun b => b < w'.heap.size) ⟨(fun k => balM kind k ⟨c.v, c.i, c.q, L1, c.o⟩) k, vb, vo, vc, vp⟩ ∧ Below W'.heap.size W' w' := by
    intro k W' _ _ hf'
    have hzf := hf'.size
    have hk' : W'.cell? ⟨w.heap.size + 1, 0, none⟩ = some (.int .i64 kind) := by
      rw [cell_of_row _ _ 0 _ _ _ ((hf'.block (w.heap.size + 1) (by omega) (HS1n.out _ (by omega) (by omega))).trans Hk2.out)]; rfl
    have hc' := (hf'.block (w.heap.size + 2) (by omega) (HS1n.out _ (by omega) (by omega))).trans Hc2.out
    have hrb : RdP W' (fun b => b < W'.heap.size) 6 (.slice B1 L1.length d1) L1.length (L1.flatMap rq) := by
      have h1 := (RdP.of_own HO2.out).fp hf' (fun b hb => by
        rintro (hh | hh)
        · have := HSB.out b hh; omega
        · omega)
      exact h1.mono fun b hb _ => hb
    have hro : RdP W' (fun b => b < W'.heap.size) 2 (.slice A2 c.o.length c2) c.o.length (c.o.flatMap vt) := by
      have h1 := (RdP.mono (P' := fun b => P b ∧ b < w.heap.size) HX.out.2 fun b hb hPb => ⟨hPb, hb⟩).keep (w' := W2) HF2.out.size fun b hPb hlt => HF2.out.block b hlt (by rintro (hh | hh); exact (HP.out b hPb.1).1 hh; exact (HP.out b hPb.1).2 hh)
      have h3 := h1.fp hf' (fun b hb => by
        rintro (hh | hh)
        · rcases HS1.out b hh with h4 | h4
          · exact (HP.out b hb.1).1 h4
          · omega
        · exact (HP.out b hb.1).2 hh)
      exact h3.mono fun b hb _ => hb
    refine (clo_ce k kind ⟨c.v, c.i, c.q, L1, c.o⟩ B1 A2 d1 c2 (w.heap.size + 1) (w.heap.size + 2) W' (fun b => b < W'.heap.size) ⟨hrb, hro⟩ hk' hc').mono ?_
    rintro e w' ⟨rfl, hb'⟩
    exact ⟨_, _, _, _, rfl, ⟨(hrb.keeps (Keeps.below hb')).mono fun b hb _ => hb, RdP.none_, RdC.nil, RdA.nil⟩, hb'⟩
  have HCl := Lib.hid hclo
  clear x0 x1 hclo
  refine (votes_ce f skip S1 g bm h K1 W2 hf hs HT2.out hK1l (fun k => balM kind k ⟨c.v, c.i, c.q, L1, c.o⟩) _ _ (fun k => rfl) HCl.out).mono ?_
  rintro e w3 ⟨B2, d2, S3, rfl, hVi⟩
  obtain ⟨VK, hVK⟩ : ∃ VK, vts f (Psp.within skip (f + 1)) (fun k => balM kind k ⟨c.v, c.i, c.q, L1, c.o⟩) K1 (Psp.quorum f).toNat = VK := ⟨_, rfl⟩
  have hvl := vts_len f (Psp.within skip (f + 1)) (fun k => balM kind k ⟨c.v, c.i, c.q, L1, c.o⟩) K1 (Psp.quorum f).toNat
  rw [hVK] at hVi hvl
  obtain ⟨q, hq⟩ : ∃ q, (Psp.quorum f).toNat = q := ⟨_, rfl⟩
  rw [hq] at hVi hvl ⊢
  have HVK := Lib.hid hVK
  have Hq := Lib.hid hq
  have Hvl := Lib.hid hvl
  have HVi := Lib.hid hVi
  have hf3 := hVi.fp
  have hz3 := hf3.size
  have Hc3 := Lib.hid ((hf3.block (w.heap.size + 2) (by omega) (HS1n.out _ (by omega) (by omega))).trans Hc2.out)
  have Hz3 := Lib.hid ((hf3.block (w.heap.size + 3) (by omega) (HS1n.out _ (by omega) (by omega))).trans Hz2.out)
  have HO3 := Lib.hid (own_keep HO2.out (w' := w3) fun b hb => hf3.block b (HO2.out.lt b hb).2 (by
    have h1 := (HO2.out.lt b hb).1
    rintro (hh | hh)
    · have := HSB.out b hh; omega
    · omega))
  have hS3 : ∀ b, S3 b → b ≠ w.heap.size + 2 ∧ b ≠ w.heap.size + 3 := fun b hb => by
    rcases hVi.new b hb with h1 | h1
    · exact ⟨fun he => HS1n.out _ (by omega) (by omega) (.inl h1), fun he => HS1n.out _ (by omega) (by omega) (.inl h1)⟩
    · omega
  have HS3 := Lib.hid hS3
  clear hVK hq hvl hVi hf3 hS3 HT2 HCl
  have x4 : w3.cell? ⟨w.heap.size + 2, 4, none⟩ = some (.slice A2 c.o.length c2) := by rw [cell_of_row _ _ 4 _ _ _ Hc3.out]; rfl
  have z4 : w3.frozen? ⟨w.heap.size + 2, 4, none⟩ = false := frozen_of_row _ _ 4 _ _ Hc3.out
  go_upto_region 3 with fail
  have hc4 : (w3.setCell ⟨w.heap.size + 2, 4, none⟩ (.slice B2 q d2)).heap[w.heap.size + 2]? = some (.cells #[.int .i64 c.v, .int .i64 c.i, .int .i64 c.q, .slice B1 L1.length d1, .slice B2 q d2] 25 (0, 0)) := by rw [heap_setCell_same w3 (w.heap.size + 2) 4 _ _ _ Hc3.out]; rfl
  have hf4 : Fp (fun b => b = w.heap.size + 2) w3 (w3.setCell ⟨w.heap.size + 2, 4, none⟩ (.slice B2 q d2)) := (Fp.refl (fun b => b = w.heap.size + 2) w3).setCell (p := ⟨w.heap.size + 2, 4, none⟩) (Or.inl (show w.heap.size + 2 = w.heap.size + 2 from rfl)) _
  obtain ⟨W4, hW4⟩ : ∃ W4, w3.setCell ⟨w.heap.size + 2, 4, none⟩ (.slice B2 q d2) = W4 := ⟨_, rfl⟩
  rw [hW4] at hc4 hf4 ⊢
  have Hc4 := Lib.hid hc4
  have hd4 := (hf4.block (w.heap.size + 3) (by omega) (by omega)).trans Hz3.out
  have Hth := Lib.hid (row_there hd4)
  obtain ⟨s1, s2⟩ := row_store hd4 [.int .i64 c.v, .int .i64 c.i, .int .i64 c.q, .slice B1 L1.length d1, .slice B2 q d2] rfl
  have T1 := Lib.hid s1
  have hF5 : Fp (fun b => b = w.heap.size + 2 ∨ b = w.heap.size + 3) w3 (W4.setCells (w.heap.size + 3) 0 [.int .i64 c.v, .int .i64 c.i, .int .i64 c.q, .slice B1 L1.length d1, .slice B2 q d2]) := (hf4.mono fun k _ hk => .inl hk).setCells (Or.inl (Or.inr rfl)) _
  have HF5 := Lib.hid hF5
  clear x4 z4 hW4 hc4 hf4 hd4 s1 s2 hF5
  have x0 : W4.cell? ⟨w.heap.size + 2, 0, none⟩ = some (.int .i64 c.v) := by rw [cell_of_row _ _ 0 _ _ _ Hc4.out]; rfl
  have x1 : W4.cell? ⟨w.heap.size + 2, 1, none⟩ = some (.int .i64 c.i) := by rw [cell_of_row _ _ 1 _ _ _ Hc4.out]; rfl
  have x2 : W4.cell? ⟨w.heap.size + 2, 2, none⟩ = some (.int .i64 c.q) := by rw [cell_of_row _ _ 2 _ _ _ Hc4.out]; rfl
  have x3 : W4.cell? ⟨w.heap.size + 2, 3, none⟩ = some (.slice B1 L1.length d1) := by rw [cell_of_row _ _ 3 _ _ _ Hc4.out]; rfl
  have x4 : W4.cell? ⟨w.heap.size + 2, 4, none⟩ = some (.slice B2 q d2) := by rw [cell_of_row _ _ 4 _ _ _ Hc4.out]; rfl
  go_wp2_with (first | (refine wpList_store_mid rfl 25 (.tmp 10) (.tmp 22) rfl (w.heap.size + 3) 0 #[.int .i64 c.v, .int .i64 c.i, .int .i64 c.q, .slice B1 L1.length d1, .slice B2 q d2] rfl rfl Hth.out sizeC (by simp [Value.oneCell']) ?_))
  refine bodyPost_ret (v := .agg #[.int .i64 c.v, .int .i64 c.i, .int .i64 c.q, .slice B1 L1.length d1, .slice B2 q d2]) ?_ rfl ?_
  · exact results_cell_row Tryz.results10 _ _ (w.heap.size + 3) _ _ _ _ rfl T1.out Tryz.underlying25 rfl sizeC
  · have hcs : certS K kind f skip c = (⟨c.v, c.i, c.q, L1, VK.1⟩, VK.2) := by rw [Hc.out, HVK.out]
    rw [hcs]
    have hnM : ∀ b, S3 b → ¬ (b = w.heap.size + 2 ∨ b = w.heap.size + 3) := fun b hb => by have := HS3.out b hb; omega
    refine ⟨B1, L1.length, d1, B2, q, d2, S3, rfl, rfl, Hvl.out.symm, HVi.out.tw.fp HF5.out (by omega) (by omega) (fun b hb he => hnM b hb he), fun b hb => ?_, ?_, ?_, ?_⟩
    · rcases HVi.out.new b hb with h1 | h1
      · rcases HS1.out b h1 with h2 | h2
        · exact .inl h2
        · right; omega
      · right; omega
    · exact (HF2.out.trans HVi.out.fp fun k hk => by
        rcases hk with hk | hk
        · rcases HS1.out k hk with h1 | h1
          · exact .inl (.inl h1)
          · right; omega
        · exact .inl (.inr hk)).trans HF5.out fun k hk => .inr (by omega)
    · have h1 := RdP.of_own HO3.out
      have h2 := (h1.fp HF5.out fun b hb => by omega)
      exact h2.mono fun b hb hPb => ⟨by omega, hb, fun hh => by
        rcases HVi.out.new b hh with h3 | h3
        · have := HSB.out b h3; omega
        · have := (HO2.out.lt b hPb.1).2; omega, by omega⟩
    · have h1 := RdP.of_own HVi.out.own
      rw [Hvl.out] at h1
      have h2 := (h1.fp HF5.out fun b hb => by omega)
      have h3 := h2.mono (P' := fun b => w.heap.size ≤ b ∧ b < (W4.setCells (w.heap.size + 3) 0 [.int .i64 c.v, .int .i64 c.i, .int .i64 c.q, .slice B1 L1.length d1, .slice B2 q d2]).heap.size ∧ ¬ S3 b ∧ b ≠ bm) fun b hb hPb => ⟨by omega, hb, (HVi.out.sep b hPb.1).1, (HVi.out.sep b hPb.1).2.2⟩
      show RdP _ _ 2 _ VK.1.length _
      rw [Hvl.out]
      exact h3
end Go.Proofs.YtadpkjgjciodnaaGreat
