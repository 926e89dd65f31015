/- Two notaries that have not sealed the same. Printed by gen_tv.py. -/
import Derived.Test.YtipmjleohadoeaaGreatJ22So
namespace Go.Proofs.YtipmjleohadoeaaGreat
open Go.RowKit
set_option linter.unusedVariables false
set_option linter.unusedSimpArgs false

/-- Two notaries: blocks g, bm of the one, that has sealed K; h and S of the other, that has sealed L. -/
structure Tv (W : World) (S : Nat → Prop) (g bm h : Nat) (K L : List Key) : Prop where
  nt : Nt W g bm K
  nr : Ntr W S h L
  sep : ¬ S g ∧ ¬ S bm
  lt : ∀ b, S b → b < W.heap.size
  sh : S h
theorem Tv.below {W W' : World} {S : Nat → Prop} {g bm h : Nat} {K L : List Key} (t : Tv W S g bm h K L) (hb : Below W.heap.size W W') : Tv W' S g bm h K L :=
  ⟨t.nt.below hb, t.nr.below hb, t.sep, fun b hS => Nat.lt_of_lt_of_le (t.lt b hS) hb.size, t.sh⟩
theorem Tv.fp {W W' : World} {S T : Nat → Prop} {g bm h : Nat} {K L : List Key} (t : Tv W S g bm h K L) (hf : Fp T W W') (h1 : ¬ T g) (h2 : ¬ T bm) (h3 : ∀ b, S b → ¬ T b) : Tv W' S g bm h K L :=
  ⟨t.nt.fp hf h1 h2, t.nr.fp hf h3, t.sep, fun b hS => Nat.lt_of_lt_of_le (t.lt b hS) hf.size, t.sh⟩
set_option maxRecDepth 100000 in
set_option maxHeartbeats 1000000 in
theorem two_sealv (S : Nat → Prop) (g bm h : Nat) (K L : List Key) (p : Int) (bs : List UInt8) (v : Value) (w : World) (P : Nat → Prop) (hT : Tv w S g bm h K L) (hk : KOk (p, bs)) (hl : K.length < 1099511627776) (hl2 : L.length < 1099511627776) (hv : RdP w P 1 v bs.length (bs.map bv)) (hP : ∀ b, P b → ¬ S b ∧ b ≠ bm) :
    Calls Tryz.prog 43 #[.agg #[.pointer (some ⟨g, 0, none⟩), .pointer (some ⟨h, 0, none⟩)], .int .i64 p, v] w fun e w' => e = .returned (.int .i64 (sealN K (p, bs))) ∧
      ∃ S', Tv w' S' g bm h (sealL K (p, bs)) (sealL L (p, bs)) ∧ (∀ b, S' b → S b ∨ w.heap.size ≤ b) ∧ Fp (fun b => S b ∨ b = bm) w w' := by
  have HT := Lib.hid hT
  have HV := Lib.hid hv
  have HK := Lib.hid hk
  have HP := Lib.hid hP
  have hgl := hT.nt.lt
  obtain ⟨_, A, c, rfl, _, _, _⟩ := hv.parts
  clear hT hv hk hP
  have hb0 := alloc_below w (.cells #[.pointer (some ⟨g, 0, none⟩), .pointer (some ⟨h, 0, none⟩)] 31)
  have hc0 := heap_alloc_new w (.cells #[.pointer (some ⟨g, 0, none⟩), .pointer (some ⟨h, 0, none⟩)] 31)
  have hs0 : (w.alloc (.cells #[.pointer (some ⟨g, 0, none⟩), .pointer (some ⟨h, 0, none⟩)] 31)).heap.size = w.heap.size + 1 := by simp
  go_enter Tryz.func43, Tryz.ntmps43
  go_wp2_with fail
  obtain ⟨W, hW⟩ : ∃ W, w.alloc (.cells #[.pointer (some ⟨g, 0, none⟩), .pointer (some ⟨h, 0, none⟩)] 31) = W := ⟨_, rfl⟩
  rw [hW] at hb0 hc0 hs0 ⊢
  have HB0 := Lib.hid hb0
  have HC0 := Lib.hid hc0
  have HT0 := Lib.hid (HT.out.below hb0)
  clear hW hb0 hc0
  refine (nr_seal S h L p bs _ W P HT0.out.nr hl2 (HV.out.below HB0.out) (fun b hb => (HP.out b hb).1)).mono ?_
  rintro e w1 ⟨rfl, hn1, hf1⟩
  have hz1 := hf1.size
  have hN1 : ¬ S w.heap.size := fun hS => by have := HT.out.lt _ hS; omega
  have HC1 := Lib.hid ((hf1.block w.heap.size (by omega) hN1).trans HC0.out)
  have HNt1 := Lib.hid (HT0.out.nt.fp hf1 HT0.out.sep.1 HT0.out.sep.2)
  have HNr1 := Lib.hid hn1
  have HF1 := Lib.hid hf1
  have HV1 := Lib.hid ((HV.out.below HB0.out).fp hf1 (fun b hb => (HP.out b hb).1))
  have x0 : w1.cell? ⟨w.heap.size, 0, none⟩ = some (.pointer (some ⟨g, 0, none⟩)) := by rw [cell_of_row _ _ 0 _ _ _ HC1.out]; rfl
  clear hn1 hf1
  go_wp2_with fail
  refine (nt_seal g bm K p bs _ w1 P HNt1.out HK.out hl HV1.out).mono ?_
  rintro e w2 ⟨rfl, hn2, hf2⟩
  have HN2 := Lib.hid hn2
  have HF2 := Lib.hid hf2
  clear x0 hn2 hf2
  go_wp2_with fail
  go_ret
  refine ⟨rfl, _, ⟨HN2.out, HNr1.out.fp HF2.out (fun b hb he => ?_), ⟨fun hS => ?_, fun hS => ?_⟩, fun b hS => ?_, Or.inl HT.out.sh⟩, fun b hS => ?_, ?_⟩
  · subst he
    rcases hb with hb | hb
    · exact HT.out.sep.2 hb
    · omega
  · rcases hS with hS | hS
    · exact HT.out.sep.1 hS
    · omega
  · rcases hS with hS | hS
    · exact HT.out.sep.2 hS
    · omega
  · have hz2 := HF2.out.size
    rcases hS with hS | hS
    · have := HT.out.lt b hS; omega
    · omega
  · rcases hS with hS | hS
    · exact .inl hS
    · right; omega
  · exact (((Fp.of_below HB0.out _).trans HF1.out fun k hk => .inl (.inl hk))).trans HF2.out fun k hk => .inl (.inr hk)

end Go.Proofs.YtipmjleohadoeaaGreat
