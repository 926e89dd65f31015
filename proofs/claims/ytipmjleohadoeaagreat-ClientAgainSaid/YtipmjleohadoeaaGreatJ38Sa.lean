/- Two notaries that have not sealed the same. Printed by gen_tv.py. A client, its notary, and the document's notary: what a law's walk keeps. -/
import Derived.Test.YtipmjleohadoeaaGreatJ21Sa
import Derived.Test.YtipmjleohadoeaaGreatClSa
import Derived.Test.YtipmjleohadoeaaGreatJ31Sa
section
namespace Go.Proofs.YtipmjleohadoeaaGreat
open Go.RowKit
set_option linter.unusedVariables false
set_option linter.unusedSimpArgs false

/-- Two notaries: blocks g, bm of the one, that has sealed K; h and S of the other, that has sealed L. -/
structure Tv (W : World) (S : Nat → Prop) (g bm h : Nat) (K L : List Key) : Prop where
  nt : Nt W g bm K
  nr : Ntr W S h L
  sep : ¬ S g ∧ ¬ S bm
  lt : ∀ b, S b → b < W.heap.size
  sh : S h
theorem Tv.below {W W' : World} {S : Nat → Prop} {g bm h : Nat} {K L : List Key} (t : Tv W S g bm h K L) (hb : Below W.heap.size W W') : Tv W' S g bm h K L :=
  ⟨t.nt.below hb, t.nr.below hb, t.sep, fun b hS => Nat.lt_of_lt_of_le (t.lt b hS) hb.size, t.sh⟩
theorem Tv.fp {W W' : World} {S T : Nat → Prop} {g bm h : Nat} {K L : List Key} (t : Tv W S g bm h K L) (hf : Fp T W W') (h1 : ¬ T g) (h2 : ¬ T bm) (h3 : ∀ b, S b → ¬ T b) : Tv W' S g bm h K L :=
  ⟨t.nt.fp hf h1 h2, t.nr.fp hf h3, t.sep, fun b hS => Nat.lt_of_lt_of_le (t.lt b hS) hf.size, t.sh⟩
set_option maxRecDepth 100000 in
set_option maxHeartbeats 1000000 in
theorem two_sealv (S : Nat → Prop) (g bm h : Nat) (K L : List Key) (p : Int) (bs : List UInt8) (v : Value) (w : World) (P : Nat → Prop) (hT : Tv w S g bm h K L) (hk : KOk (p, bs)) (hl : K.length < 1099511627776) (hl2 : L.length < 1099511627776) (hv : RdP w P 1 v bs.length (bs.map bv)) (hP : ∀ b, P b → ¬ S b ∧ b ≠ bm) :
    Calls Tryz.prog 43 #[.agg #[.pointer (some ⟨g, 0, none⟩), .pointer (some ⟨h, 0, none⟩)], .int .i64 p, v] w fun e w' => e = .returned (.int .i64 (sealN K (p, bs))) ∧
      ∃ S', Tv w' S' g bm h (sealL K (p, bs)) (sealL L (p, bs)) ∧ (∀ b, S' b → S b ∨ w.heap.size ≤ b) ∧ Fp (fun b => S b ∨ b = bm) w w' := by
  have HT := Lib.hid hT
  have HV := Lib.hid hv
  have HK := Lib.hid hk
  have HP := Lib.hid hP
  have hgl := hT.nt.lt
  obtain ⟨_, A, c, rfl, _, _, _⟩ := hv.parts
  clear hT hv hk hP
  have hb0 := alloc_below w (.cells #[.pointer (some ⟨g, 0, none⟩), .pointer (some ⟨h, 0, none⟩)] 31)
  have hc0 := heap_alloc_new w (.cells #[.pointer (some ⟨g, 0, none⟩), .pointer (some ⟨h, 0, none⟩)] 31)
  have hs0 : (w.alloc (.cells #[.pointer (some ⟨g, 0, none⟩), .pointer (some ⟨h, 0, none⟩)] 31)).heap.size = w.heap.size + 1 := by simp
  go_enter Tryz.func43, Tryz.ntmps43
  go_wp2_with fail
  obtain ⟨W, hW⟩ : ∃ W, w.alloc (.cells #[.pointer (some ⟨g, 0, none⟩), .pointer (some ⟨h, 0, none⟩)] 31) = W := ⟨_, rfl⟩
  rw [hW] at hb0 hc0 hs0 ⊢
  have HB0 := Lib.hid hb0
  have HC0 := Lib.hid hc0
  have HT0 := Lib.hid (HT.out.below hb0)
  clear hW hb0 hc0
  refine (nr_seal S h L p bs _ W P HT0.out.nr hl2 (HV.out.below HB0.out) (fun b hb => (HP.out b hb).1)).mono ?_
  rintro e w1 ⟨rfl, hn1, hf1⟩
  have hz1 := hf1.size
  have hN1 : ¬ S w.heap.size := fun hS => by have := HT.out.lt _ hS; omega
  have HC1 := Lib.hid ((hf1.block w.heap.size (by omega) hN1).trans HC0.out)
  have HNt1 := Lib.hid (HT0.out.nt.fp hf1 HT0.out.sep.1 HT0.out.sep.2)
  have HNr1 := Lib.hid hn1
  have HF1 := Lib.hid hf1
  have HV1 := Lib.hid ((HV.out.below HB0.out).fp hf1 (fun b hb => (HP.out b hb).1))
  have x0 : w1.cell? ⟨w.heap.size, 0, none⟩ = some (.pointer (some ⟨g, 0, none⟩)) := by rw [cell_of_row _ _ 0 _ _ _ HC1.out]; rfl
  clear hn1 hf1
  go_wp2_with fail
  refine (nt_seal g bm K p bs _ w1 P HNt1.out HK.out hl HV1.out).mono ?_
  rintro e w2 ⟨rfl, hn2, hf2⟩
  have HN2 := Lib.hid hn2
  have HF2 := Lib.hid hf2
  clear x0 hn2 hf2
  go_wp2_with fail
  go_ret
  refine ⟨rfl, _, ⟨HN2.out, HNr1.out.fp HF2.out (fun b hb he => ?_), ⟨fun hS => ?_, fun hS => ?_⟩, fun b hS => ?_, Or.inl HT.out.sh⟩, fun b hS => ?_, ?_⟩
  · subst he
    rcases hb with hb | hb
    · exact HT.out.sep.2 hb
    · omega
  · rcases hS with hS | hS
    · exact HT.out.sep.1 hS
    · omega
  · rcases hS with hS | hS
    · exact HT.out.sep.2 hS
    · omega
  · have hz2 := HF2.out.size
    rcases hS with hS | hS
    · have := HT.out.lt b hS; omega
    · omega
  · rcases hS with hS | hS
    · exact .inl hS
    · right; omega
  · exact (((Fp.of_below HB0.out _).trans HF1.out fun k hk => .inl (.inl hk))).trans HF2.out fun k hk => .inl (.inr hk)

end Go.Proofs.YtipmjleohadoeaaGreat
end
section
namespace Go.Proofs.YtipmjleohadoeaaGreat
open Go.RowKit
set_option linter.unusedVariables false
set_option linter.unusedSimpArgs false

/-- A client and two notaries; all but the first notary lies in blocks of S. -/
structure Cw (W : World) (S : Nat → Prop) (g bm h : Nat) (K L : List Key) (k ct : Nat) (c : Cf) (id : Int) (s : CS) : Prop where
  ex : ∃ T U : Nat → Prop, (∀ b, S b ↔ (T b ∨ U b)) ∧ Cn W U g bm K k ct c id s ∧ Tv W T g bm h K L ∧ ∀ b, T b → ¬ U b
section
variable {W W' : World} {S : Nat → Prop} {g bm h k ct : Nat} {K L : List Key} {c : Cf} {id : Int} {s : CS}
theorem Cw.nt (H : Cw W S g bm h K L k ct c id s) : Nt W g bm K := by obtain ⟨T, U, _, h1, _⟩ := H.ex; exact h1.nt
theorem Cw.lt (H : Cw W S g bm h K L k ct c id s) : ∀ b, S b → b < W.heap.size := by
  obtain ⟨T, U, hS, h1, h2, _⟩ := H.ex
  intro b hb
  rcases (hS b).1 hb with hb | hb
  · exact h2.lt b hb
  · exact h1.cm.lt b hb
theorem Cw.below (H : Cw W S g bm h K L k ct c id s) (hb : Below W.heap.size W W') : Cw W' S g bm h K L k ct c id s := by
  obtain ⟨T, U, hS, h1, h2, h3⟩ := H.ex
  exact ⟨T, U, hS, h1.below hb, h2.below hb, h3⟩
theorem Cw.fp {R : Nat → Prop} (H : Cw W S g bm h K L k ct c id s) (hf : Fp R W W') (hg : ¬ R g) (hb : ¬ R bm) (hR : ∀ b, S b → ¬ R b) : Cw W' S g bm h K L k ct c id s := by
  obtain ⟨T, U, hS, h1, h2, h3⟩ := H.ex
  exact ⟨T, U, hS, h1.fp hf (fun b hb => hR b ((hS b).2 (.inr hb))) hg hb, h2.fp hf hg hb (fun b hb => hR b ((hS b).2 (.inl hb))), h3⟩
/-- Two notaries alone. -/
theorem Cw.start (h2 : Tv W S g bm h K L) {U : Nat → Prop} (h1 : Clm W U k ct g c id s) (hU : ∀ b, U b → ¬ S b ∧ b ≠ g ∧ b ≠ bm) : Cw W (fun b => S b ∨ U b) g bm h K L k ct c id s :=
  ⟨S, U, fun b => Iff.rfl, ⟨h2.nt, h1, fun hh => (hU g hh).2.1 rfl, fun hh => (hU bm hh).2.2 rfl⟩, h2, fun b hb hu => (hU b hu).1 hb⟩
/-- What the client does to itself and its notary. -/
theorem Cw.op {P : Program} {f : FuncId} {args : Array Value} {K' : List Key} {s' : CS} {Q : Ending → World → Prop} (H : Cw W S g bm h K L k ct c id s)
    (hop : ∀ U, Cn W U g bm K k ct c id s → Calls P f args W fun e W' => Q e W' ∧ ∃ U', Cn W' U' g bm K' k ct c id s' ∧ (∀ b, U' b → U b ∨ W.heap.size ≤ b) ∧ Fp (fun b => U b ∨ b = bm) W W') :
    Calls P f args W fun e W' => Q e W' ∧ ∃ S', Cw W' S' g bm h K' L k ct c id s' ∧ (∀ b, S' b → S b ∨ W.heap.size ≤ b) ∧ Fp (fun b => S b ∨ b = bm) W W' := by
  obtain ⟨T, U, hS, h1, h2, h3⟩ := H.ex
  refine (hop U h1).mono ?_
  rintro e W' ⟨hq, U', h4, h5, h6⟩
  have hTb : ∀ b, T b → ¬ (U b ∨ b = bm) := fun b hb => by
    rintro (hh | hh)
    · exact h3 b hb hh
    · exact h2.sep.2 (hh ▸ hb)
  refine ⟨hq, fun b => T b ∨ U' b, ⟨T, U', fun b => Iff.rfl, h4, ⟨h4.nt, h2.nr.fp h6 hTb, h2.sep, fun b hb => Nat.lt_of_lt_of_le (h2.lt b hb) h6.size, h2.sh⟩, fun b hb hu => ?_⟩, fun b hb => ?_, h6.mono fun b _ hb => ?_⟩
  · rcases h5 b hu with h7 | h7
    · exact h3 b hb h7
    · have := h2.lt b hb; omega
  · rcases hb with hb | hb
    · exact .inl ((hS b).2 (.inl hb))
    · rcases h5 b hb with h7 | h7
      · exact .inl ((hS b).2 (.inr h7))
      · exact .inr h7
  · rcases hb with hb | hb
    · exact .inl ((hS b).2 (.inr hb))
    · exact .inr hb
/-- What the two notaries are asked. -/
theorem Cw.two {P : Program} {f : FuncId} {args : Array Value} {K' L' : List Key} {Q : Ending → World → (Nat → Prop) → Prop} (H : Cw W S g bm h K L k ct c id s)
    (hop : ∀ T, Tv W T g bm h K L → Calls P f args W fun e W' => ∃ T', Q e W' T' ∧ Tv W' T' g bm h K' L' ∧ (∀ b, T' b → T b ∨ W.heap.size ≤ b) ∧ Fp (fun b => T b ∨ b = bm) W W') :
    Calls P f args W fun e W' => ∃ T' S', Q e W' T' ∧ (∀ b, S' b → T' b ∨ b < W.heap.size) ∧ Cw W' S' g bm h K' L' k ct c id s ∧ (∀ b, S' b → S b ∨ W.heap.size ≤ b) ∧ Fp (fun b => S b ∨ b = bm) W W' := by
  obtain ⟨T, U, hS, h1, h2, h3⟩ := H.ex
  refine (hop T h2).mono ?_
  rintro e W' ⟨T', hq, h4, h5, h6⟩
  have hUb : ∀ b, U b → ¬ (T b ∨ b = bm) := fun b hb => by
    rintro (hh | hh)
    · exact h3 b hh hb
    · exact h1.sep.2 (hh ▸ hb)
  refine ⟨T', fun b => T' b ∨ U b, hq, fun b hb => ?_, ⟨T', U, fun b => Iff.rfl, ⟨h4.nt, h1.cm.fp h6 hUb, h1.sep⟩, h4, fun b hb hu => ?_⟩, fun b hb => ?_, h6.mono fun b _ hb => ?_⟩
  · rcases hb with hb | hb
    · exact .inl hb
    · exact .inr (h1.cm.lt b hb)
  · rcases h5 b hb with h7 | h7
    · exact h3 b h7 hu
    · have := h1.cm.lt b hu; omega
  · rcases hb with hb | hb
    · rcases h5 b hb with h7 | h7
      · exact .inl ((hS b).2 (.inl h7))
      · exact .inr h7
    · exact .inl ((hS b).2 (.inr hb))
  · rcases hb with hb | hb
    · exact .inl ((hS b).2 (.inl hb))
    · exact .inr hb
/-- What the client alone is asked. -/
theorem Cw.ask {P : Program} {f : FuncId} {args : Array Value} {Q : Ending → World → Prop} (H : Cw W S g bm h K L k ct c id s) (hop : ∀ U, Clm W U k ct g c id s → Calls P f args W Q) : Calls P f args W Q := by
  obtain ⟨T, U, hS, h1, h2, h3⟩ := H.ex
  exact hop U h1.cm
end
end Go.Proofs.YtipmjleohadoeaaGreat
end
