/- Two notaries that have sealed the same: begin, Two.Seal, Two.Msg. -/
import Derived.Test.YtadpkjgjciodnaaGreatJ10Vi
import Derived.Test.YtadpkjgjciodnaaGreatMrVi
import Derived.Test.YtadpkjgjciodnaaGreatGgVi
import Derived.Test.YtadpkjgjciodnaaGreatJ24Vi
namespace Go.Proofs.YtadpkjgjciodnaaGreat
open Go.RowKit
set_option linter.unusedVariables false
set_option linter.unusedSimpArgs false

/-- Two notaries: blocks g, bm of the one; h and S of the other; K has been sealed. -/
structure Tw (W : World) (S : Nat → Prop) (g bm h : Nat) (K : List Key) : Prop where
  nt : Nt W g bm K
  nr : Ntr W S h K
  sep : ¬ S g ∧ ¬ S bm
  lt : ∀ b, S b → b < W.heap.size
  sh : S h
theorem Tw.below {W W' : World} {S : Nat → Prop} {g bm h : Nat} {K : List Key} (t : Tw W S g bm h K) (hb : Below W.heap.size W W') : Tw W' S g bm h K :=
  ⟨t.nt.below hb, t.nr.below hb, t.sep, fun b hS => Nat.lt_of_lt_of_le (t.lt b hS) hb.size, t.sh⟩

theorem Tw.fp {W W' : World} {S T : Nat → Prop} {g bm h : Nat} {K : List Key} (t : Tw W S g bm h K) (hf : Fp T W W') (h1 : ¬ T g) (h2 : ¬ T bm) (h3 : ∀ b, S b → ¬ T b) : Tw W' S g bm h K :=
  ⟨t.nt.fp hf h1 h2, t.nr.fp hf h3, t.sep, fun b hS => Nat.lt_of_lt_of_le (t.lt b hS) hf.size, t.sh⟩
set_option maxRecDepth 100000 in
set_option maxHeartbeats 1000000 in
theorem two_seal (S : Nat → Prop) (g bm h : Nat) (K : List Key) (p : Int) (bs : List UInt8) (v : Value) (w : World) (P : Nat → Prop) (hT : Tw w S g bm h K) (hk : KOk (p, bs)) (hl : K.length < 1099511627776) (hv : RdP w P 1 v bs.length (bs.map bv)) (hP : ∀ b, P b → ¬ S b ∧ b ≠ bm) :
    Calls Tryz.prog 35 #[.agg #[.pointer (some ⟨g, 0, none⟩), .pointer (some ⟨h, 0, none⟩)], .int .i64 p, v] w fun e w' => e = .returned (.int .i64 (sealN K (p, bs))) ∧
      ∃ S', Tw w' S' g bm h (sealL K (p, bs)) ∧ (∀ b, S' b → S b ∨ w.heap.size ≤ b) ∧ Fp (fun b => S b ∨ b = bm) w w' := by
  have HT := Lib.hid hT
  have HV := Lib.hid hv
  have HK := Lib.hid hk
  have HP := Lib.hid hP
  have hgl := hT.nt.lt
  obtain ⟨_, A, c, rfl, _, _, _⟩ := hv.parts
  clear hT hv hk hP
  have hb0 := alloc_below w (.cells #[.pointer (some ⟨g, 0, none⟩), .pointer (some ⟨h, 0, none⟩)] 30)
  have hc0 := heap_alloc_new w (.cells #[.pointer (some ⟨g, 0, none⟩), .pointer (some ⟨h, 0, none⟩)] 30)
  have hs0 : (w.alloc (.cells #[.pointer (some ⟨g, 0, none⟩), .pointer (some ⟨h, 0, none⟩)] 30)).heap.size = w.heap.size + 1 := by simp
  go_enter Tryz.func35, Tryz.ntmps35
  go_wp2_with fail
  obtain ⟨W, hW⟩ : ∃ W, w.alloc (.cells #[.pointer (some ⟨g, 0, none⟩), .pointer (some ⟨h, 0, none⟩)] 30) = W := ⟨_, rfl⟩
  rw [hW] at hb0 hc0 hs0 ⊢
  have HB0 := Lib.hid hb0
  have HC0 := Lib.hid hc0
  have HT0 := Lib.hid (HT.out.below hb0)
  clear hW hb0 hc0
  refine (nr_seal S h K p bs _ W P HT0.out.nr hl (HV.out.below HB0.out) (fun b hb => (HP.out b hb).1)).mono ?_
  rintro e w1 ⟨rfl, hn1, hf1⟩
  have hz1 := hf1.size
  have hN1 : ¬ S w.heap.size := fun hS => by have := HT.out.lt _ hS; omega
  have HC1 := Lib.hid ((hf1.block w.heap.size (by omega) hN1).trans HC0.out)
  have HNt1 := Lib.hid (HT0.out.nt.fp hf1 HT0.out.sep.1 HT0.out.sep.2)
  have HNr1 := Lib.hid hn1
  have HF1 := Lib.hid hf1
  have HV1 := Lib.hid ((HV.out.below HB0.out).fp hf1 (fun b hb => (HP.out b hb).1))
  have x0 : w1.cell? ⟨w.heap.size, 0, none⟩ = some (.pointer (some ⟨g, 0, none⟩)) := by rw [cell_of_row _ _ 0 _ _ _ HC1.out]; rfl
  clear hn1 hf1
  go_wp2_with fail
  refine (nt_seal g bm K p bs _ w1 P HNt1.out HK.out hl HV1.out).mono ?_
  rintro e w2 ⟨rfl, hn2, hf2⟩
  have HN2 := Lib.hid hn2
  have HF2 := Lib.hid hf2
  clear x0 hn2 hf2
  go_wp2_with fail
  go_ret
  refine ⟨rfl, _, ⟨HN2.out, HNr1.out.fp HF2.out (fun b hb he => ?_), ⟨fun hS => ?_, fun hS => ?_⟩, fun b hS => ?_, Or.inl HT.out.sh⟩, fun b hS => ?_, ?_⟩
  · subst he
    rcases hb with hb | hb
    · exact HT.out.sep.2 hb
    · omega
  · rcases hS with hS | hS
    · exact HT.out.sep.1 hS
    · omega
  · rcases hS with hS | hS
    · exact HT.out.sep.2 hS
    · omega
  · have hz2 := HF2.out.size
    rcases hS with hS | hS
    · have := HT.out.lt b hS; omega
    · omega
  · rcases hS with hS | hS
    · exact .inl hS
    · right; omega
  · exact (((Fp.of_below HB0.out _).trans HF1.out fun k hk => .inl (.inl hk))).trans HF2.out fun k hk => .inl (.inr hk)

/-- A party's seal of a message: 0 where it has no bytes. -/
def sealM (K : List Key) (m : Psp.Msg) : Int := if Psp.okB m then sealN K (kM m) else 0
set_option maxRecDepth 100000 in
set_option maxHeartbeats 2000000 in
theorem two_msg (S : Nat → Prop) (g bm h : Nat) (K : List Key) (m : Psp.Msg) (vb vo vc vp : Value) (w : World) (hT : Tw w S g bm h K) (hx : MsgOk w (fun b => b < w.heap.size) ⟨m, vb, vo, vc, vp⟩) (hf : isI64 m.f) (hl : K.length < 1099511627776) :
    Calls Tryz.prog 23 #[.agg #[.pointer (some ⟨g, 0, none⟩), .pointer (some ⟨h, 0, none⟩)], .agg #[.int .i64 m.k, .int .i64 m.f, .int .i64 m.v, .int .i64 m.i, .int .i64 m.q, .int .i64 m.r, vb, vo, vc, vp]] w fun e w' => e = .returned (.int .i64 (sealM K m)) ∧
      ∃ S', Tw w' S' g bm h (sealK K m) ∧ (∀ b, S' b → S b ∨ w.heap.size ≤ b) ∧ Fp (fun b => S b ∨ b = bm) w w' := by
  obtain ⟨Ab, Ao, Ac, Ap, cb, co, cc, cp, rfl, rfl, rfl, rfl⟩ := msg_slices hx
  have HT := Lib.hid hT
  have HX := Lib.hid hx
  have HF := Lib.hid hf
  have hgl := hT.nt.lt
  clear hT hx hf
  have hb0 := (alloc_below w (.cells #[.pointer (some ⟨g, 0, none⟩), .pointer (some ⟨h, 0, none⟩)] 30)).trans ((alloc_below (w.alloc (.cells #[.pointer (some ⟨g, 0, none⟩), .pointer (some ⟨h, 0, none⟩)] 30)) (.cells #[.int .i64 m.k, .int .i64 m.f, .int .i64 m.v, .int .i64 m.i, .int .i64 m.q, .int .i64 m.r, .slice Ab m.b.length cb, .slice Ao m.o.length co, .slice Ac m.c.length cc, .slice Ap m.p.length cp] 41)).mono (by simp))
  have hc0 := box_below (heap_alloc_new w (.cells #[.pointer (some ⟨g, 0, none⟩), .pointer (some ⟨h, 0, none⟩)] 30)) (alloc_below _ (.cells #[.int .i64 m.k, .int .i64 m.f, .int .i64 m.v, .int .i64 m.i, .int .i64 m.q, .int .i64 m.r, .slice Ab m.b.length cb, .slice Ao m.o.length co, .slice Ac m.c.length cc, .slice Ap m.p.length cp] 41)) (Nat.le_refl _)
  have hd0 : ((w.alloc (.cells #[.pointer (some ⟨g, 0, none⟩), .pointer (some ⟨h, 0, none⟩)] 30)).alloc (.cells #[.int .i64 m.k, .int .i64 m.f, .int .i64 m.v, .int .i64 m.i, .int .i64 m.q, .int .i64 m.r, .slice Ab m.b.length cb, .slice Ao m.o.length co, .slice Ac m.c.length cc, .slice Ap m.p.length cp] 41)).heap[w.heap.size + 1]? = some (.cells #[.int .i64 m.k, .int .i64 m.f, .int .i64 m.v, .int .i64 m.i, .int .i64 m.q, .int .i64 m.r, .slice Ab m.b.length cb, .slice Ao m.o.length co, .slice Ac m.c.length cc, .slice Ap m.p.length cp] 41 (0, 0)) := by have h := heap_alloc_new (w.alloc (.cells #[.pointer (some ⟨g, 0, none⟩), .pointer (some ⟨h, 0, none⟩)] 30)) (.cells #[.int .i64 m.k, .int .i64 m.f, .int .i64 m.v, .int .i64 m.i, .int .i64 m.q, .int .i64 m.r, .slice Ab m.b.length cb, .slice Ao m.o.length co, .slice Ac m.c.length cc, .slice Ap m.p.length cp] 41); simpa using h
  have hs0 : ((w.alloc (.cells #[.pointer (some ⟨g, 0, none⟩), .pointer (some ⟨h, 0, none⟩)] 30)).alloc (.cells #[.int .i64 m.k, .int .i64 m.f, .int .i64 m.v, .int .i64 m.i, .int .i64 m.q, .int .i64 m.r, .slice Ab m.b.length cb, .slice Ao m.o.length co, .slice Ac m.c.length cc, .slice Ap m.p.length cp] 41)).heap.size = w.heap.size + 2 := by simp
  go_enter Tryz.func23, Tryz.ntmps23
  go_wp2_with fail
  obtain ⟨W, hW⟩ : ∃ W, (w.alloc (.cells #[.pointer (some ⟨g, 0, none⟩), .pointer (some ⟨h, 0, none⟩)] 30)).alloc (.cells #[.int .i64 m.k, .int .i64 m.f, .int .i64 m.v, .int .i64 m.i, .int .i64 m.q, .int .i64 m.r, .slice Ab m.b.length cb, .slice Ao m.o.length co, .slice Ac m.c.length cc, .slice Ap m.p.length cp] 41) = W := ⟨_, rfl⟩
  rw [hW] at hb0 hc0 hd0 hs0 ⊢
  have HB0 := Lib.hid hb0
  have HC0 := Lib.hid hc0
  have HD0 := Lib.hid hd0
  clear hW hb0 hc0 hd0
  refine (rbody_m m _ _ _ _ W (HX.out.keeps (Keeps.on HB0.out))).mono ?_
  intro e w1 hh
  obtain ⟨A, c, rfl, hp, hb⟩ := Bytes.rdb hh rfl rfl
  have HB1 := Lib.hid (Below.then HB0.out hb HB0.out.size)
  have HC1 := Lib.hid (box_below HC0.out hb (Nat.le_refl _))
  have HD1 := Lib.hid (box_below HD0.out hb (Nat.le_refl _))
  have HT1 := Lib.hid (HT.out.below HB1.out)
  have HP := Lib.hid hp
  have hz1 := hb.size
  clear hh hp hb HB0 HC0 HD0
  cases hok : Psp.okB m with
  | false =>
    have Hk : Hid (sealM K m = 0 ∧ sealK K m = K) := Lib.hid ⟨by unfold sealM; rw [hok]; rfl, by unfold sealK; rw [hok]; rfl⟩
    clear hok HP
    go_wp2_with fail
    go_ret
    exact ⟨by rw [Hk.out.1]; rfl, S, by rw [Hk.out.2]; exact HT1.out, fun b hb => .inl hb, Fp.of_below HB1.out _⟩
  | true =>
    have hkk := kM_ok HF.out hok
    have Hk : Hid (sealM K m = sealN K (kM m) ∧ sealK K m = sealL K (kM m)) := Lib.hid ⟨by unfold sealM; rw [hok]; rfl, by unfold sealK; rw [hok]; rfl⟩
    rw [hok, res_yes] at HP
    have Hkk := Lib.hid hkk
    clear hok hkk
    rw [res_yes]
    have x0 : w1.cell? ⟨w.heap.size, 0, none⟩ = some (.pointer (some ⟨g, 0, none⟩)) := by rw [cell_of_row _ _ 0 _ _ _ HC1.out]; rfl
    have x1 : w1.cell? ⟨w.heap.size, 1, none⟩ = some (.pointer (some ⟨h, 0, none⟩)) := by rw [cell_of_row _ _ 1 _ _ _ HC1.out]; rfl
    have y1 : w1.cell? ⟨w.heap.size + 1, 1, none⟩ = some (.int .i64 m.f) := by rw [cell_of_row _ _ 1 _ _ _ HD1.out]; rfl
    go_wp2_with fail
    refine (two_seal S g bm h K m.f (Psp.encM m) _ w1 _ HT1.out Hkk.out hl HP.out (fun b (hb : W.heap.size ≤ b) => ⟨fun hS => by have := HT.out.lt b hS; omega, by omega⟩)).mono ?_
    rintro e w2 ⟨rfl, S', hT2, hS2, hF2⟩
    have HT2 := Lib.hid hT2
    have HS2 := Lib.hid hS2
    have HF2 := Lib.hid hF2
    clear hT2 hS2 hF2 x0 x1 y1
    go_wp2_with fail
    go_ret
    exact ⟨by rw [Hk.out.1]; rfl, S', by rw [Hk.out.2]; exact HT2.out, fun b hb => (HS2.out b hb).imp id fun h => by omega, (Fp.of_below HB1.out _).trans HF2.out fun k hk => .inl hk⟩

theorem sizeTwo : (Tryz.prog.info? 30).map (·.size) = some 2 := by kernel_rfl
set_option maxRecDepth 100000 in
set_option maxHeartbeats 1000000 in
theorem begin_m (w : World) : Calls Tryz.prog 9 #[] w fun e w' => ∃ g bm h, e = .returned (.tuple #[.agg #[.pointer (some ⟨g, 0, none⟩), .pointer (some ⟨h, 0, none⟩)], .bool true]) ∧ Tw w' (fun b => b = h) g bm h [] ∧ Below w.heap.size w w' ∧ w.heap.size ≤ g ∧ w.heap.size ≤ bm ∧ w.heap.size ≤ h := by
  go_enter Tryz.func9, Tryz.ntmps9
  go_wp2_with fail
  have hbr := alloc_below w (.cells #[.pointer none, .pointer none] 30)
  have hcr := heap_alloc_new w (.cells #[.pointer none, .pointer none] 30)
  obtain ⟨Wr, hWr⟩ : ∃ W, w.alloc (.cells #[.pointer none, .pointer none] 30) = W := ⟨_, rfl⟩
  rw [hWr] at hbr hcr ⊢
  have hsr := (Array.getElem?_eq_some_iff.1 hcr).1
  have HBr := Lib.hid hbr
  have HCr := Lib.hid hcr
  clear hWr hbr hcr
  refine (nt_new _).mono ?_
  rintro e w1 ⟨g, bm, rfl, hN, hb1, hg1, hg2⟩
  have HN := Lib.hid hN
  have HB1 := Lib.hid (Below.then HBr.out hb1 HBr.out.size)
  have HC1 := Lib.hid (box_below HCr.out hb1 (Nat.le_refl _))
  have hz1 := hb1.size
  have hgl := hN.lt
  clear hN hb1 HBr HCr
  go_wp2_with fail
  have hb2 := (alloc_below w1 (.cells #[.slice none 0 0, .slice none 0 0] 84)).trans ((alloc_below (w1.alloc (.cells #[.slice none 0 0, .slice none 0 0] 84)) (.cells #[.pointer (some ⟨g, 0, none⟩), .pointer (some ⟨w1.heap.size, 0, none⟩)] 30)).mono (by simp))
  have hn2 := box_below (heap_alloc_new w1 (.cells #[.slice none 0 0, .slice none 0 0] 84)) (alloc_below _ (.cells #[.pointer (some ⟨g, 0, none⟩), .pointer (some ⟨w1.heap.size, 0, none⟩)] 30)) (Nat.le_refl _)
  have ht2 : ((w1.alloc (.cells #[.slice none 0 0, .slice none 0 0] 84)).alloc (.cells #[.pointer (some ⟨g, 0, none⟩), .pointer (some ⟨w1.heap.size, 0, none⟩)] 30)).heap[w1.heap.size + 1]? = some (.cells #[.pointer (some ⟨g, 0, none⟩), .pointer (some ⟨w1.heap.size, 0, none⟩)] 30 (0, 0)) := by have h := heap_alloc_new (w1.alloc (.cells #[.slice none 0 0, .slice none 0 0] 84)) (.cells #[.pointer (some ⟨g, 0, none⟩), .pointer (some ⟨w1.heap.size, 0, none⟩)] 30); simpa using h
  have hs2 : ((w1.alloc (.cells #[.slice none 0 0, .slice none 0 0] 84)).alloc (.cells #[.pointer (some ⟨g, 0, none⟩), .pointer (some ⟨w1.heap.size, 0, none⟩)] 30)).heap.size = w1.heap.size + 2 := by simp
  obtain ⟨W2, hW2⟩ : ∃ W, (w1.alloc (.cells #[.slice none 0 0, .slice none 0 0] 84)).alloc (.cells #[.pointer (some ⟨g, 0, none⟩), .pointer (some ⟨w1.heap.size, 0, none⟩)] 30) = W := ⟨_, rfl⟩
  rw [hW2] at hb2 hn2 ht2 hs2 ⊢
  clear hW2
  have HB2 := Lib.hid (Below.then HB1.out hb2 HB1.out.size)
  have hc2 := box_below HC1.out hb2 (Nat.le_refl _)
  have HT2 := Lib.hid (show Tw W2 (fun b => b = w1.heap.size) g bm w1.heap.size [] from ⟨HN.out.below hb2, ⟨_, _, hn2, ⟨rfl, Or.inl ⟨rfl, rfl⟩⟩, ⟨rfl, Or.inl ⟨rfl, rfl⟩⟩, rfl, fun b h => (by cases h), fun b h => (by cases h)⟩, ⟨by omega, by omega⟩, fun b hb => by omega, rfl⟩)
  have HC2 := Lib.hid hc2
  have hne : ¬ (w1.heap.size + 1 = w.heap.size) := by have := (Array.getElem?_eq_some_iff.1 HC1.out).1; omega
  have l0 := laterF_cell (w := W2.drew) (T := fun b => b = w.heap.size) (show W2.drew.cell? ⟨w1.heap.size + 1, 0, none⟩ = some (.pointer (some ⟨g, 0, none⟩)) by rw [cell_of_row W2.drew _ 0 _ _ _ ht2]; rfl) hne
  have l1 := laterF_cell (w := W2.drew) (T := fun b => b = w.heap.size) (show W2.drew.cell? ⟨w1.heap.size + 1, 1, none⟩ = some (.pointer (some ⟨w1.heap.size, 0, none⟩)) by rw [cell_of_row W2.drew _ 1 _ _ _ ht2]; rfl) hne
  have y0 : W2.cell? ⟨w.heap.size, 0, none⟩ = some (.pointer none) := by rw [cell_of_row W2 _ 0 _ _ _ hc2]; rfl
  have y1 : W2.cell? ⟨w.heap.size, 1, none⟩ = some (.pointer none) := by rw [cell_of_row W2 _ 1 _ _ _ hc2]; rfl
  have z0 : W2.frozen? ⟨w.heap.size, 0, none⟩ = false := frozen_of_row W2 _ 0 _ _ hc2
  have z1 : W2.frozen? ⟨w.heap.size, 1, none⟩ = false := frozen_of_row W2 _ 1 _ _ hc2
  have HRT : Hid (∀ w' : World, (∃ p : LaterF W2.drew (fun b => b = w.heap.size), w' = p.W) → w'.rangeAt (w1.heap.size + 1) 0 [.pointer (some ⟨g, 0, none⟩), .pointer (some ⟨w1.heap.size, 0, none⟩)]) := Lib.hid (by rintro w' ⟨p, rfl⟩; exact range_of_row ((p.h.block _ (show w1.heap.size + 1 < W2.heap.size by omega) hne).trans ht2))
  clear hb2 hn2 ht2 hc2
  refine wp_region_phasesF (fun b => b = w.heap.size) [(true, 0), (true, 1), (true, 2), (true, 3), (false, 4)] (by kernel_rfl) (by kernel_rfl) ?_
  simp only [phS, List.getElem?_cons_zero, List.getElem?_cons_succ, Option.toList, List.length_cons, List.length_nil, Nat.reduceAdd, List.drop_succ_cons, List.drop_zero]
  repeat (first | go_big_quiet_step (fail) | (refine quiet_load (by simp [Region.wanted, yielded]) 30 (.tmp 2) (by rfl) (w1.heap.size + 1) (0) (by rfl) [.pointer (some ⟨g, 0, none⟩), .pointer (some ⟨w1.heap.size, 0, none⟩)] _ HRT.out Tryz.underlying30 rfl sizeTwo ?_; intro K hK; go_simp; refine hK _ ?_; clear hK K) | quiet_step (fail) | refine wpQuiet_nil ?_)
  clear l0 l1
  go_wp2_with fail
  have hFp : Fp (fun b => b = w.heap.size) W2 (((W2.setCell ⟨w.heap.size, 0, none⟩ (.pointer (some ⟨g, 0, none⟩))).setCell ⟨w.heap.size, 1, none⟩ (.pointer (some ⟨w1.heap.size, 0, none⟩))).drew) := (((Fp.refl (fun b => b = w.heap.size) W2).setCell (p := ⟨w.heap.size, 0, none⟩) (Or.inl (show w.heap.size = w.heap.size from rfl)) _).setCell (p := ⟨w.heap.size, 1, none⟩) (Or.inl (show w.heap.size = w.heap.size from rfl)) _).drew
  have hcr : (((W2.setCell ⟨w.heap.size, 0, none⟩ (.pointer (some ⟨g, 0, none⟩))).setCell ⟨w.heap.size, 1, none⟩ (.pointer (some ⟨w1.heap.size, 0, none⟩))).drew).heap[w.heap.size]? = some (.cells #[.pointer (some ⟨g, 0, none⟩), .pointer (some ⟨w1.heap.size, 0, none⟩)] 30 (0, 0)) := by
    show ((W2.setCell ⟨w.heap.size, 0, none⟩ (.pointer (some ⟨g, 0, none⟩))).setCell ⟨w.heap.size, 1, none⟩ (.pointer (some ⟨w1.heap.size, 0, none⟩))).heap[w.heap.size]? = _
    rw [heap_setCell_same _ _ 1 _ _ _ (heap_setCell_same W2 w.heap.size 0 _ _ _ HC2.out)]; rfl
  have HFp := Lib.hid hFp
  have Hcr := Lib.hid hcr
  refine And.intro ⟨⟨_, ⟨hFp.os, hFp.tape, hFp.output, hFp.size, hFp.block⟩⟩, rfl⟩ ?_
  clear y0 y1 z0 z1 hFp hcr
  go_wp2_with fail
  have hcl := (Array.getElem?_eq_some_iff.1 HC1.out).1
  refine bodyPost_ret (v := .tuple #[.agg #[.pointer (some ⟨g, 0, none⟩), .pointer (some ⟨w1.heap.size, 0, none⟩)], .bool true]) ?_ rfl ?_
  · exact results_cell_row1 Tryz.results9 _ _ w.heap.size _ _ _ _ rfl Hcr.out Tryz.underlying30 rfl sizeTwo
  · exact ⟨g, bm, w1.heap.size, rfl, HT2.out.fp HFp.out (by omega) (by omega) (fun b hb he => by omega), HB2.out.trans (HFp.out.to_below (B := w.heap.size) HB2.out.size fun k hk he => by omega), by omega, by omega, by omega⟩
end Go.Proofs.YtadpkjgjciodnaaGreat
