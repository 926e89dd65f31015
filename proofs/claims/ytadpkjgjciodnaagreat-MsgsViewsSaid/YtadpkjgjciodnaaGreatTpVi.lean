/- Two.Part: a view change with its seals. Printed by gen_tp.py. -/
import Derived.Test.YtadpkjgjciodnaaGreatTcVi
import Derived.Test.YtadpkjgjciodnaaGreatV7Vi
namespace Go.Proofs.YtadpkjgjciodnaaGreat
open Go.RowKit
set_option linter.unusedVariables false
set_option linter.unusedSimpArgs false

/-- A view change with its seals, and what has been sealed. -/
def partS (K : List Key) (f view from_ skip : Int) (lc : List Psp.Cert) : Psp.Part × List Key :=
  (⟨from_, (vts f (Psp.within skip (f + 1)) (fun k => chM k (view - 1)) K (Psp.quorum f).toNat).1, lc, sealM (vts f (Psp.within skip (f + 1)) (fun k => chM k (view - 1)) K (Psp.quorum f).toNat).2 (vcM view ⟨from_, (vts f (Psp.within skip (f + 1)) (fun k => chM k (view - 1)) K (Psp.quorum f).toNat).1, lc, 0⟩)⟩,
    sealK (vts f (Psp.within skip (f + 1)) (fun k => chM k (view - 1)) K (Psp.quorum f).toNat).2 (vcM view ⟨from_, (vts f (Psp.within skip (f + 1)) (fun k => chM k (view - 1)) K (Psp.quorum f).toNat).1, lc, 0⟩))

set_option maxRecDepth 100000 in
set_option maxHeartbeats 8000000 in
theorem two_part (f view from_ skip : Int) (lc : List Psp.Cert) (Ac : Option Addr) (cc : Nat) (S : Nat → Prop) (g bm h : Nat) (K : List Key) (w : World) (P : Nat → Prop) (hT : Tw w S g bm h K) (hf : 1 ≤ f ∧ f ≤ 4) (hv : 1 ≤ view ∧ view ≤ 12) (hfr : isI64 from_) (hs : isI64 skip)
    (hx : RdC w P (.slice Ac lc.length cc) lc) (hP : ∀ b, P b → ¬ S b ∧ b ≠ bm) (hK : K.length < 900000) :
    Calls Tryz.prog 31 #[.agg #[.pointer (some ⟨g, 0, none⟩), .pointer (some ⟨h, 0, none⟩)], .int .i64 f, .int .i64 view, .int .i64 from_, .int .i64 skip, .slice Ac lc.length cc] w fun e w' => ∃ B2 q2 d2 S', e = .returned (.agg #[.int .i64 from_, .slice B2 q2 d2, .slice Ac lc.length cc, .int .i64 (partS K f view from_ skip lc).1.s]) ∧
      q2 = (partS K f view from_ skip lc).1.o.length ∧
      Tw w' S' g bm h (partS K f view from_ skip lc).2 ∧ (∀ b, S' b → S b ∨ w.heap.size ≤ b) ∧ Fp (fun b => S b ∨ b = bm) w w' ∧
      PartOk w' (fun b => b < w'.heap.size ∧ ¬ S' b ∧ b ≠ bm ∧ (w.heap.size ≤ b ∨ P b)) ⟨(partS K f view from_ skip lc).1, .slice B2 q2 d2, .slice Ac lc.length cc⟩ := by
  have HT := Lib.hid hT
  have HX := Lib.hid hx
  have HP := Lib.hid hP
  have hgl := hT.nt.lt
  have HSl := Lib.hid hT.lt
  have hb0 : Below w.heap.size w ((((w.alloc (.cells #[.pointer (some ⟨g, 0, none⟩), .pointer (some ⟨h, 0, none⟩)] 30)).alloc (.cells #[.int .i64 view] 3)).alloc (.cells #[.int .i64 0, .slice none 0 0, .slice none 0 0, .int .i64 0] 62)).alloc (.cells #[.int .i64 from_, .slice none 0 0, .slice Ac lc.length cc, .int .i64 0] 62)) := (((alloc_below w _).trans ((alloc_below (w.alloc (.cells #[.pointer (some ⟨g, 0, none⟩), .pointer (some ⟨h, 0, none⟩)] 30)) _).mono (by simp))).trans ((alloc_below ((w.alloc (.cells #[.pointer (some ⟨g, 0, none⟩), .pointer (some ⟨h, 0, none⟩)] 30)).alloc (.cells #[.int .i64 view] 3)) _).mono (by simp; omega))).trans ((alloc_below (((w.alloc (.cells #[.pointer (some ⟨g, 0, none⟩), .pointer (some ⟨h, 0, none⟩)] 30)).alloc (.cells #[.int .i64 view] 3)).alloc (.cells #[.int .i64 0, .slice none 0 0, .slice none 0 0, .int .i64 0] 62)) _).mono (by simp; omega))
  have ht0 : ((((w.alloc (.cells #[.pointer (some ⟨g, 0, none⟩), .pointer (some ⟨h, 0, none⟩)] 30)).alloc (.cells #[.int .i64 view] 3)).alloc (.cells #[.int .i64 0, .slice none 0 0, .slice none 0 0, .int .i64 0] 62)).alloc (.cells #[.int .i64 from_, .slice none 0 0, .slice Ac lc.length cc, .int .i64 0] 62)).heap[w.heap.size]? = some (.cells #[.pointer (some ⟨g, 0, none⟩), .pointer (some ⟨h, 0, none⟩)] 30 (0, 0)) := by have h := box_below (box_below (box_below (heap_alloc_new (w) (.cells #[.pointer (some ⟨g, 0, none⟩), .pointer (some ⟨h, 0, none⟩)] 30)) (alloc_below (w.alloc (.cells #[.pointer (some ⟨g, 0, none⟩), .pointer (some ⟨h, 0, none⟩)] 30)) (.cells #[.int .i64 view] 3)) (Nat.le_refl _)) (alloc_below ((w.alloc (.cells #[.pointer (some ⟨g, 0, none⟩), .pointer (some ⟨h, 0, none⟩)] 30)).alloc (.cells #[.int .i64 view] 3)) (.cells #[.int .i64 0, .slice none 0 0, .slice none 0 0, .int .i64 0] 62)) (Nat.le_refl _)) (alloc_below (((w.alloc (.cells #[.pointer (some ⟨g, 0, none⟩), .pointer (some ⟨h, 0, none⟩)] 30)).alloc (.cells #[.int .i64 view] 3)).alloc (.cells #[.int .i64 0, .slice none 0 0, .slice none 0 0, .int .i64 0] 62)) (.cells #[.int .i64 from_, .slice none 0 0, .slice Ac lc.length cc, .int .i64 0] 62)) (Nat.le_refl _); simpa using h
  have hk0 : ((((w.alloc (.cells #[.pointer (some ⟨g, 0, none⟩), .pointer (some ⟨h, 0, none⟩)] 30)).alloc (.cells #[.int .i64 view] 3)).alloc (.cells #[.int .i64 0, .slice none 0 0, .slice none 0 0, .int .i64 0] 62)).alloc (.cells #[.int .i64 from_, .slice none 0 0, .slice Ac lc.length cc, .int .i64 0] 62)).heap[w.heap.size + 1]? = some (.cells #[.int .i64 view] 3 (0, 0)) := by have h := box_below (box_below (heap_alloc_new (w.alloc (.cells #[.pointer (some ⟨g, 0, none⟩), .pointer (some ⟨h, 0, none⟩)] 30)) (.cells #[.int .i64 view] 3)) (alloc_below ((w.alloc (.cells #[.pointer (some ⟨g, 0, none⟩), .pointer (some ⟨h, 0, none⟩)] 30)).alloc (.cells #[.int .i64 view] 3)) (.cells #[.int .i64 0, .slice none 0 0, .slice none 0 0, .int .i64 0] 62)) (Nat.le_refl _)) (alloc_below (((w.alloc (.cells #[.pointer (some ⟨g, 0, none⟩), .pointer (some ⟨h, 0, none⟩)] 30)).alloc (.cells #[.int .i64 view] 3)).alloc (.cells #[.int .i64 0, .slice none 0 0, .slice none 0 0, .int .i64 0] 62)) (.cells #[.int .i64 from_, .slice none 0 0, .slice Ac lc.length cc, .int .i64 0] 62)) (Nat.le_refl _); simpa using h
  have hz0 : ((((w.alloc (.cells #[.pointer (some ⟨g, 0, none⟩), .pointer (some ⟨h, 0, none⟩)] 30)).alloc (.cells #[.int .i64 view] 3)).alloc (.cells #[.int .i64 0, .slice none 0 0, .slice none 0 0, .int .i64 0] 62)).alloc (.cells #[.int .i64 from_, .slice none 0 0, .slice Ac lc.length cc, .int .i64 0] 62)).heap[w.heap.size + 2]? = some (.cells #[.int .i64 0, .slice none 0 0, .slice none 0 0, .int .i64 0] 62 (0, 0)) := by have h := box_below (heap_alloc_new ((w.alloc (.cells #[.pointer (some ⟨g, 0, none⟩), .pointer (some ⟨h, 0, none⟩)] 30)).alloc (.cells #[.int .i64 view] 3)) (.cells #[.int .i64 0, .slice none 0 0, .slice none 0 0, .int .i64 0] 62)) (alloc_below (((w.alloc (.cells #[.pointer (some ⟨g, 0, none⟩), .pointer (some ⟨h, 0, none⟩)] 30)).alloc (.cells #[.int .i64 view] 3)).alloc (.cells #[.int .i64 0, .slice none 0 0, .slice none 0 0, .int .i64 0] 62)) (.cells #[.int .i64 from_, .slice none 0 0, .slice Ac lc.length cc, .int .i64 0] 62)) (Nat.le_refl _); simpa using h
  have hp0 : ((((w.alloc (.cells #[.pointer (some ⟨g, 0, none⟩), .pointer (some ⟨h, 0, none⟩)] 30)).alloc (.cells #[.int .i64 view] 3)).alloc (.cells #[.int .i64 0, .slice none 0 0, .slice none 0 0, .int .i64 0] 62)).alloc (.cells #[.int .i64 from_, .slice none 0 0, .slice Ac lc.length cc, .int .i64 0] 62)).heap[w.heap.size + 3]? = some (.cells #[.int .i64 from_, .slice none 0 0, .slice Ac lc.length cc, .int .i64 0] 62 (0, 0)) := by have h := heap_alloc_new (((w.alloc (.cells #[.pointer (some ⟨g, 0, none⟩), .pointer (some ⟨h, 0, none⟩)] 30)).alloc (.cells #[.int .i64 view] 3)).alloc (.cells #[.int .i64 0, .slice none 0 0, .slice none 0 0, .int .i64 0] 62)) (.cells #[.int .i64 from_, .slice none 0 0, .slice Ac lc.length cc, .int .i64 0] 62); simpa using h
  have hs0 : ((((w.alloc (.cells #[.pointer (some ⟨g, 0, none⟩), .pointer (some ⟨h, 0, none⟩)] 30)).alloc (.cells #[.int .i64 view] 3)).alloc (.cells #[.int .i64 0, .slice none 0 0, .slice none 0 0, .int .i64 0] 62)).alloc (.cells #[.int .i64 from_, .slice none 0 0, .slice Ac lc.length cc, .int .i64 0] 62)).heap.size = w.heap.size + 4 := by simp
  clear hT hx hP
  go_enter Tryz.func31, Tryz.ntmps31
  go_wp2_with fail
  obtain ⟨W, hW⟩ : ∃ W, (((w.alloc (.cells #[.pointer (some ⟨g, 0, none⟩), .pointer (some ⟨h, 0, none⟩)] 30)).alloc (.cells #[.int .i64 view] 3)).alloc (.cells #[.int .i64 0, .slice none 0 0, .slice none 0 0, .int .i64 0] 62)).alloc (.cells #[.int .i64 from_, .slice none 0 0, .slice Ac lc.length cc, .int .i64 0] 62) = W := ⟨_, rfl⟩
  rw [hW] at hb0 ht0 hk0 hz0 hp0 hs0 ⊢
  have HB0 := Lib.hid hb0
  have Ht0 := Lib.hid ht0
  have Hk0 := Lib.hid hk0
  have Hz0 := Lib.hid hz0
  have Hp0 := Lib.hid hp0
  have hsW : w.heap.size + 4 ≤ W.heap.size := by omega
  clear hW hb0 ht0 hk0 hz0 hp0 hs0
  have hn0 : ∀ j, w.heap.size ≤ j → j < W.heap.size → ¬ (S j ∨ j = bm) := fun j hj _ => by rintro (hh | hh); (have := HSl.out _ hh; omega); omega
  have Hn0 := Lib.hid hn0
  have HT0 := Lib.hid (HT.out.below HB0.out)
  have hclo : ∀ (k : Int) (W' : World), 0 ≤ k → k ≤ 100 → Fp (fun b => S b ∨ b = bm) W W' → Calls Tryz.prog 65 #[.int .i64 k, .pointer (some ⟨w.heap.size + 1, 0, none⟩)] W' fun e w' => ∃ vb vo vc vp, e = .returned (.agg #[.int .i64 ((fun k => chM k (view - 1)) k).k, .int .i64 ((fun k => chM k (view - 1)) k).f, .int .i64 ((fun k => chM k (view - 1)) k).v, .int .i64 ((fun k => chM k (view - 1)) k).i, .int .i64 ((fun k => chM k (view - 1)) k).q, .int .i64 ((fun k => chM k (view - 1)) k).r, vb, vo, vc, vp]) ∧ MsgOk w' (fun b => b < w'.heap.size) ⟨(fun k => chM k (view - 1)) k, vb, vo, vc, vp⟩ ∧ Below W'.heap.size W' w' := by
    intro k W' _ _ hf'
    have hzf := hf'.size
    have hk' : W'.cell? ⟨w.heap.size + 1, 0, none⟩ = some (.int .i64 view) := by
      rw [cell_of_row _ _ 0 _ _ _ ((hf'.block (w.heap.size + 1) (by omega) (Hn0.out _ (by omega) (by omega))).trans Hk0.out)]; rfl
    refine (clo_pt k view (w.heap.size + 1) W' (by omega) hk').mono ?_
    rintro e w' ⟨rfl, hb'⟩
    exact ⟨_, _, _, _, rfl, ⟨RdP.none_, RdP.none_, RdC.nil, RdA.nil⟩, hb'⟩
  have HCl := Lib.hid hclo
  clear hn0 hclo
  refine (votes_pt f skip S g bm h K W hf hs HT0.out (by omega) (fun k => chM k (view - 1)) _ (fun k => rfl) HCl.out).mono ?_
  rintro e w3 ⟨B2, d2, S3, rfl, hVi⟩
  obtain ⟨VK, hVK⟩ : ∃ VK, vts f (Psp.within skip (f + 1)) (fun k => chM k (view - 1)) K (Psp.quorum f).toNat = VK := ⟨_, rfl⟩
  have hvl := vts_len f (Psp.within skip (f + 1)) (fun k => chM k (view - 1)) K (Psp.quorum f).toNat
  have hkl := vts_keys f (Psp.within skip (f + 1)) (fun k => chM k (view - 1)) K (Psp.quorum f).toNat
  have hqb : (Psp.quorum f).toNat ≤ 9 := by unfold Psp.quorum; rw [if_pos hf]; omega
  rw [hVK] at hVi hvl hkl
  obtain ⟨q, hq⟩ : ∃ q, (Psp.quorum f).toNat = q := ⟨_, rfl⟩
  rw [hq] at hVi hvl hkl hqb ⊢
  have HVK := Lib.hid hVK
  have Hq := Lib.hid hq
  have Hvl := Lib.hid hvl
  have HVi := Lib.hid hVi
  have hvk : VK.2.length < 1000000 := by omega
  have hf3 := hVi.fp
  have hz3 := hf3.size
  have Ht3 := Lib.hid ((hf3.block w.heap.size (by omega) (Hn0.out _ (by omega) (by omega))).trans Ht0.out)
  have Hk3 := Lib.hid ((hf3.block (w.heap.size + 1) (by omega) (Hn0.out _ (by omega) (by omega))).trans Hk0.out)
  have Hz3 := Lib.hid ((hf3.block (w.heap.size + 2) (by omega) (Hn0.out _ (by omega) (by omega))).trans Hz0.out)
  have Hp3 := Lib.hid ((hf3.block (w.heap.size + 3) (by omega) (Hn0.out _ (by omega) (by omega))).trans Hp0.out)
  have hS3 : ∀ b, S3 b → ∀ j, w.heap.size ≤ j → j < W.heap.size → b ≠ j := fun b hb j hj hjW he => by
    subst he
    rcases hVi.new b hb with h1 | h1
    · exact Hn0.out _ hj hjW (.inl h1)
    · omega
  have HS3 := Lib.hid hS3
  clear hVK hq hvl hkl hVi hf3 hS3 HT0 HCl Ht0 Hk0 Hz0 Hp0
  have x1 : w3.cell? ⟨w.heap.size + 3, 1, none⟩ = some (.slice none 0 0) := by rw [cell_of_row _ _ 1 _ _ _ Hp3.out]; rfl
  have z1 : w3.frozen? ⟨w.heap.size + 3, 1, none⟩ = false := frozen_of_row _ _ 1 _ _ Hp3.out
  go_upto_region 3 with fail
  have hp4 : (w3.setCell ⟨w.heap.size + 3, 1, none⟩ (.slice B2 q d2)).heap[w.heap.size + 3]? = some (.cells #[.int .i64 from_, .slice B2 q d2, .slice Ac lc.length cc, .int .i64 0] 62 (0, 0)) := by rw [heap_setCell_same w3 (w.heap.size + 3) 1 _ _ _ Hp3.out]; rfl
  have hf4 : Fp (fun b => b = w.heap.size + 3) w3 (w3.setCell ⟨w.heap.size + 3, 1, none⟩ (.slice B2 q d2)) := (Fp.refl (fun b => b = w.heap.size + 3) w3).setCell (p := ⟨w.heap.size + 3, 1, none⟩) (Or.inl (show w.heap.size + 3 = w.heap.size + 3 from rfl)) _
  obtain ⟨W4, hW4⟩ : ∃ W4, w3.setCell ⟨w.heap.size + 3, 1, none⟩ (.slice B2 q d2) = W4 := ⟨_, rfl⟩
  rw [hW4] at hp4 hf4 ⊢
  have hz4 := hf4.size
  have Hp4 := Lib.hid hp4
  have HF4 := Lib.hid hf4
  have Ht4 := Lib.hid ((hf4.block w.heap.size (by omega) (by omega)).trans Ht3.out)
  have Hk4 := Lib.hid ((hf4.block (w.heap.size + 1) (by omega) (by omega)).trans Hk3.out)
  have Hz4 := Lib.hid ((hf4.block (w.heap.size + 2) (by omega) (by omega)).trans Hz3.out)
  have HT4 := Lib.hid (HVi.out.tw.fp hf4 (by omega) (by omega) (fun b hb he => HS3.out b hb _ (by omega) (by omega) he))
  have HO4 := Lib.hid (own_keep HVi.out.own (w' := W4) fun b hb => hf4.block b (HVi.out.own.lt b hb).2 (by have := (HVi.out.own.lt b hb).1; omega))
  have hFw : Fp (fun b => S b ∨ b = bm) w W4 := ((Fp.of_below HB0.out _).trans HVi.out.fp fun k hk => .inl hk).trans hf4 fun k hk => .inr (by omega)
  have HFw := Lib.hid hFw
  have HKp : Hid (Keeps P (fun b => b < W4.heap.size ∧ ¬ S3 b ∧ b ≠ bm ∧ b ≠ w.heap.size + 2 ∧ b ≠ w.heap.size + 3 ∧ (w.heap.size ≤ b ∨ P b)) w W4) := Lib.hid ⟨hFw.size, fun b hb hlt => ⟨hFw.block b hlt (by rintro (hh | hh); exact (HP.out b hb).1 hh; exact (HP.out b hb).2 hh), by have := hFw.size; omega, fun hh => by
    rcases HVi.out.new b hh with h1 | h1
    · exact (HP.out b hb).1 h1
    · omega, (HP.out b hb).2, by omega, by omega, .inr hb⟩⟩
  have HRv : Hid (RdP W4 (fun b => b < W4.heap.size ∧ ¬ S3 b ∧ b ≠ bm ∧ b ≠ w.heap.size + 2 ∧ b ≠ w.heap.size + 3 ∧ (w.heap.size ≤ b ∨ P b)) 2 (.slice B2 q d2) VK.1.length (VK.1.flatMap vt)) := Lib.hid (by
    have h1 := RdP.of_own HO4.out
    rw [Hvl.out] at h1 ⊢
    exact h1.mono fun b hb hPb => ⟨hb, (HVi.out.sep b hPb.1).1, (HVi.out.sep b hPb.1).2.2, by omega, by omega, .inl (by have := hPb.2; omega)⟩)
  have HM4 : Hid (MsgOk W4 (fun b => b < W4.heap.size) ⟨(vcM view ⟨from_, VK.1, lc, 0⟩), .slice none 0 0, .slice B2 q d2, .slice Ac lc.length cc, .slice none 0 0⟩) := Lib.hid ⟨RdP.none_, HRv.out.mono fun b hb _ => hb, (HX.out.keeps HKp.out).keeps (Keeps.mono fun b hb _ => hb), RdA.nil⟩
  clear x1 z1 hW4 hp4 hf4 hFw Ht3 Hk3 Hz3 Hp3
  have t0 : W4.cell? ⟨w.heap.size, 0, none⟩ = some (.pointer (some ⟨g, 0, none⟩)) := by rw [cell_of_row _ _ 0 _ _ _ Ht4.out]; rfl
  have t1 : W4.cell? ⟨w.heap.size, 1, none⟩ = some (.pointer (some ⟨h, 0, none⟩)) := by rw [cell_of_row _ _ 1 _ _ _ Ht4.out]; rfl
  have k0 : W4.cell? ⟨w.heap.size + 1, 0, none⟩ = some (.int .i64 view) := by rw [cell_of_row _ _ 0 _ _ _ Hk4.out]; rfl
  have x1 : W4.cell? ⟨w.heap.size + 3, 1, none⟩ = some (.slice B2 q d2) := by rw [cell_of_row _ _ 1 _ _ _ Hp4.out]; rfl
  have x2 : W4.cell? ⟨w.heap.size + 3, 2, none⟩ = some (.slice Ac lc.length cc) := by rw [cell_of_row _ _ 2 _ _ _ Hp4.out]; rfl
  go_wp2_with fail
  refine (two_msg S3 g bm h VK.2 (vcM view ⟨from_, VK.1, lc, 0⟩) _ _ _ _ W4 HT4.out HM4.out hfr (by omega)).mono ?_
  rintro e w5 ⟨rfl, S5, hT5, hS5, hF5⟩
  obtain ⟨sv, hsv⟩ : ∃ sv, sealM VK.2 (vcM view ⟨from_, VK.1, lc, 0⟩) = sv := ⟨_, rfl⟩
  rw [hsv]
  have Hsv := Lib.hid hsv
  have hz5 := hF5.size
  have hn5 : ∀ j, w.heap.size ≤ j → j < W.heap.size → ¬ (S3 j ∨ j = bm) := fun j hj hjW => by rintro (hh | hh); exact HS3.out j hh j hj hjW rfl; omega
  have Hp5 := Lib.hid ((hF5.block (w.heap.size + 3) (by omega) (hn5 _ (by omega) (by omega))).trans Hp4.out)
  have Hz5 := Lib.hid ((hF5.block (w.heap.size + 2) (by omega) (hn5 _ (by omega) (by omega))).trans Hz4.out)
  have HS5 : Hid (∀ b, S5 b → b ≠ w.heap.size + 2 ∧ b ≠ w.heap.size + 3) := Lib.hid fun b hb => by
    rcases hS5 b hb with h1 | h1
    · exact ⟨HS3.out b h1 _ (by omega) (by omega), HS3.out b h1 _ (by omega) (by omega)⟩
    · omega
  have HT5 := Lib.hid hT5
  have HS5' := Lib.hid hS5
  have HF5 := Lib.hid hF5
  clear hsv hT5 hS5 hF5 hn5 t0 t1 k0 x1 x2 Ht4 Hk4 Hz4 Hp4 HT4 HM4
  have x3 : w5.cell? ⟨w.heap.size + 3, 3, none⟩ = some (.int .i64 0) := by rw [cell_of_row _ _ 3 _ _ _ Hp5.out]; rfl
  have z3 : w5.frozen? ⟨w.heap.size + 3, 3, none⟩ = false := frozen_of_row _ _ 3 _ _ Hp5.out
  go_upto_region 4 with fail
  have hp6 : (w5.setCell ⟨w.heap.size + 3, 3, none⟩ (.int .i64 sv)).heap[w.heap.size + 3]? = some (.cells #[.int .i64 from_, .slice B2 q d2, .slice Ac lc.length cc, .int .i64 sv] 62 (0, 0)) := by rw [heap_setCell_same w5 (w.heap.size + 3) 3 _ _ _ Hp5.out]; rfl
  have hf6 : Fp (fun b => b = w.heap.size + 3) w5 (w5.setCell ⟨w.heap.size + 3, 3, none⟩ (.int .i64 sv)) := (Fp.refl (fun b => b = w.heap.size + 3) w5).setCell (p := ⟨w.heap.size + 3, 3, none⟩) (Or.inl (show w.heap.size + 3 = w.heap.size + 3 from rfl)) _
  obtain ⟨W6, hW6⟩ : ∃ W6, w5.setCell ⟨w.heap.size + 3, 3, none⟩ (.int .i64 sv) = W6 := ⟨_, rfl⟩
  rw [hW6] at hp6 hf6 ⊢
  have hz6 := hf6.size
  have Hp6 := Lib.hid hp6
  have hd6 := (hf6.block (w.heap.size + 2) (by omega) (by omega)).trans Hz5.out
  have Hth := Lib.hid (row_there hd6)
  obtain ⟨s1, s2⟩ := row_store hd6 [.int .i64 from_, .slice B2 q d2, .slice Ac lc.length cc, .int .i64 sv] rfl
  have T1 := Lib.hid s1
  have HF7 : Hid (Fp (fun b => b = w.heap.size + 2 ∨ b = w.heap.size + 3) w5 (W6.setCells (w.heap.size + 2) 0 [.int .i64 from_, .slice B2 q d2, .slice Ac lc.length cc, .int .i64 sv])) := Lib.hid ((hf6.mono fun k _ hk => .inr hk).setCells (Or.inl (Or.inl rfl)) _)
  clear x3 z3 hW6 hp6 hf6 hd6 s1 s2
  have x0 : W6.cell? ⟨w.heap.size + 3, 0, none⟩ = some (.int .i64 from_) := by rw [cell_of_row _ _ 0 _ _ _ Hp6.out]; rfl
  have x1 : W6.cell? ⟨w.heap.size + 3, 1, none⟩ = some (.slice B2 q d2) := by rw [cell_of_row _ _ 1 _ _ _ Hp6.out]; rfl
  have x2 : W6.cell? ⟨w.heap.size + 3, 2, none⟩ = some (.slice Ac lc.length cc) := by rw [cell_of_row _ _ 2 _ _ _ Hp6.out]; rfl
  have x3 : W6.cell? ⟨w.heap.size + 3, 3, none⟩ = some (.int .i64 sv) := by rw [cell_of_row _ _ 3 _ _ _ Hp6.out]; rfl
  go_wp2_with (first | (refine wpList_store_mid rfl 62 (.tmp 12) (.tmp 33) rfl (w.heap.size + 2) 0 #[.int .i64 from_, .slice B2 q d2, .slice Ac lc.length cc, .int .i64 sv] rfl rfl Hth.out sizeP (by simp [Value.oneCell']) ?_))
  refine bodyPost_ret (v := .agg #[.int .i64 from_, .slice B2 q d2, .slice Ac lc.length cc, .int .i64 sv]) ?_ rfl ?_
  · exact results_cell_row Tryz.results31 _ _ (w.heap.size + 2) _ _ _ _ rfl T1.out Tryz.underlying62 rfl sizeP
  · have hps : partS K f view from_ skip lc = (⟨from_, VK.1, lc, sv⟩, sealK VK.2 (vcM view ⟨from_, VK.1, lc, 0⟩)) := by unfold partS; rw [HVK.out, Hsv.out]
    rw [hps]
    obtain ⟨W7, hW7⟩ : ∃ W7, W6.setCells (w.heap.size + 2) 0 [.int .i64 from_, .slice B2 q d2, .slice Ac lc.length cc, .int .i64 sv] = W7 := ⟨_, rfl⟩
    have HF7' := HF7.out
    rw [hW7] at HF7' ⊢
    have hz7 := HF7'.size
    have hk : Keeps (fun b => b < W4.heap.size ∧ ¬ S3 b ∧ b ≠ bm ∧ b ≠ w.heap.size + 2 ∧ b ≠ w.heap.size + 3 ∧ (w.heap.size ≤ b ∨ P b)) (fun b => b < W7.heap.size ∧ ¬ S5 b ∧ b ≠ bm ∧ (w.heap.size ≤ b ∨ P b)) W4 W7 := ⟨by have := HF5.out.size; omega, fun b hb hlt => ⟨(HF7'.block b (by have := HF5.out.size; omega) (by omega)).trans (HF5.out.block b hlt (by rintro (hh | hh); exact hb.2.1 hh; exact hb.2.2.1 hh)), by have := HF5.out.size; omega, fun hh => by
      rcases HS5'.out b hh with h1 | h1
      · exact hb.2.1 h1
      · omega, hb.2.2.1, hb.2.2.2.2.2⟩⟩
    refine ⟨B2, q, d2, S5, rfl, Hvl.out.symm, HT5.out.fp HF7' (by omega) (by omega) (fun b hb he => by have := HS5.out b hb; omega), fun b hb => ?_, ?_, ?_⟩
    · rcases HS5'.out b hb with h1 | h1
      · rcases HVi.out.new b h1 with h2 | h2
        · exact .inl h2
        · right; omega
      · right; have := HFw.out.size; omega
    · exact (HFw.out.trans HF5.out fun k hk => by
        rcases hk with hk | hk
        · rcases HVi.out.new k hk with h1 | h1
          · exact .inl (.inl h1)
          · right; omega
        · exact .inl (.inr hk)).trans HF7' fun k hk => .inr (by omega)
    · exact ⟨HRv.out.keeps hk, (HX.out.keeps HKp.out).keeps hk⟩
end Go.Proofs.YtadpkjgjciodnaaGreat
