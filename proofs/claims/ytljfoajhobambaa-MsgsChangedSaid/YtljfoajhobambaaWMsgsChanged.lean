/- The walk of MsgsChanged. Printed by gen_wchanged.py. -/
import Derived.Test.YtljfoajhobambaaVset
import Derived.Test.YtljfoajhobambaaWk6
namespace Go.Proofs.Ytljfoajhobambaa.msgsChanged
open Go.RowKit
set_option linter.unusedVariables false
set_option linter.unusedSimpArgs false

set_option maxRecDepth 100000 in
set_option maxHeartbeats 8000000 in
theorem walk (f0 v0 skip at0 turn : Int) (w : World) (hf0 : isI64 f0) (hv0 : isI64 v0) (hsk : isI64 skip) (hat : isI64 at0) (htu : isI64 turn) :
    Calls Try.prog 10 #[.int .i64 f0, .int .i64 v0, .int .i64 skip, .int .i64 at0, .int .i64 turn] w fun e w' => e = .returned (.bool true) ∧ Below w.heap.size w w' := by
  obtain ⟨x, hx⟩ : ∃ x, Psp.within f0 4 = x := ⟨_, rfl⟩
  obtain ⟨view, hvw⟩ : ∃ x, Psp.within v0 12 = x := ⟨_, rfl⟩
  have x0 : 0 ≤ x := by rw [← hx]; exact Psp.within_lo _ _
  have x1 : x < 4 := by rw [← hx]; exact Psp.within_hi _ _ (by omega)
  have y0 : 0 ≤ view := by rw [← hvw]; exact Psp.within_lo _ _
  have y1 : view < 12 := by rw [← hvw]; exact Psp.within_hi _ _ (by omega)
  have HWf : Hid (∀ W : World, Calls Try.prog 17 #[.int .i64 f0, .int .i64 4] W fun e w' => e = .returned (.int .i64 x) ∧ W = w') := Lib.hid fun W => by rw [← hx]; exact within_any f0 4 W hf0.1 hf0.2 (by omega) (by omega)
  have HWv : Hid (∀ W : World, Calls Try.prog 17 #[.int .i64 v0, .int .i64 12] W fun e w' => e = .returned (.int .i64 view) ∧ W = w') := Lib.hid fun W => by rw [← hvw]; exact within_any v0 12 W hv0.1 hv0.2 (by omega) (by omega)
  clear hx hvw
  have hb0 := alloc_below w (.cells #[.int .i64 v0] 3)
  have hc0 := heap_alloc_new w (.cells #[.int .i64 v0] 3)
  go_enter Try.func10, Try.ntmps10
  go_wp2_with fail
  obtain ⟨W, hW⟩ : ∃ W, w.alloc (.cells #[.int .i64 v0] 3) = W := ⟨_, rfl⟩
  rw [hW] at hb0 hc0 ⊢
  clear hW
  have HB0 := Lib.hid hb0
  have HC0 := Lib.hid hc0
  have l0 := later_cell (w := W.drew) (show W.drew.cell? ⟨w.heap.size, 0, none⟩ = some (.int .i64 v0) by rw [cell_of_row W.drew _ 0 _ _ _ hc0]; rfl)
  have c0 : W.cell? ⟨w.heap.size, 0, none⟩ = some (.int .i64 v0) := by rw [cell_of_row W _ 0 _ _ _ hc0]; rfl
  have z0 : W.frozen? ⟨w.heap.size, 0, none⟩ = false := frozen_of_row W _ 0 _ _ hc0
  clear hb0 hc0
  refine wp_region_phases [(true, 0), (true, 3), (false, 1), (true, 2), (false, 4)] (by kernel_rfl) (by kernel_rfl) ?_
  simp only [phW, List.getElem?_cons_zero, List.getElem?_cons_succ, Option.toList, List.length_cons, List.length_nil, Nat.reduceAdd, List.drop_succ_cons, List.drop_zero]
  repeat (first | go_big_quiet_step (fail) | quiet_step (fail) | refine wpQuiet_nil ?_)
  go_wp2_with fail
  refine (HWf.out _).mono ?_
  rintro e w1 ⟨rfl, rfl⟩
  go_wp2_with fail
  refine And.intro ⟨⟨W.drew, Below.refl _ _⟩, rfl⟩ ?_
  repeat (first | go_big_quiet_step (fail) | quiet_step (fail) | refine wpQuiet_nil ?_)
  clear l0
  go_wp2_with fail
  refine (HWv.out _).mono ?_
  rintro e w1 ⟨rfl, rfl⟩
  go_wp2_with fail
  refine And.intro ⟨⟨W.drew, Below.refl _ _⟩, rfl⟩ ?_
  go_upto_region 2 with fail
  have hcN : ((W.setCell ⟨w.heap.size, 0, none⟩ (.int .i64 view)).drew).heap[w.heap.size]? = some (.cells #[.int .i64 view] 3 (0, 0)) := by
    show (W.setCell ⟨w.heap.size, 0, none⟩ (.int .i64 view)).heap[w.heap.size]? = _
    rw [heap_setCell_same W w.heap.size 0 _ _ _ HC0.out]; rfl
  have hbN : Below w.heap.size w ((W.setCell ⟨w.heap.size, 0, none⟩ (.int .i64 view)).drew) := (HB0.out.trans (((Fp.refl (fun b => b = w.heap.size) W).setCell (p := ⟨w.heap.size, 0, none⟩) (Or.inl (show w.heap.size = w.heap.size from rfl)) (.int .i64 view)).to_below (B := w.heap.size) HB0.out.size fun k hk he => by omega)).drew
  clear c0 z0
  obtain ⟨W1, hW1⟩ : ∃ W1, (W.setCell ⟨w.heap.size, 0, none⟩ (.int .i64 view)).drew = W1 := ⟨_, rfl⟩
  rw [hW1] at hcN hbN ⊢
  clear hW1
  have HN1 := Lib.hid hcN
  have HB1 := Lib.hid hbN
  have hNl := (Array.getElem?_eq_some_iff.1 hcN).1
  clear hcN hbN HB0 HC0
  obtain ⟨f, hfx⟩ : ∃ f, 1 + x = f := ⟨_, rfl⟩
  rw [hfx]
  have hf : 1 ≤ f ∧ f ≤ 4 := ⟨by omega, by omega⟩
  clear hfx x0 x1 HWf HWv
  go_wp2_with fail
  refine (begin_m W1).mono ?_
  rintro e w2 ⟨g, bm, h, rfl, hT2, hb2, hg1, hg2, hg3⟩
  have HT2 := Lib.hid hT2
  have HB2 := Lib.hid (Below.then HB1.out hb2 HB1.out.size)
  have HN2 := Lib.hid (box_below HN1.out hb2 (Nat.le_refl _))
  have hz2 := hb2.size
  have hgl := hT2.nt.lt
  have hhl := hT2.lt h rfl
  clear hT2 hb2 HB1 HN1
  have hb3 := alloc_below w2 (.cells #[.pointer (some ⟨g, 0, none⟩), .pointer (some ⟨h, 0, none⟩)] 59)
  have hc3 := heap_alloc_new w2 (.cells #[.pointer (some ⟨g, 0, none⟩), .pointer (some ⟨h, 0, none⟩)] 59)
  go_wp2_with fail
  obtain ⟨W3, hW3⟩ : ∃ W, w2.alloc (.cells #[.pointer (some ⟨g, 0, none⟩), .pointer (some ⟨h, 0, none⟩)] 59) = W := ⟨_, rfl⟩
  rw [hW3] at hb3 hc3 ⊢
  clear hW3
  have HT3 := Lib.hid (HT2.out.below hb3)
  have HB3 := Lib.hid (Below.then HB2.out hb3 HB2.out.size)
  have HN3 := Lib.hid (box_below HN2.out hb3 (Nat.le_refl _))
  have HD3 := Lib.hid hc3
  have hMl := (Array.getElem?_eq_some_iff.1 hc3).1
  clear hb3 hc3 HT2 HB2 HN2
  have hcv : W3.cell? ⟨w.heap.size, 0, none⟩ = some (.int .i64 view) := by rw [cell_of_row W3 _ 0 _ _ _ HN3.out]; rfl
  refine (votes_ch f skip view (fun b => b = h) g bm h w.heap.size [] W3 hf hsk HT3.out (by simp) hcv ⟨by omega, by omega⟩).mono ?_
  rintro e w4 ⟨A, c, S', rfl, hVi⟩
  have e2 : Psp.quorum f = 2 * f + 1 := by unfold Psp.quorum; rw [if_pos hf]
  obtain ⟨q, hq⟩ : ∃ q, (Psp.quorum f).toNat = q := ⟨_, rfl⟩
  have hqf : (q : Int) = 2 * f + 1 := by omega
  obtain ⟨s, hs⟩ : ∃ s, Psp.within skip (f + 1) = s := ⟨_, rfl⟩
  rw [hq, hs, vts_is hf ⟨y0, by omega⟩ q (by omega)] at hVi
  rw [hq]
  have Hqf := Lib.hid hqf
  have q1 : 1 ≤ q := by omega
  have q9 : q ≤ 9 := by omega
  have HVi := Lib.hid hVi
  have hfp := hVi.fp
  have hz4 := hfp.size
  have HN4 := Lib.hid ((hfp.block w.heap.size (by omega) (by rintro (hh | hh) <;> omega)).trans HN3.out)
  have HD4 := Lib.hid ((hfp.block w2.heap.size (by omega) (by rintro (hh | hh) <;> omega)).trans HD3.out)
  have HB4 := Lib.hid (HB3.out.trans (hfp.to_below (B := w.heap.size) HB3.out.size fun k hk hh => by rcases hh with hh | hh <;> omega))
  have HNt4 := Lib.hid hVi.tw.nt
  have hwv : ∀ t ∈ chL f s q, wfVote t := fun t ht => by
    unfold chL at ht
    obtain ⟨j, hj, rfl⟩ := List.mem_map.1 ht
    have hjq := List.mem_range.1 hj
    have hb := kI_bd (s := s) hf (i := j) (by omega)
    exact ⟨⟨by show _ ≤ kI f s j; omega, by show kI f s j ≤ _; omega⟩, ⟨by show _ ≤ (j : Int) + 1; omega, by show (j : Int) + 1 ≤ _; omega⟩⟩
  have HWv := Lib.hid hwv
  have hrd : RdP w4 (fun b => b < w4.heap.size) 2 (.slice A q c) (chL f s q).length ((chL f s q).flatMap vt) := by rw [chL_len]; have h := RdP.of_own hVi.own; rw [chL_len] at h; exact h.mono fun b hb _ => hb
  have HRd := Lib.hid hrd
  clear hVi hfp hwv hrd hqf hq hs e2 hcv HN3 HD3 HB3
  have c1 : w4.cell? ⟨w.heap.size, 0, none⟩ = some (.int .i64 view) := by rw [cell_of_row w4 _ 0 _ _ _ HN4.out]; rfl
  have d1 : w4.cell? ⟨w2.heap.size, 0, none⟩ = some (.pointer (some ⟨g, 0, none⟩)) := by rw [cell_of_row w4 _ 0 _ _ _ HD4.out]; rfl
  go_wp2_with fail
  clear c1 d1
  refine (changed_m view _ (chL f s q) f g bm _ w4 _ HRd.out HWv.out HNt4.out).mono ?_
  rintro e w5 ⟨rfl, hb5⟩
  rw [ch_yes hf ⟨y0, by omega⟩ Hqf.out]
  have HB5 := Lib.hid (Below.then HB4.out hb5 HB4.out.size)
  have HN5 := Lib.hid (box_below HN4.out hb5 (Nat.le_refl _))
  have HD5 := Lib.hid (box_below HD4.out hb5 (Nat.le_refl _))
  have HNt5 := Lib.hid (HNt4.out.below hb5)
  have HRd5 := Lib.hid (HRd.out.keeps (Keeps.on hb5))
  have HO5 := Lib.hid (own_below HVi.out.own hb5)
  have hz5 := hb5.size
  clear hb5 HN4 HD4 HNt4 HRd HB4
  have c1 : w5.cell? ⟨w.heap.size, 0, none⟩ = some (.int .i64 view) := by rw [cell_of_row w5 _ 0 _ _ _ HN5.out]; rfl
  have d1 : w5.cell? ⟨w2.heap.size, 0, none⟩ = some (.pointer (some ⟨g, 0, none⟩)) := by rw [cell_of_row w5 _ 0 _ _ _ HD5.out]; rfl
  go_wp2_with fail
  clear c1 d1
  refine (changed_m (view + 1) _ (chL f s q) f g bm _ w5 _ HRd5.out HWv.out HNt5.out).mono ?_
  rintro e w6 ⟨rfl, hb6⟩
  rw [ch_other hf ⟨y0, by omega⟩ (by omega) Hqf.out]
  have HB6 := Lib.hid (Below.then HB5.out hb6 HB5.out.size)
  have HN6 := Lib.hid (box_below HN5.out hb6 (Nat.le_refl _))
  have HD6 := Lib.hid (box_below HD5.out hb6 (Nat.le_refl _))
  have HNt6 := Lib.hid (HNt5.out.below hb6)
  have HRd6 := Lib.hid (HRd5.out.keeps (Keeps.on hb6))
  have HO6 := Lib.hid (own_below HO5.out hb6)
  have hz6 := hb6.size
  clear hb6 HN5 HD5 HNt5 HRd5 HB5 HO5
  have c1 : w6.cell? ⟨w.heap.size, 0, none⟩ = some (.int .i64 view) := by rw [cell_of_row w6 _ 0 _ _ _ HN6.out]; rfl
  have d1 : w6.cell? ⟨w2.heap.size, 0, none⟩ = some (.pointer (some ⟨g, 0, none⟩)) := by rw [cell_of_row w6 _ 0 _ _ _ HD6.out]; rfl
  go_wp2_with fail
  clear c1 d1
  refine (changed_m (view - 1) _ (chL f s q) f g bm _ w6 _ HRd6.out HWv.out HNt6.out).mono ?_
  rintro e w7 ⟨rfl, hb7⟩
  rw [ch_other hf ⟨y0, by omega⟩ (by omega) Hqf.out]
  have HB7 := Lib.hid (Below.then HB6.out hb7 HB6.out.size)
  have HN7 := Lib.hid (box_below HN6.out hb7 (Nat.le_refl _))
  have HD7 := Lib.hid (box_below HD6.out hb7 (Nat.le_refl _))
  have HNt7 := Lib.hid (HNt6.out.below hb7)
  have HO7 := Lib.hid (own_below HO6.out hb7)
  have hz7 := hb7.size
  clear hb7 HN6 HD6 HNt6 HRd6 HB6 HO6
  obtain ⟨i, hi, hiq⟩ : ∃ i : Nat, Psp.within at0 (q : Int) = (i : Int) ∧ i < q := by
    have h1 := Psp.within_lo at0 (q : Int)
    have h2 := Psp.within_hi at0 (q : Int) (by omega)
    exact ⟨(Psp.within at0 (q : Int)).toNat, by omega, by omega⟩
  have Hi := Lib.hid hi
  clear hi
  go_wp2_with fail
  refine (within_any at0 (q : Int) w7 hat.1 hat.2 (by omega) (by omega)).mono ?_
  rintro e w8 ⟨rfl, rfl⟩
  rw [Hi.out]
  go_wp2_with fail
  obtain ⟨t, ht⟩ : ∃ t, Psp.within turn 3 = t := ⟨_, rfl⟩
  have t0 : 0 ≤ t := by rw [← ht]; exact Psp.within_lo _ _
  have t1 : t < 3 := by rw [← ht]; exact Psp.within_hi _ _ (by omega)
  refine (within_any turn 3 w7 htu.1 htu.2 (by omega) (by omega)).mono ?_
  rintro e w8 ⟨rfl, rfl⟩
  rw [ht]
  clear ht
  have hlen := chL_len f s q
  have hBw : w.heap.size + 1 ≤ W3.heap.size := by omega
  rcases HO7.out.2 with ⟨_, h0⟩ | ⟨blk, cap, cur, hv, hB, hcur, hcap1, hcap2, hsz, htk⟩
  · exact absurd h0 (by rw [hlen]; omega)
  injection hv with hA hqq hc
  clear hqq
  have hsepb := HVi.out.sep blk (by rw [hA]; rfl)
  have hli := HO7.out
  obtain ⟨_, _, e9, _, _, hli2⟩ := own_slice HO7.out
  rw [hA, hc] at e9
  injection e9 with e9 e9b e9c
  clear e9b e9c
  obtain ⟨blk2, e10, _, hbl, hli3⟩ := hli2 (by rw [hlen]; omega)
  rw [← e9] at e10
  injection e10 with e10
  injection e10 with e10
  subst e10
  have r1 := range_elem (f := vt) (k := 2) (fun _ => rfl) hli3 (i := i) (by rw [hlen]; exact hiq)
  rw [chL_get hiq] at r1
  have n0 := r1 0 _ rfl
  have n1 := r1 1 _ rfl
  simp only [Nat.zero_add, Nat.add_zero, iv] at n0 n1
  rw [hlen] at hcap1 htk
  have HA := Lib.hid hA
  have HC := Lib.hid hc
  have Hcur := Lib.hid hcur
  have Htk := Lib.hid htk
  have Hsp := Lib.hid hsepb
  have HT7 := Lib.hid (show w7.ownsRow (W3.heap.size + 1) 52 2 (.slice A q c) q ((chL f s q).flatMap vt) by have h := HO7.out; rw [hlen] at h; exact h)
  have hik : (i : Int) < (q : Int) := by omega
  have hi0 : (0 : Int) ≤ (i : Int) := by omega
  have hi9 : (i : Int) ≤ 9 := by omega
  have hq1 : (q : Int) ≤ (c : Int) := by rw [hc]; omega
  have hkb := kI_bd (s := s) hf (i := i) (by have := Hqf.out; omega)
  have f1 : w7.frozen? ⟨blk, i * 2 + 1, none⟩ = false := frozen_of_row _ _ _ _ _ hcur
  have f0' : w7.frozen? ⟨blk, i * 2, none⟩ = false := frozen_of_row _ _ _ _ _ hcur
  have hmem : ∀ (n : Int) (y : Int), isI64 n → isI64 y → ∀ z ∈ (chL f s q).set i ⟨n, y⟩, wfVote z := fun n y h1 h2 z hz => by
    rcases List.mem_or_eq_of_mem_set hz with h | h
    · exact HWv.out z h
    · subst h; exact ⟨h1, h2⟩
  have hin : ∀ (z : Psp.Vote), z ∈ (chL f s q).set i z := fun z => List.mem_iff_getElem?.2 ⟨i, by rw [List.getElem?_set_self (by rw [hlen]; exact hiq)]⟩
  have hge : (chL f s q)[i]? = some ⟨kI f s i, (i : Int) + 1⟩ := by rw [List.getElem?_eq_getElem (by rw [hlen]; exact hiq), chL_get hiq]
  have Hmem := Lib.hid hmem
  have Hin := Lib.hid hin
  have Hge := Lib.hid hge
  have Hlen := Lib.hid hlen
  have hne1 : blk ≠ w.heap.size := by omega
  have hne2 : blk ≠ w2.heap.size := by omega
  have Hsz := Lib.hid hsz
  have hsz' : True := trivial
  clear hsz
  clear hA hc hcur htk hsepb hli hli2 hli3 r1 e9 hsz' hmem hin hge hlen
  have ways : t = 0 ∨ t = 1 ∨ t = 2 := by omega
  clear t0 t1
  rcases ways with rfl | rfl | rfl
  · have hAA := HA.out
    subst hAA
    go_upto_region 15 with fail
    have hFp : Fp (fun b => b = blk) w7 (w7.setCell ⟨blk, i * 2 + 1, none⟩ (.int .i64 ((i : Int) + 1 + 1))) := (Fp.refl (fun b => b = blk) w7).setCell (p := ⟨blk, i * 2 + 1, none⟩) (Or.inl (show blk = blk from rfl)) _
    have hrs := rd_set (k := i * 2 + 1) (u := .int .i64 ((i : Int) + 1 + 1)) Hcur.out Htk.out hcap1 hcap2 Hsz.out (by omega) (xs' := ((chL f s q).set i ⟨kI f s i, (i : Int) + 1 + 1⟩).flatMap vt) (vt_set_s _ _ _ _ Hge.out)
    obtain ⟨W8, hW8⟩ : ∃ W8, w7.setCell ⟨blk, i * 2 + 1, none⟩ (.int .i64 ((i : Int) + 1 + 1)) = W8 := ⟨_, rfl⟩
    rw [hW8] at hFp hrs ⊢
    clear hW8 n0 n1 f1 f0'
    obtain ⟨L9, hL9⟩ : ∃ L9, (chL f s q).set i ⟨kI f s i, (i : Int) + 1 + 1⟩ = L9 := ⟨_, rfl⟩
    have HN8 := Lib.hid ((hFp.block w.heap.size (by omega) (by omega)).trans HN7.out)
    have HD8 := Lib.hid ((hFp.block w2.heap.size (by omega) (by omega)).trans HD7.out)
    have HB8 := Lib.hid (HB7.out.trans (hFp.to_below (B := w.heap.size) HB7.out.size fun k hk he => by omega))
    have HNt8 := Lib.hid (HNt7.out.fp hFp (fun hh => Hsp.out.2.1 hh.symm) (fun hh => Hsp.out.2.2 hh.symm))
    have HRd8 : Hid (RdP W8 (fun b => b = blk) 2 (.slice (some ⟨blk, 0, none⟩) q c) L9.length (L9.flatMap vt)) := Lib.hid (by rw [← hL9, List.length_set, Hlen.out, HC.out]; exact hrs)
    have HWf8 : Hid (∀ z ∈ L9, wfVote z) := Lib.hid (by rw [← hL9]; exact Hmem.out _ _ ⟨by omega, by omega⟩ ⟨by omega, by omega⟩)
    have HLaw : Hid (changedB (chK f s view q) view L9 f = false) := Lib.hid (by rw [← hL9]; exact ch_seal hf hiq (Hin.out _))
    have c1 : W8.cell? ⟨w.heap.size, 0, none⟩ = some (.int .i64 view) := by rw [cell_of_row W8 _ 0 _ _ _ HN8.out]; rfl
    have d1 : W8.cell? ⟨w2.heap.size, 0, none⟩ = some (.pointer (some ⟨g, 0, none⟩)) := by rw [cell_of_row W8 _ 0 _ _ _ HD8.out]; rfl
    clear hFp hrs hL9
    go_wp2_with fail
    clear c1 d1
    refine (changed_m view _ L9 f g bm _ W8 _ HRd8.out HWf8.out HNt8.out).mono ?_
    rintro e w9 ⟨rfl, hb9⟩
    rw [HLaw.out]
    have HB9 := Lib.hid (Below.then HB8.out hb9 HB8.out.size)
    clear hb9
    go_wp2_with fail
    refine (wakes06 _).mono ?_
    rintro e wz ⟨rfl, hbz⟩
    have HBz := Lib.hid (Below.then HB9.out hbz HB9.out.size)
    clear hbz
    go_wp2_with fail
    go_ret
    exact ⟨rfl, HBz.out⟩
  · have hAA := HA.out
    subst hAA
    go_upto_region 15 with fail
    have hFp : Fp (fun b => b = blk) w7 (w7.setCell ⟨blk, i * 2, none⟩ (.int .i64 (kI f s i + 1))) := (Fp.refl (fun b => b = blk) w7).setCell (p := ⟨blk, i * 2, none⟩) (Or.inl (show blk = blk from rfl)) _
    have hrs := rd_set (k := i * 2) (u := .int .i64 (kI f s i + 1)) Hcur.out Htk.out hcap1 hcap2 Hsz.out (by omega) (xs' := ((chL f s q).set i ⟨kI f s i + 1, (i : Int) + 1⟩).flatMap vt) (vt_set_n _ _ _ _ Hge.out)
    obtain ⟨W8, hW8⟩ : ∃ W8, w7.setCell ⟨blk, i * 2, none⟩ (.int .i64 (kI f s i + 1)) = W8 := ⟨_, rfl⟩
    rw [hW8] at hFp hrs ⊢
    clear hW8 n0 n1 f1 f0'
    obtain ⟨L9, hL9⟩ : ∃ L9, (chL f s q).set i ⟨kI f s i + 1, (i : Int) + 1⟩ = L9 := ⟨_, rfl⟩
    have HN8 := Lib.hid ((hFp.block w.heap.size (by omega) (by omega)).trans HN7.out)
    have HD8 := Lib.hid ((hFp.block w2.heap.size (by omega) (by omega)).trans HD7.out)
    have HB8 := Lib.hid (HB7.out.trans (hFp.to_below (B := w.heap.size) HB7.out.size fun k hk he => by omega))
    have HNt8 := Lib.hid (HNt7.out.fp hFp (fun hh => Hsp.out.2.1 hh.symm) (fun hh => Hsp.out.2.2 hh.symm))
    have HRd8 : Hid (RdP W8 (fun b => b = blk) 2 (.slice (some ⟨blk, 0, none⟩) q c) L9.length (L9.flatMap vt)) := Lib.hid (by rw [← hL9, List.length_set, Hlen.out, HC.out]; exact hrs)
    have HWf8 : Hid (∀ z ∈ L9, wfVote z) := Lib.hid (by rw [← hL9]; exact Hmem.out _ _ ⟨by omega, by omega⟩ ⟨by omega, by omega⟩)
    have HLaw : Hid (changedB (chK f s view q) view L9 f = false) := Lib.hid (by rw [← hL9]; exact ch_node hf hiq (Hin.out _))
    have c1 : W8.cell? ⟨w.heap.size, 0, none⟩ = some (.int .i64 view) := by rw [cell_of_row W8 _ 0 _ _ _ HN8.out]; rfl
    have d1 : W8.cell? ⟨w2.heap.size, 0, none⟩ = some (.pointer (some ⟨g, 0, none⟩)) := by rw [cell_of_row W8 _ 0 _ _ _ HD8.out]; rfl
    clear hFp hrs hL9
    go_wp2_with fail
    clear c1 d1
    refine (changed_m view _ L9 f g bm _ W8 _ HRd8.out HWf8.out HNt8.out).mono ?_
    rintro e w9 ⟨rfl, hb9⟩
    rw [HLaw.out]
    have HB9 := Lib.hid (Below.then HB8.out hb9 HB8.out.size)
    clear hb9
    go_wp2_with fail
    refine (wakes06 _).mono ?_
    rintro e wz ⟨rfl, hbz⟩
    have HBz := Lib.hid (Below.then HB9.out hbz HB9.out.size)
    clear hbz
    go_wp2_with fail
    go_ret
    exact ⟨rfl, HBz.out⟩
  · clear n0 n1 f1 f0'
    have hw78 : W3.heap.size + 1 ≤ w7.heap.size := by omega
    have hqb : q ≤ 2147483648 := by omega
    go_wp2_with (at_builtin; refine wpList_app1 votE rfl _ _ rfl (W3.heap.size + 1) (.slice A q c) q _ rfl HT7.out _ rfl rfl (by simp [Value.oneCell']) hqb (by decide) hw78 ?_; intro v' W8 hown8 hg8 hbl8 hv8; have HNt8 := Lib.hid (HNt7.out.fp ((Fp.refl (fun b => b = blk) w7).grown hg8 (fun j hj => Or.inl (by have h := HA.out; rw [h] at hj; injection hj with hj; exact hj.symm))) (fun hh => Hsp.out.2.1 hh.symm) (fun hh => Hsp.out.2.2 hh.symm)); have hFp := ((Fp.refl (fun b => b = blk) w7).grown hg8 (fun j hj => Or.inl (by have h := HA.out; rw [h] at hj; injection hj with hj; exact hj.symm))); have HN8 := Lib.hid ((hFp.block w.heap.size (by omega) (by omega)).trans HN7.out); have HD8 := Lib.hid ((hFp.block w2.heap.size (by omega) (by omega)).trans HD7.out); have HB8 := Lib.hid (HB7.out.trans (hFp.to_below (B := w.heap.size) HB7.out.size fun k hk he => by omega)); have HO8 := Lib.hid hown8; clear hown8 hg8 hbl8 hv8 hFp; obtain ⟨A8, c8, rfl, _, _, _⟩ := own_slice HO8.out; have c1 : W8.cell? ⟨w.heap.size, 0, none⟩ = some (.int .i64 view) := (by rw [cell_of_row W8 _ 0 _ _ _ HN8.out]; rfl); have d1 : W8.cell? ⟨w2.heap.size, 0, none⟩ = some (.pointer (some ⟨g, 0, none⟩)) := (by rw [cell_of_row W8 _ 0 _ _ _ HD8.out]; rfl))
    obtain ⟨L9, hL9⟩ : ∃ L9, chL f s q ++ [(⟨13, 1⟩ : Psp.Vote)] = L9 := ⟨_, rfl⟩
    have HRd8 : Hid (RdP W8 (fun b => b < W8.heap.size) 2 (.slice A8 (q + 1) c8) L9.length (L9.flatMap vt)) := Lib.hid (by
      rw [← hL9, List.length_append, Hlen.out, List.flatMap_append]
      have h := (RdP.of_own HO8.out).mono (P' := fun b => b < W8.heap.size) fun b hb _ => hb
      simpa [vt, iv] using h)
    have HWf8 : Hid (∀ z ∈ L9, wfVote z) := Lib.hid (by
      rw [← hL9]
      intro z hz
      rcases List.mem_append.1 hz with hz | hz
      · exact HWv.out z hz
      · rw [List.mem_singleton.1 hz]; exact ⟨⟨by decide, by decide⟩, ⟨by decide, by decide⟩⟩)
    have HLaw : Hid (changedB (chK f s view q) view L9 f = false) := Lib.hid (by rw [← hL9]; exact ch_more hf (by rw [List.length_append, Hlen.out]; have := Hqf.out; simp; omega))
    clear hL9
    clear c1 d1
    refine (changed_m view _ L9 f g bm _ W8 _ HRd8.out HWf8.out HNt8.out).mono ?_
    rintro e w9 ⟨rfl, hb9⟩
    rw [HLaw.out]
    have HB9 := Lib.hid (Below.then HB8.out hb9 HB8.out.size)
    clear hb9
    go_wp2_with fail
    refine (wakes06 _).mono ?_
    rintro e wz ⟨rfl, hbz⟩
    have HBz := Lib.hid (Below.then HB9.out hbz HB9.out.size)
    clear hbz
    go_wp2_with fail
    go_ret
    exact ⟨rfl, HBz.out⟩
end Go.Proofs.Ytljfoajhobambaa.msgsChanged

