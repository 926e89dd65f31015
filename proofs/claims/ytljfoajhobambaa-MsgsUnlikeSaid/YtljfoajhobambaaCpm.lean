/- psephoskeep.CopyMsg. Printed by gen_cpm.py. -/
import Derived.Test.YtljfoajhobambaaCpy
import Derived.Test.YtljfoajhobambaaMx
namespace Go.Proofs.Ytljfoajhobambaa
open Go.RowKit
set_option linter.unusedVariables false
set_option linter.unusedSimpArgs false

/-- Not more than is played. -/
def lightM (m : Psp.Msg) : Prop := m.b.length ≤ 1000 ∧ m.o.length ≤ 1000 ∧ (m.c.length ≤ 1000 ∧ ∀ c ∈ m.c, c.b.length ≤ 1000 ∧ c.o.length ≤ 1000) ∧ m.p.length ≤ 1000 ∧ ∀ p ∈ m.p, p.o.length ≤ 1000 ∧ p.c.length ≤ 1000 ∧ ∀ c ∈ p.c, c.b.length ≤ 1000 ∧ c.o.length ≤ 1000

set_option maxRecDepth 100000 in
set_option maxHeartbeats 8000000 in
theorem copy_m (m : Psp.Msg) (vb vo vc vp : Value) (w : World) (P : Nat → Prop) (hx : MsgOk w P ⟨m, vb, vo, vc, vp⟩) (hl : lightM m) :
    Calls Try.prog 25 #[.agg #[.int .i64 m.k, .int .i64 m.f, .int .i64 m.v, .int .i64 m.i, .int .i64 m.q, .int .i64 m.r, vb, vo, vc, vp]] w fun e w' => ∃ (Bb Bo Bc Bp : Option Addr) (db dd dc dp : Nat), e = .returned (.agg #[.int .i64 m.k, .int .i64 m.f, .int .i64 m.v, .int .i64 m.i, .int .i64 m.q, .int .i64 m.r, .slice Bb m.b.length db, .slice Bo m.o.length dd, .slice Bc m.c.length dc, .slice Bp m.p.length dp]) ∧ MsgOk w' (fun b => w.heap.size ≤ b) ⟨m, .slice Bb m.b.length db, .slice Bo m.o.length dd, .slice Bc m.c.length dc, .slice Bp m.p.length dp⟩ ∧ Below w.heap.size w w' := by
  obtain ⟨Ab, Ao, Ac, Ap, cb, co, cc, cp, rfl, rfl, rfl, rfl⟩ := msg_slices hx
  obtain ⟨l1, l2, ⟨l3, l4⟩, l5, l6⟩ := hl
  have HX := Lib.hid hx
  have L4 := Lib.hid l4
  have L6 := Lib.hid l6
  clear hx l4 l6
  go_enter Try.func25, Try.ntmps25
  go_wp2_with fail
  have hb0 := (alloc_below w (.cells #[.int .i64 m.k, .int .i64 m.f, .int .i64 m.v, .int .i64 m.i, .int .i64 m.q, .int .i64 m.r, .slice Ab m.b.length cb, .slice Ao m.o.length co, .slice Ac m.c.length cc, .slice Ap m.p.length cp] 27)).trans ((alloc_below (w.alloc (.cells #[.int .i64 m.k, .int .i64 m.f, .int .i64 m.v, .int .i64 m.i, .int .i64 m.q, .int .i64 m.r, .slice Ab m.b.length cb, .slice Ao m.o.length co, .slice Ac m.c.length cc, .slice Ap m.p.length cp] 27)) (.cells zs 27)).mono (by simp))
  have hc0 := obj_below (heap_alloc_new w (.cells #[.int .i64 m.k, .int .i64 m.f, .int .i64 m.v, .int .i64 m.i, .int .i64 m.q, .int .i64 m.r, .slice Ab m.b.length cb, .slice Ao m.o.length co, .slice Ac m.c.length cc, .slice Ap m.p.length cp] 27)) (alloc_below (w.alloc (.cells #[.int .i64 m.k, .int .i64 m.f, .int .i64 m.v, .int .i64 m.i, .int .i64 m.q, .int .i64 m.r, .slice Ab m.b.length cb, .slice Ao m.o.length co, .slice Ac m.c.length cc, .slice Ap m.p.length cp] 27)) (.cells zs 27)) (Nat.le_refl _)
  have hr0 : ((w.alloc (.cells #[.int .i64 m.k, .int .i64 m.f, .int .i64 m.v, .int .i64 m.i, .int .i64 m.q, .int .i64 m.r, .slice Ab m.b.length cb, .slice Ao m.o.length co, .slice Ac m.c.length cc, .slice Ap m.p.length cp] 27)).alloc (.cells zs 27)).heap[w.heap.size + 1]? = some (.cells zs 27 (0, 0)) := by have h := heap_alloc_new (w.alloc (.cells #[.int .i64 m.k, .int .i64 m.f, .int .i64 m.v, .int .i64 m.i, .int .i64 m.q, .int .i64 m.r, .slice Ab m.b.length cb, .slice Ao m.o.length co, .slice Ac m.c.length cc, .slice Ap m.p.length cp] 27)) (.cells zs 27); simpa using h
  have hs0 : ((w.alloc (.cells #[.int .i64 m.k, .int .i64 m.f, .int .i64 m.v, .int .i64 m.i, .int .i64 m.q, .int .i64 m.r, .slice Ab m.b.length cb, .slice Ao m.o.length co, .slice Ac m.c.length cc, .slice Ap m.p.length cp] 27)).alloc (.cells zs 27)).heap.size = w.heap.size + 2 := by simp
  obtain ⟨W, hW⟩ : ∃ W, (w.alloc (.cells #[.int .i64 m.k, .int .i64 m.f, .int .i64 m.v, .int .i64 m.i, .int .i64 m.q, .int .i64 m.r, .slice Ab m.b.length cb, .slice Ao m.o.length co, .slice Ac m.c.length cc, .slice Ap m.p.length cp] 27)).alloc (.cells zs 27) = W := ⟨_, rfl⟩
  rw [show (w.alloc (.cells #[.int .i64 m.k, .int .i64 m.f, .int .i64 m.v, .int .i64 m.i, .int .i64 m.q, .int .i64 m.r, .slice Ab m.b.length cb, .slice Ao m.o.length co, .slice Ac m.c.length cc, .slice Ap m.p.length cp] 27)).alloc (.cells #[.int .i64 0, .int .i64 0, .int .i64 0, .int .i64 0, .int .i64 0, .int .i64 0, .slice none 0 0, .slice none 0 0, .slice none 0 0, .slice none 0 0] 27) = W from hW]
  rw [hW] at hb0 hc0 hr0 hs0
  have HB0 := Lib.hid hb0
  have HC0 := Lib.hid hc0
  have HR0 := Lib.hid hr0
  clear hW hb0 hr0
  have l6 := later_cell (w := W.drew) (show W.drew.cell? ⟨w.heap.size, 6, none⟩ = some (.slice Ab m.b.length cb) by rw [cell_of_row W.drew _ 6 _ _ _ hc0]; rfl)
  have l7 := later_cell (w := W.drew) (show W.drew.cell? ⟨w.heap.size, 7, none⟩ = some (.slice Ao m.o.length co) by rw [cell_of_row W.drew _ 7 _ _ _ hc0]; rfl)
  have l8 := later_cell (w := W.drew) (show W.drew.cell? ⟨w.heap.size, 8, none⟩ = some (.slice Ac m.c.length cc) by rw [cell_of_row W.drew _ 8 _ _ _ hc0]; rfl)
  clear hc0
  refine wp_region_phases [(true, 0), (true, 1), (true, 3), (true, 4), (true, 6), (true, 7), (false, 2), (true, 9), (false, 5), (false, 8)] (by kernel_rfl) (by kernel_rfl) ?_
  simp only [phW, List.getElem?_cons_zero, List.getElem?_cons_succ, Option.toList, List.length_cons, List.length_nil, Nat.reduceAdd, List.drop_succ_cons, List.drop_zero]
  repeat (first | go_big_quiet_step (fail) | quiet_step (fail) | refine wpQuiet_nil ?_)
  go_wp2_with fail
  refine (copy_R _ m.b W.drew _ (RdP.below HX.out.1 HB0.out.drew) (by omega)).mono ?_
  rintro e w1 ⟨Bb, db, rfl, hr1, hb1⟩
  have HB1 := Lib.hid hb1
  have HR1 := Lib.hid hr1
  clear hr1 hb1
  go_wp2_with fail
  refine And.intro ⟨⟨w1, HB1.out⟩, rfl⟩ ?_
  repeat (first | go_big_quiet_step (fail) | quiet_step (fail) | refine wpQuiet_nil ?_)
  go_wp2_with fail
  have hB01 : Below w.heap.size w w1 := HB0.out.drew.trans (HB1.out.mono (by show w.heap.size ≤ W.heap.size; omega))
  refine (copy_V _ m.o w1 _ (RdP.below HX.out.2.1 hB01) (by omega)).mono ?_
  rintro e w2 ⟨Bo, dd, rfl, hr2, hb2⟩
  have hz1 : W.heap.size ≤ w1.heap.size := HB1.out.size
  have hz2 := hb2.size
  have HB2 := Lib.hid (Below.then hB01 hb2 hB01.size)
  have HW2 := Lib.hid (Below.then HB1.out hb2 HB1.out.size)
  have HR12 := Lib.hid (RdP.below HR1.out hb2)
  have HR2 := Lib.hid hr2
  clear hr2 hb2 hB01 HR1
  go_wp2_with fail
  refine And.intro ⟨⟨w2, HW2.out⟩, rfl⟩ ?_
  clear l6 l7 l8
  go_wp2_with fail
  refine (copy_certs _ m.c w2 _ (HX.out.2.2.1.keeps (Keeps.below HB2.out)) (by omega) L4.out).mono ?_
  rintro e w3 ⟨Bc, dc, rfl, hr3, hb3⟩
  have hz3 := hb3.size
  have HB3 := Lib.hid (Below.then HB2.out hb3 HB2.out.size)
  have HW3 := Lib.hid (Below.then HW2.out hb3 HW2.out.size)
  have HR13 := Lib.hid (RdP.below HR12.out hb3)
  have HR23 := Lib.hid (RdP.below HR2.out hb3)
  have HR3 := Lib.hid hr3
  have HC3 := Lib.hid (obj_below (show W.drew.heap[w.heap.size]? = _ from HC0.out) HW3.out (Nat.le_refl _))
  have HE3 := Lib.hid (obj_below (show W.drew.heap[w.heap.size + 1]? = _ from HR0.out) HW3.out (Nat.le_refl _))
  clear hr3 hb3 HR12 HR2 HC0 HR0 HB2 HB1 HW2
  have y6 : w3.cell? ⟨w.heap.size, 6, none⟩ = some (.slice Ab m.b.length cb) := by rw [cell_of_row _ _ 6 _ _ _ HC3.out]; rfl
  have y7 : w3.cell? ⟨w.heap.size, 7, none⟩ = some (.slice Ao m.o.length co) := by rw [cell_of_row _ _ 7 _ _ _ HC3.out]; rfl
  have y8 : w3.cell? ⟨w.heap.size, 8, none⟩ = some (.slice Ac m.c.length cc) := by rw [cell_of_row _ _ 8 _ _ _ HC3.out]; rfl
  have z6 := frozen_of_row _ _ 6 _ _ HC3.out
  have z7 := frozen_of_row _ _ 7 _ _ HC3.out
  have z8 := frozen_of_row _ _ 8 _ _ HC3.out
  go_wp2_with fail
  refine And.intro ⟨⟨w3, HW3.out⟩, rfl⟩ ?_
  have hFp : Fp (fun b => b = w.heap.size) w3 (((w3.setCell ⟨w.heap.size, 6, none⟩ (.slice Bb m.b.length db)).setCell ⟨w.heap.size, 7, none⟩ (.slice Bo m.o.length dd)).setCell ⟨w.heap.size, 8, none⟩ (.slice Bc m.c.length dc)) := (((Fp.refl (fun b => b = w.heap.size) w3).setCell (p := ⟨w.heap.size, 6, none⟩) (Or.inl (show w.heap.size = w.heap.size from rfl)) _).setCell (p := ⟨w.heap.size, 7, none⟩) (Or.inl (show w.heap.size = w.heap.size from rfl)) _).setCell (p := ⟨w.heap.size, 8, none⟩) (Or.inl (show w.heap.size = w.heap.size from rfl)) _
  have hc4 : (((w3.setCell ⟨w.heap.size, 6, none⟩ (.slice Bb m.b.length db)).setCell ⟨w.heap.size, 7, none⟩ (.slice Bo m.o.length dd)).setCell ⟨w.heap.size, 8, none⟩ (.slice Bc m.c.length dc)).heap[w.heap.size]? = some (.cells #[.int .i64 m.k, .int .i64 m.f, .int .i64 m.v, .int .i64 m.i, .int .i64 m.q, .int .i64 m.r, .slice Bb m.b.length db, .slice Bo m.o.length dd, .slice Bc m.c.length dc, .slice Ap m.p.length cp] 27 (0, 0)) := by
    rw [heap_setCell_same _ _ 8 _ _ _ (heap_setCell_same _ _ 7 _ _ _ (heap_setCell_same w3 w.heap.size 6 _ _ _ HC3.out))]; rfl
  go_upto_region 2 with fail
  clear y6 y7 y8 z6 z7 z8
  obtain ⟨Wa, hWa⟩ : ∃ W4, ((w3.setCell ⟨w.heap.size, 6, none⟩ (.slice Bb m.b.length db)).setCell ⟨w.heap.size, 7, none⟩ (.slice Bo m.o.length dd)).setCell ⟨w.heap.size, 8, none⟩ (.slice Bc m.c.length dc) = W4 := ⟨_, rfl⟩
  rw [hWa] at hFp hc4 ⊢
  clear hWa
  have hz4 := hFp.size
  have HBa := Lib.hid (HB3.out.trans (hFp.to_below (B := w.heap.size) HB3.out.size fun j hj _ => by omega))
  have HEa := Lib.hid ((hFp.block (w.heap.size + 1) (by omega) (by omega)).trans HE3.out)
  have HCa := Lib.hid hc4
  have HMb := Lib.hid ((HR13.out.fp hFp (fun j (hj : W.heap.size ≤ j) he => by omega)).mono (P' := fun j => w.heap.size + 2 ≤ j) fun j _ (hj : W.heap.size ≤ j) => by omega)
  have HMo := Lib.hid ((HR23.out.fp hFp (fun j (hj : w1.heap.size ≤ j) he => by omega)).mono (P' := fun j => w.heap.size + 2 ≤ j) fun j _ (hj : w1.heap.size ≤ j) => by omega)
  have HMc : Hid (RdC Wa (fun j => w.heap.size + 2 ≤ j) (.slice Bc m.c.length dc) m.c) := Lib.hid (HR3.out.keeps ⟨hFp.size, fun b (hb : w2.heap.size ≤ b) hlt => ⟨hFp.block b hlt (by omega), by omega⟩⟩)
  have hwa : w.heap.size + 2 ≤ Wa.heap.size := by omega
  clear hFp hc4 HC3 HE3 HR13 HR23 HR3 HB3 HW3
  obtain ⟨L, hL, hxp, hxL⟩ := HX.out.2.2.2
  have hn : L.length = m.p.length := by rw [← hL, List.length_map]
  obtain ⟨n, hnn⟩ : ∃ n, m.p.length = n := ⟨_, rfl⟩
  rw [hn] at hxp
  rw [hnn] at hxp hn l5 HCa ⊢
  obtain ⟨_, A, c, e0, hx1, hx2, hxc⟩ := hxp.parts
  injection e0 with e1 _ e2
  subst e1 e2
  have Hxc := Lib.hid hxc
  have Hn := Lib.hid hn
  have HL := Lib.hid hL
  have HxL := Lib.hid hxL
  have Hnn := Lib.hid hnn
  clear hxc hn hL hxL hxp hnn
  go_wp2_with fail
  go_loopw [3, 4] (fun out i wr => ∃ (k : Nat) (xs : List PartV), i = .int .i64 (k : Int) ∧ k ≤ n ∧ xs.length = k ∧ Hid (xs.map (·.p) = m.p.take k) ∧ PInv Wa wr out xs) (fun _ i _ => n - (intOf i).toNat)
  case atStart => exact ⟨0, [], rfl, Nat.zero_le _, rfl, Lib.hid rfl, World.ownsRow_nil _ _ _ _, Below.refl _ _, fun _ h => by cases h⟩
  case round =>
    obtain ⟨k, xs, rfl, hk, hxk, Hxs, hI⟩ := hrel
    obtain ⟨A5, c5, e5, _, _, _⟩ := own_slice hI.own
    subst e5
    rw [hxk] at hI ⊢
    have HI := Lib.hid hI
    have Hxk := Lib.hid hxk
    have hwr := hI.be.size
    have HCr := Lib.hid (obj_below HCa.out hI.be (Nat.le_refl _))
    have u9 : wr.cell? ⟨w.heap.size, 9, none⟩ = some (.slice Ap n cp) := by rw [cell_of_row _ _ 9 _ _ _ HCr.out]; rfl
    have hBw : Below w.heap.size w wr := HBa.out.trans (hI.be.mono HBa.out.size)
    by_cases hlt : k < n
    · obtain ⟨b1, o1, hA1, hP1, hb1, h1⟩ := Hxc.out (by omega)
      subst hA1
      have hkL : k < L.length := by have := Hn.out; omega
      have r1 := range_keep (range_elem (f := pv) (k := 4) (fun _ => rfl) h1 hkL) (hBw.block b1 hb1)
      have hok1 := (HxL.out _ (List.getElem_mem hkL)).keeps (Keeps.below (w := w) (w' := wr) hBw)
      have hkl : k < m.p.length := by rw [← HL.out, List.length_map]; exact hkL
      have e1 : m.p[k] = L[k].p := by simp only [← HL.out, List.getElem_map]
      have hsm := L6.out _ (List.getElem_mem hkl)
      have hst : m.p.take (k + 1) = m.p.take k ++ [L[k].p] := by rw [List.take_succ_eq_append_getElem hkl, e1]
      rw [e1] at hsm
      obtain ⟨t, ht⟩ : ∃ t, L[k] = t := ⟨_, rfl⟩
      rw [ht] at r1 hok1 hsm hst
      obtain ⟨⟨tf, tw, tc, ts⟩, vo, vc⟩ := t
      obtain ⟨g1, g2⟩ := hok1
      simp only at g1 g2 hsm
      obtain ⟨_, Tv, cv1, rfl, _, _, _⟩ := g1.parts
      obtain ⟨Tc, nc1, cc1, e2⟩ := g2.form
      subst e2
      obtain rfl : nc1 = tc.length := by obtain ⟨L1, q1, q2, _⟩ := g2; obtain ⟨_, A9, c9, e9, _⟩ := q2; injection e9 with _ e9 _; rw [e9, ← q1, List.length_map]
      have G1 := Lib.hid g1
      have G2 := Lib.hid g2
      have Hst := Lib.hid hst
      obtain ⟨s1, s2, s3⟩ := hsm
      have S3 := Lib.hid s3
      have x0 := r1 0 _ rfl
      have x1 := r1 1 _ rfl
      have x2 := r1 2 _ rfl
      have x3 := r1 3 _ rfl
      simp only [Nat.add_zero, iv] at x0 x1 x2 x3
      have kb0 : (0 : Int) ≤ (k : Int) := by omega
      have kb1 : (k : Int) < (n : Int) := by omega
      have HBw := Lib.hid hBw
      clear r1 g1 g2 h1 ht e1 hst hI hxk hBw s3
      go_wp2_with fail
      have hb0 := alloc_below wr (.cells #[.int .i64 tf, .slice Tv tw.length cv1, .slice Tc tc.length cc1, .int .i64 ts] 54)
      have hc0 := heap_alloc_new wr (.cells #[.int .i64 tf, .slice Tv tw.length cv1, .slice Tc tc.length cc1, .int .i64 ts] 54)
      obtain ⟨Y, hY⟩ : ∃ Y, wr.alloc (.cells #[.int .i64 tf, .slice Tv tw.length cv1, .slice Tc tc.length cc1, .int .i64 ts] 54) = Y := ⟨_, rfl⟩
      rw [hY] at hb0 hc0 ⊢
      have hYs : wr.heap.size < Y.heap.size := (Array.getElem?_eq_some_iff.1 hc0).1
      have HD0 := Lib.hid hb0
      have HE0 := Lib.hid hc0
      clear hY hb0 x0 x1 x2 x3 u9
      have l1 := later_cell (w := Y.drew) (show Y.drew.cell? ⟨wr.heap.size, 1, none⟩ = some (.slice Tv tw.length cv1) by rw [cell_of_row Y.drew _ 1 _ _ _ hc0]; rfl)
      have l2 := later_cell (w := Y.drew) (show Y.drew.cell? ⟨wr.heap.size, 2, none⟩ = some (.slice Tc tc.length cc1) by rw [cell_of_row Y.drew _ 2 _ _ _ hc0]; rfl)
      clear hc0
      refine wp_region_phases [(true, 0), (true, 1), (true, 3), (true, 4), (false, 2), (true, 6), (false, 5)] (by kernel_rfl) (by kernel_rfl) ?_
      simp only [phW, List.getElem?_cons_zero, List.getElem?_cons_succ, Option.toList, List.length_cons, List.length_nil, Nat.reduceAdd, List.drop_succ_cons, List.drop_zero]
      repeat (first | go_big_quiet_step (fail) | quiet_step (fail) | refine wpQuiet_nil ?_)
      go_wp2_with fail
      refine (copy_V _ tw Y.drew _ (RdP.below G1.out HD0.out.drew) (by omega)).mono ?_
      rintro e v1 ⟨A1, c1, rfl, hr1, hb1⟩
      have HD1 := Lib.hid hb1
      have HS1 := Lib.hid hr1
      clear hr1 hb1
      go_wp2_with fail
      refine And.intro ⟨⟨v1, HD1.out⟩, rfl⟩ ?_
      repeat (first | go_big_quiet_step (fail) | quiet_step (fail) | refine wpQuiet_nil ?_)
      clear l1 l2
      go_wp2_with fail
      have hB01 : Below wr.heap.size wr v1 := HD0.out.drew.trans (HD1.out.mono (by show wr.heap.size ≤ Y.heap.size; omega))
      refine (copy_certs _ tc v1 _ (G2.out.keeps (Keeps.below hB01)) (by omega) S3.out).mono ?_
      rintro e v2 ⟨A2, c2, rfl, hr2, hb2⟩
      have hy1 : Y.heap.size ≤ v1.heap.size := HD1.out.size
      have HD2 := Lib.hid (Below.then hB01 hb2 hB01.size)
      have HDw := Lib.hid (Below.then HD1.out hb2 HD1.out.size)
      have HE2 := Lib.hid (obj_below (obj_below (W' := v1) (show Y.drew.heap[wr.heap.size]? = _ from HE0.out) HD1.out (Nat.le_refl _)) hb2 (Nat.le_refl _))
      have HS12 := Lib.hid (RdP.below HS1.out hb2)
      have HS2 := Lib.hid hr2
      have hy2 := hb2.size
      clear hr2 hb2 hB01
      have y1 : v2.cell? ⟨wr.heap.size, 1, none⟩ = some (.slice Tv tw.length cv1) := by rw [cell_of_row _ _ 1 _ _ _ HE2.out]; rfl
      have y2 : v2.cell? ⟨wr.heap.size, 2, none⟩ = some (.slice Tc tc.length cc1) := by rw [cell_of_row _ _ 2 _ _ _ HE2.out]; rfl
      have z1 := frozen_of_row _ _ 1 _ _ HE2.out
      have z2 := frozen_of_row _ _ 2 _ _ HE2.out
      go_wp2_with fail
      refine And.intro ⟨⟨v2, HDw.out⟩, rfl⟩ ?_
      have hFp : Fp (fun b => b = wr.heap.size) v2 ((v2.setCell ⟨wr.heap.size, 1, none⟩ (.slice A1 tw.length c1)).setCell ⟨wr.heap.size, 2, none⟩ (.slice A2 tc.length c2)) := ((Fp.refl (fun b => b = wr.heap.size) v2).setCell (p := ⟨wr.heap.size, 1, none⟩) (Or.inl (show wr.heap.size = wr.heap.size from rfl)) _).setCell (p := ⟨wr.heap.size, 2, none⟩) (Or.inl (show wr.heap.size = wr.heap.size from rfl)) _
      have hc3 : ((v2.setCell ⟨wr.heap.size, 1, none⟩ (.slice A1 tw.length c1)).setCell ⟨wr.heap.size, 2, none⟩ (.slice A2 tc.length c2)).heap[wr.heap.size]? = some (.cells #[.int .i64 tf, .slice A1 tw.length c1, .slice A2 tc.length c2, .int .i64 ts] 54 (0, 0)) := by
        rw [heap_setCell_same _ _ 2 _ _ _ (heap_setCell_same v2 wr.heap.size 1 _ _ _ HE2.out)]; rfl
      go_upto_region 8 with fail
      clear y1 y2 z1 z2
      obtain ⟨W3, hW3⟩ : ∃ W3, (v2.setCell ⟨wr.heap.size, 1, none⟩ (.slice A1 tw.length c1)).setCell ⟨wr.heap.size, 2, none⟩ (.slice A2 tc.length c2) = W3 := ⟨_, rfl⟩
      rw [hW3] at hFp hc3 ⊢
      clear hW3
      have hy3 := hFp.size
      have hB3 := HD2.out.trans (hFp.to_below (B := wr.heap.size) HD2.out.size fun j hj _ => by omega)
      have hT : PartOk W3 (fun j => wr.heap.size ≤ j) (⟨⟨tf, tw, tc, ts⟩, .slice A1 tw.length c1, .slice A2 tc.length c2⟩ : PartV) :=
        ⟨(HS12.out.fp hFp (fun j (hj : Y.heap.size ≤ j) he => by omega)).mono fun j _ (hj : Y.heap.size ≤ j) => by omega, HS2.out.keeps ⟨hFp.size, fun b (hb : v1.heap.size ≤ b) hlt => ⟨hFp.block b hlt (by omega), by omega⟩⟩⟩
      have hT1 := pv_one hT
      have HTT := Lib.hid hT
      have HT1 := Lib.hid hT1
      have Hown3 := Lib.hid (own_below HI.out.own hB3)
      have HB3 := Lib.hid hB3
      have y0 : W3.cell? ⟨wr.heap.size, 0, none⟩ = some (.int .i64 tf) := by rw [cell_of_row _ _ 0 _ _ _ hc3]; rfl
      have y1 : W3.cell? ⟨wr.heap.size, 1, none⟩ = some (.slice A1 tw.length c1) := by rw [cell_of_row _ _ 1 _ _ _ hc3]; rfl
      have y2 : W3.cell? ⟨wr.heap.size, 2, none⟩ = some (.slice A2 tc.length c2) := by rw [cell_of_row _ _ 2 _ _ _ hc3]; rfl
      have y3 : W3.cell? ⟨wr.heap.size, 3, none⟩ = some (.int .i64 ts) := by rw [cell_of_row _ _ 3 _ _ _ hc3]; rfl
      clear hFp hB3 hT hT1 HE2 HS12 HS2 HS1 HD1 HD0 HDw hc3
      go_wp2_with (at_builtin; refine wpList_app1 partE rfl _ _ rfl Wa.heap.size (.slice A5 k c5) k (xs.flatMap pv) rfl (by have h := Hown3.out; rw [Hxk.out] at h; exact h) _ rfl rfl (by exact HT1.out) (by omega) (by decide) (by omega) ?_; intro v' w4 hown3 hg3 _ hv3; have HN := Lib.hid (PInv.next HI.out HB3.out HTT.out (by rw [Hxk.out]; exact hown3) hg3 hv3); clear hown3 hg3 hv3; obtain ⟨A6, c6, e6, _, _, _⟩ := own_slice HN.out.own; have E6 := Lib.hid e6; clear e6)
      refine ⟨⟨k + 1, xs ++ [(⟨⟨tf, tw, tc, ts⟩, .slice A1 tw.length c1, .slice A2 tc.length c2⟩ : PartV)], by go_num, by omega, by rw [List.length_append, Hxk.out]; rfl, Lib.hid (by rw [List.map_append, Hxs.out, Hst.out]; rfl), HN.out⟩, ?_⟩
      simp [intOf]; omega
    · have hkn : k = n := by omega
      subst hkn
      have hfin : RdA wr (fun b => Wa.heap.size ≤ b) (.slice A5 k c5) m.p := ⟨xs, by rw [Hxs.out, List.take_of_length_le (by rw [Hnn.out]; exact Nat.le_refl _)], by rw [← Hxk.out] at HI ⊢; exact (RdP.of_own HI.out.own).mono (fun b _ hb => hb.2), fun y hy => (HI.out.inner y hy).keeps (Keeps.mono fun b _ hb => hb.1)⟩
      have Hfin := Lib.hid hfin
      have HBw := Lib.hid hBw
      have HEr := Lib.hid (obj_below HEa.out hI.be (Nat.le_refl _))
      have HMb2 := Lib.hid (RdP.below HMb.out hI.be)
      have HMo2 := Lib.hid (RdP.below HMo.out hI.be)
      have HMc2 := Lib.hid (HMc.out.keeps (Keeps.below hI.be))
      have z9 := frozen_of_row _ _ 9 _ _ HCr.out
      clear hfin hI hxk hBw
      go_upto_region 10 with fail
      have hFp : Fp (fun b => b = w.heap.size) wr (wr.setCell ⟨w.heap.size, 9, none⟩ (.slice A5 k c5)) := (Fp.refl (fun b => b = w.heap.size) wr).setCell (p := ⟨w.heap.size, 9, none⟩) (Or.inl (show w.heap.size = w.heap.size from rfl)) _
      have hc4 : (wr.setCell ⟨w.heap.size, 9, none⟩ (.slice A5 k c5)).heap[w.heap.size]? = some (.cells #[.int .i64 m.k, .int .i64 m.f, .int .i64 m.v, .int .i64 m.i, .int .i64 m.q, .int .i64 m.r, .slice Bb m.b.length db, .slice Bo m.o.length dd, .slice Bc m.c.length dc, .slice A5 k c5] 27 (0, 0)) := by
        rw [heap_setCell_same wr w.heap.size 9 _ _ _ HCr.out]; rfl
      clear u9 z9
      obtain ⟨W5, hW5⟩ : ∃ W5, wr.setCell ⟨w.heap.size, 9, none⟩ (.slice A5 k c5) = W5 := ⟨_, rfl⟩
      rw [hW5] at hFp hc4 ⊢
      clear hW5
      have hz5 := hFp.size
      have HB5 := Lib.hid (HBw.out.trans (hFp.to_below (B := w.heap.size) HBw.out.size fun j hj _ => by omega))
      have he5 : W5.heap[w.heap.size + 1]? = some (.cells zs 27 (0, 0)) := (hFp.block (w.heap.size + 1) (by omega) (by omega)).trans HEr.out
      obtain ⟨y0, y1, y2, y3, y4, y5, y6, y7, y8, y9⟩ := box_cells hc4
      have Hth := Lib.hid (row_there he5)
      obtain ⟨s1, s2⟩ := row_store he5 [.int .i64 m.k, .int .i64 m.f, .int .i64 m.v, .int .i64 m.i, .int .i64 m.q, .int .i64 m.r, .slice Bb m.b.length db, .slice Bo m.o.length dd, .slice Bc m.c.length dc, .slice A5 k c5] rfl
      have T1 := Lib.hid s1
      have T3 := Lib.hid (below_setCells HB5.out (w.heap.size + 1) (by omega) [.int .i64 m.k, .int .i64 m.f, .int .i64 m.v, .int .i64 m.i, .int .i64 m.q, .int .i64 m.r, .slice Bb m.b.length db, .slice Bo m.o.length dd, .slice Bc m.c.length dc, .slice A5 k c5])
      have hkp : Keeps (fun j => w.heap.size + 2 ≤ j) (fun j => w.heap.size ≤ j) wr (W5.setCells (w.heap.size + 1) 0 [.int .i64 m.k, .int .i64 m.f, .int .i64 m.v, .int .i64 m.i, .int .i64 m.q, .int .i64 m.r, .slice Bb m.b.length db, .slice Bo m.o.length dd, .slice Bc m.c.length dc, .slice A5 k c5]) := ⟨by rw [setCells_size]; exact hFp.size, fun b hb hlt => ⟨(s2 b (by omega)).trans (hFp.block b hlt (by omega)), by omega⟩⟩
      have HMf : Hid (MsgOk (W5.setCells (w.heap.size + 1) 0 [.int .i64 m.k, .int .i64 m.f, .int .i64 m.v, .int .i64 m.i, .int .i64 m.q, .int .i64 m.r, .slice Bb m.b.length db, .slice Bo m.o.length dd, .slice Bc m.c.length dc, .slice A5 k c5]) (fun b => w.heap.size ≤ b) ⟨m, .slice Bb m.b.length db, .slice Bo m.o.length dd, .slice Bc m.c.length dc, .slice A5 k c5⟩) :=
        Lib.hid ⟨RdP.keeps HMb2.out hkp, RdP.keeps HMo2.out hkp, HMc2.out.keeps hkp, (Hfin.out.keeps (Keeps.mono (P' := fun j => w.heap.size + 2 ≤ j) fun b _ hb => Nat.le_trans hwa hb)).keeps hkp⟩
      clear hkp s1 s2 he5 hFp hc4
      go_wp2_with (first | (refine wpList_store_mid rfl 27 (.tmp 2) (.tmp 44) rfl (w.heap.size + 1) 0 #[.int .i64 m.k, .int .i64 m.f, .int .i64 m.v, .int .i64 m.i, .int .i64 m.q, .int .i64 m.r, .slice Bb m.b.length db, .slice Bo m.o.length dd, .slice Bc m.c.length dc, .slice A5 k c5] rfl rfl Hth.out sizeM (by simp [Value.oneCell']) ?_))
      refine bodyPost_ret (v := .agg #[.int .i64 m.k, .int .i64 m.f, .int .i64 m.v, .int .i64 m.i, .int .i64 m.q, .int .i64 m.r, .slice Bb m.b.length db, .slice Bo m.o.length dd, .slice Bc m.c.length dc, .slice A5 k c5]) ?_ rfl ?_
      · exact results_cell_row Try.results25 _ _ (w.heap.size + 1) _ _ _ _ rfl T1.out Try.underlying27 rfl sizeM
      · refine ⟨Bb, Bo, Bc, A5, db, dd, dc, c5, ?_⟩
        rw [Hnn.out]
        exact ⟨rfl, HMf.out, T3.out⟩
end Go.Proofs.Ytljfoajhobambaa

