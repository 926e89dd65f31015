/- The walk of MsgsBodies. Printed by gen_wbodies.py. -/
import Derived.Test.YtljfoajhobambaaHv
import Derived.Test.YtljfoajhobambaaMr
import Derived.Test.YtljfoajhobambaaGf
namespace Go.Proofs.Ytljfoajhobambaa.msgsBodies
open Go.RowKit
set_option linter.unusedVariables false
set_option linter.unusedSimpArgs false

set_option maxRecDepth 100000 in
set_option maxHeartbeats 8000000 in
theorem walk (x : MsgV) (w : World) (hx : MsgOk w (fun b => b < w.heap.size) x ∧ wfMsg x.m) :
    Calls Try.prog 5 #[.agg (mv x).toArray] w fun e w' => e = .returned (.bool true) ∧ Below w.heap.size w w' := by
  obtain ⟨hx, -⟩ := hx
  obtain ⟨m, vb, vo, vc, vp⟩ := x
  obtain ⟨Ab, Ao, Ac, Ap, cb, co, cc, cp, rfl, rfl, rfl, rfl⟩ := msg_slices hx
  show Calls Try.prog 5 #[.agg #[.int .i64 m.k, .int .i64 m.f, .int .i64 m.v, .int .i64 m.i, .int .i64 m.q, .int .i64 m.r, .slice Ab m.b.length cb, .slice Ao m.o.length co, .slice Ac m.c.length cc, .slice Ap m.p.length cp]] w _
  have HX := Lib.hid hx
  clear hx
  have hb0 := alloc_below w (.cells #[.int .i64 m.k, .int .i64 m.f, .int .i64 m.v, .int .i64 m.i, .int .i64 m.q, .int .i64 m.r, .slice Ab m.b.length cb, .slice Ao m.o.length co, .slice Ac m.c.length cc, .slice Ap m.p.length cp] 27)
  have hc0 := heap_alloc_new w (.cells #[.int .i64 m.k, .int .i64 m.f, .int .i64 m.v, .int .i64 m.i, .int .i64 m.q, .int .i64 m.r, .slice Ab m.b.length cb, .slice Ao m.o.length co, .slice Ac m.c.length cc, .slice Ap m.p.length cp] 27)
  go_enter Try.func5, Try.ntmps5
  go_wp2_with fail
  obtain ⟨W, hW⟩ : ∃ W, w.alloc (.cells #[.int .i64 m.k, .int .i64 m.f, .int .i64 m.v, .int .i64 m.i, .int .i64 m.q, .int .i64 m.r, .slice Ab m.b.length cb, .slice Ao m.o.length co, .slice Ac m.c.length cc, .slice Ap m.p.length cp] 27) = W := ⟨_, rfl⟩
  rw [hW] at hb0 hc0 ⊢
  have HB0 := Lib.hid hb0
  have HC0 := Lib.hid hc0
  clear hW hb0 hc0
  refine (heavy_m m _ _ _ _ W _ (HX.out.keeps (Keeps.below HB0.out))).mono ?_
  rintro e w1 ⟨rfl, hb1⟩
  have HB1 := Lib.hid (Below.then HB0.out hb1 HB0.out.size)
  have HC1 := Lib.hid (box_below HC0.out hb1 (Nat.le_refl _))
  clear hb1 HB0 HC0
  cases hh : heavyM m with
  | true =>
    clear hh
    go_wp2_with fail
    refine (wakes06 _).mono ?_
    rintro e wz ⟨rfl, hbz⟩
    have HBz := Lib.hid (Below.then HB1.out hbz HB1.out.size)
    clear hbz
    go_wp2_with fail
    go_ret
    exact ⟨rfl, HBz.out⟩
  | false =>
    have Hl := Lib.hid (heavyM_no hh)
    clear hh
    obtain ⟨x0, x1, x2, x3, x4, x5, x6, x7, x8, x9⟩ := box_cells HC1.out
    go_wp2_with fail
    clear x0 x1 x2 x3 x4 x5 x6 x7 x8 x9
    refine (copy_m m _ _ _ _ w1 _ (HX.out.keeps (Keeps.below HB1.out)) Hl.out).mono ?_
    rintro e w2 ⟨Bb, Bo, Bc, Bp, db, dd, dc, dp, rfl, hm2, hb2⟩
    have HB2 := Lib.hid (Below.then HB1.out hb2 HB1.out.size)
    have HC2 := Lib.hid (box_below HC1.out hb2 (Nat.le_refl _))
    have HM2 := Lib.hid hm2
    clear hm2 hb2 HB1 HC1
    have hb3 := alloc_below w2 (.cells #[.int .i64 m.k, .int .i64 m.f, .int .i64 m.v, .int .i64 m.i, .int .i64 m.q, .int .i64 m.r, .slice Bb m.b.length db, .slice Bo m.o.length dd, .slice Bc m.c.length dc, .slice Bp m.p.length dp] 27)
    have hc3 := heap_alloc_new w2 (.cells #[.int .i64 m.k, .int .i64 m.f, .int .i64 m.v, .int .i64 m.i, .int .i64 m.q, .int .i64 m.r, .slice Bb m.b.length db, .slice Bo m.o.length dd, .slice Bc m.c.length dc, .slice Bp m.p.length dp] 27)
    obtain ⟨x0, x1, x2, x3, x4, x5, x6, x7, x8, x9⟩ := box_cells hc3
    go_wp2_with fail
    clear x0 x1 x2 x3 x4 x5 x6 x7 x8 x9
    obtain ⟨W3, hW3⟩ : ∃ W3, w2.alloc (.cells #[.int .i64 m.k, .int .i64 m.f, .int .i64 m.v, .int .i64 m.i, .int .i64 m.q, .int .i64 m.r, .slice Bb m.b.length db, .slice Bo m.o.length dd, .slice Bc m.c.length dc, .slice Bp m.p.length dp] 27) = W3 := ⟨_, rfl⟩
    rw [hW3] at hb3 hc3 ⊢
    have HB3 := Lib.hid (Below.then HB2.out hb3 HB2.out.size)
    have HC3 := Lib.hid (box_below HC2.out hb3 (Nat.le_refl _))
    have HD3 := Lib.hid hc3
    have HM3 := Lib.hid (HM2.out.keeps (Keeps.below hb3))
    clear hW3 hb3 hc3 HB2 HC2 HM2
    obtain ⟨b, hbb⟩ : ∃ b, res (Psp.encM m) (Psp.okB m) = b := ⟨_, rfl⟩
    obtain ⟨o, hoo⟩ : ∃ o, Psp.okB m = o := ⟨_, rfl⟩
    have Hbb := Lib.hid hbb
    have Hoo := Lib.hid hoo
    clear hbb hoo
    refine (body_m m _ _ _ _ W3 (HM3.out.keeps (Keeps.mono fun b hb _ => hb))).mono ?_
    intro e w4 h
    obtain ⟨A4, c4, rfl, hr4, hb4⟩ := Bytes.rdb h Hbb.out Hoo.out
    have HB4 := Lib.hid (Below.then HB3.out hb4 HB3.out.size)
    have HC4 := Lib.hid (box_below HC3.out hb4 (Nat.le_refl _))
    have HD4 := Lib.hid (box_below HD3.out hb4 (Nat.le_refl _))
    have HM4 := Lib.hid (HM3.out.keeps (Keeps.below hb4))
    have HR4 := Lib.hid hr4
    clear h hr4 hb4 HB3 HC3 HD3 HM3
    obtain ⟨x0, x1, x2, x3, x4, x5, x6, x7, x8, x9⟩ := box_cells HC4.out
    go_wp2_with fail
    clear x0 x1 x2 x3 x4 x5 x6 x7 x8 x9
    refine (rbody_m m _ _ _ _ w4 (HX.out.keeps (Keeps.on HB4.out))).mono ?_
    intro e w5 h
    obtain ⟨A5, c5, rfl, hr5, hb5⟩ := Bytes.rdb h Hbb.out Hoo.out
    have HB5 := Lib.hid (Below.then HB4.out hb5 HB4.out.size)
    have HC5 := Lib.hid (box_below HC4.out hb5 (Nat.le_refl _))
    have HD5 := Lib.hid (box_below HD4.out hb5 (Nat.le_refl _))
    have HM5 := Lib.hid (HM4.out.keeps (Keeps.below hb5))
    have HR45 := Lib.hid (HR4.out.keeps (Keeps.below hb5))
    have HR5 := Lib.hid hr5
    clear h hr5 hb5 HB4 HC4 HD4 HM4 HR4
    cases o with
    | false =>
      go_wp2_with fail
      refine (same_bytes _ _ _ _ b b w5 HR45.out.to_rd HR5.out.to_rd).mono ?_
      rintro e w6 ⟨rfl, q, rfl⟩
      rw [decide_eq_true rfl]
      obtain ⟨x0, x1, x2, x3, x4, x5, x6, x7, x8, x9⟩ := box_cells (W := w5.drewN q) HC5.out
      obtain ⟨y0, y1, y2, y3, y4, y5, y6, y7, y8, y9⟩ := box_cells (W := w5.drewN q) HD5.out
      go_wp2_with fail
      clear x0 x1 x2 x3 x4 x5 x6 x7 x8 x9 y0 y1 y2 y3 y4 y5 y6 y7 y8 y9
      have hdq : Below w5.heap.size w5 (w5.drewN q) := below_drewN (Below.refl _ _) q
      refine (msg_same_yes _ _ _ _ _ _ _ _ _ _ (w5.drewN q) _ _ (HM5.out.keeps (Keeps.below hdq)) (HX.out.keeps (Keeps.below (below_drewN HB5.out q))) rfl).mono ?_
      rintro e w7 ⟨rfl, hb7⟩
      have HB7 := Lib.hid (Below.then (below_drewN HB5.out q) hb7 (below_drewN HB5.out q).size)
      have HC7 := Lib.hid (box_below (show (w5.drewN q).heap[w.heap.size]? = _ from HC5.out) hb7 (Nat.le_refl _))
      have HR7 := Lib.hid ((HR45.out.keeps (Keeps.below hdq)).keeps (Keeps.below hb7))
      clear hb7 hdq HC5 HD5 HM5 HR45 HR5 HB5
      go_wp2_with fail
      refine (wakes06 _).mono ?_
      rintro e wz ⟨rfl, hbz⟩
      have HBz := Lib.hid (Below.then HB7.out hbz HB7.out.size)
      clear hbz
      go_wp2_with fail
      go_ret
      exact ⟨rfl, HBz.out⟩
    | true =>
      go_wp2_with fail
      refine (same_bytes _ _ _ _ b b w5 HR45.out.to_rd HR5.out.to_rd).mono ?_
      rintro e w6 ⟨rfl, q, rfl⟩
      rw [decide_eq_true rfl]
      obtain ⟨x0, x1, x2, x3, x4, x5, x6, x7, x8, x9⟩ := box_cells (W := w5.drewN q) HC5.out
      obtain ⟨y0, y1, y2, y3, y4, y5, y6, y7, y8, y9⟩ := box_cells (W := w5.drewN q) HD5.out
      go_wp2_with fail
      clear x0 x1 x2 x3 x4 x5 x6 x7 x8 x9 y0 y1 y2 y3 y4 y5 y6 y7 y8 y9
      have hdq : Below w5.heap.size w5 (w5.drewN q) := below_drewN (Below.refl _ _) q
      refine (msg_same_yes _ _ _ _ _ _ _ _ _ _ (w5.drewN q) _ _ (HM5.out.keeps (Keeps.below hdq)) (HX.out.keeps (Keeps.below (below_drewN HB5.out q))) rfl).mono ?_
      rintro e w7 ⟨rfl, hb7⟩
      have HB7 := Lib.hid (Below.then (below_drewN HB5.out q) hb7 (below_drewN HB5.out q).size)
      have HC7 := Lib.hid (box_below (show (w5.drewN q).heap[w.heap.size]? = _ from HC5.out) hb7 (Nat.le_refl _))
      have HR7 := Lib.hid ((HR45.out.keeps (Keeps.below hdq)).keeps (Keeps.below hb7))
      clear hb7 hdq HC5 HD5 HM5 HR45 HR5 HB5
      have hbm : b = Psp.encM m := by have h := Hbb.out; rw [Hoo.out] at h; exact h.symm
      have hbl : b.length ≤ 65536 := by rw [hbm]; exact encM_le Hoo.out
      have hb1 : 1 ≤ b.length := by
        rw [hbm]
        have h := Hoo.out
        unfold Psp.okB at h
        rw [Bool.and_eq_true] at h
        exact Psp.encM_pos h.1
      have Hpb : Hid (Psp.parseM b = some m) := Lib.hid (by rw [hbm]; exact Psp.parse_back Hoo.out)
      clear hbm
      go_wp2_with fail
      refine (copy_bytes _ _ (b.map bv) w7 HR7.out.to_rd (fun u hu => by obtain ⟨z, _, rfl⟩ := List.mem_map.1 hu; rfl) (by omega)).mono ?_
      rintro e w8 ⟨v8, rfl, hown8, hb8⟩
      have hcur := hown8.2
      rcases hcur with ⟨_, h0⟩ | ⟨g, cap, cur, hv8, hg8, hcur, hcap1, hcap2, hcs, _⟩
      · omega
      subst hv8
      have HB8 := Lib.hid (Below.then HB7.out hb8 HB7.out.size)
      have HC8 := Lib.hid (box_below HC7.out hb8 (Nat.le_refl _))
      have HO8 := Lib.hid ((RdP.of_own hown8).mono (P' := fun k => k < w8.heap.size) fun k hk _ => hk)
      have HG8 := Lib.hid hcur
      have hz8 := hb8.size
      have hz7 := HB7.out.size
      have hlt7 := (Array.getElem?_eq_some_iff.1 HC7.out).1
      clear hb8 hown8 hcur HC7 HR7 HB7
      go_wp2_with fail
      refine (parse_m b _ w8 HO8.out).mono ?_
      rintro e w9 ⟨h1, _, hb9⟩
      obtain ⟨vb, vo, vc, vp, he, hm9⟩ := h1 m Hpb.out
      subst he
      obtain ⟨Db, Do, Dc, Dp, eb, eo, ec, ep, rfl, rfl, rfl, rfl⟩ := msg_slices hm9
      have HB9 := Lib.hid (Below.then HB8.out hb9 HB8.out.size)
      have HC9 := Lib.hid (box_below HC8.out hb9 (Nat.le_refl _))
      have HG9 := Lib.hid (box_below HG8.out hb9 (Nat.le_refl _))
      have HM9 := Lib.hid hm9
      have hz9 := hb9.size
      have hgl : g < w8.heap.size := (Array.getElem?_eq_some_iff.1 HG8.out).1
      clear h1 hb9 hm9 HC8 HG8 HB8 HO8 Hpb
      have hb10 := alloc_below w9 (.cells #[.int .i64 m.k, .int .i64 m.f, .int .i64 m.v, .int .i64 m.i, .int .i64 m.q, .int .i64 m.r, .slice Db m.b.length eb, .slice Do m.o.length eo, .slice Dc m.c.length ec, .slice Dp m.p.length ep] 27)
      have hc10 := heap_alloc_new w9 (.cells #[.int .i64 m.k, .int .i64 m.f, .int .i64 m.v, .int .i64 m.i, .int .i64 m.q, .int .i64 m.r, .slice Db m.b.length eb, .slice Do m.o.length eo, .slice Dc m.c.length ec, .slice Dp m.p.length ep] 27)
      go_wp2_with fail
      obtain ⟨Wl, hWl⟩ : ∃ W, w9.alloc (.cells #[.int .i64 m.k, .int .i64 m.f, .int .i64 m.v, .int .i64 m.i, .int .i64 m.q, .int .i64 m.r, .slice Db m.b.length eb, .slice Do m.o.length eo, .slice Dc m.c.length ec, .slice Dp m.p.length ep] 27) = W := ⟨_, rfl⟩
      rw [hWl] at hb10 hc10 ⊢
      have HBl := Lib.hid (Below.then HB9.out hb10 HB9.out.size)
      have HCl := Lib.hid (box_below HC9.out hb10 (Nat.le_refl _))
      have HGl := Lib.hid (box_below HG9.out hb10 (Nat.le_refl _))
      have HYl := Lib.hid hc10
      have HMl := Lib.hid (HM9.out.keeps (Keeps.below hb10))
      have hzl := hb10.size
      have hwl := HBl.out.size
      clear hWl hb10 hc10 HC9 HG9 HM9 HB9
      obtain ⟨n, hn⟩ : ∃ n, b.length = n := ⟨_, rfl⟩
      have hcl := (Array.getElem?_eq_some_iff.1 HCl.out).1
      have hyl := (Array.getElem?_eq_some_iff.1 HYl.out).1
      have hgw : w.heap.size < g := by omega
      rw [hn] at hcap1 hbl hb1 ⊢
      rw [Nat.mul_one] at hcs
      go_loopw [54] (fun i wr => ∃ (k : Nat) (cs : Array Value), i = .int .i64 (k : Int) ∧ k ≤ n ∧ wr.heap[g]? = some (.cells cs 5 (0, 0)) ∧ cs.size = cap ∧ Hid (Fp (fun j => j = g) Wl wr)) (fun i _ => n - (intOf i).toNat)
      case atStart => exact ⟨0, cur, rfl, Nat.zero_le _, HGl.out, hcs, Lib.hid (Fp.refl _ _)⟩
      case round =>
        obtain ⟨k, cs, rfl, hk, hh, hsz, HF⟩ := hrel
        by_cases hlt : k < n
        · have kb0 : (0 : Int) ≤ (k : Int) := by omega
          have kb1 : (k : Int) < (n : Int) := by omega
          obtain ⟨u, hu⟩ : ∃ u, cs[k]? = some u := ⟨cs[k]'(by omega), Array.getElem?_eq_getElem (by omega)⟩
          have c0 : wr.cell? ⟨g, k, none⟩ = some u := by rw [cell_of_row _ _ k _ _ _ hh]; exact hu
          have f0 := frozen_of_row _ _ k _ _ hh
          have Hh := Lib.hid hh
          clear hh
          go_wp2_with fail
          refine ⟨⟨k + 1, _, by go_num, by omega, heap_setCell_same wr g k _ _ _ Hh.out, by simp [hsz], Lib.hid (HF.out.setCell (p := ⟨g, k, none⟩) (Or.inl (show g = g from rfl)) _)⟩, ?_⟩
          simp [intOf]; omega
        · have HCr : wr.heap[w.heap.size]? = _ := (HF.out.block _ hcl (by omega)).trans HCl.out
          have HYr : wr.heap[w9.heap.size]? = _ := (HF.out.block _ hyl (by omega)).trans HYl.out
          have HBr := Lib.hid (HBl.out.trans (HF.out.to_below (B := w.heap.size) hwl fun j hj _ => by omega))
          have HMr := Lib.hid ((HMl.out.keeps (Keeps.mono (P' := fun j => w8.heap.size ≤ j) fun j _ hj => hj)).keeps (P' := fun _ => True) ⟨HF.out.size, fun j (hj : w8.heap.size ≤ j) hlt => ⟨HF.out.block j hlt (by omega), trivial⟩⟩)
          obtain ⟨x0, x1, x2, x3, x4, x5, x6, x7, x8, x9⟩ := box_cells HCr
          obtain ⟨y0, y1, y2, y3, y4, y5, y6, y7, y8, y9⟩ := box_cells HYr
          clear HCr HYr hh
          go_wp2_with fail
          clear x0 x1 x2 x3 x4 x5 x6 x7 x8 x9 y0 y1 y2 y3 y4 y5 y6 y7 y8 y9
          refine (msg_same_yes _ _ _ _ _ _ _ _ _ _ wr _ _ HMr.out (HX.out.keeps (Keeps.below HBr.out)) rfl).mono ?_
          rintro e v1 ⟨rfl, hv1⟩
          have HBs := Lib.hid (Below.then HBr.out hv1 HBr.out.size)
          clear hv1
          go_wp2_with fail
          refine (wakes06 _).mono ?_
          rintro e wz ⟨rfl, hbz⟩
          have HBz := Lib.hid (Below.then HBs.out hbz HBs.out.size)
          clear hbz
          go_wp2_with fail
          go_ret
          exact ⟨rfl, HBz.out⟩

end Go.Proofs.Ytljfoajhobambaa.msgsBodies

