/- The reference's form: parts. Printed by gen_rf5.py. -/
import Derived.Test.YtljfoajhobambaaRf4
import Derived.Test.YtljfoajhobambaaFp4
import Derived.Test.YtljfoajhobambaaFg
namespace Go.Proofs.Ytljfoajhobambaa
open Go.RowKit
set_option linter.unusedVariables false
set_option linter.unusedSimpArgs false

/-- The message's box. -/
structure Mk (w0 W : World) (cs : Array Value) : Prop where
  box : W.heap[w0.heap.size]? = some (.cells cs 27 (0, 0))
  be : Below w0.heap.size w0 W
theorem Mk.new (w : World) (cs : Array Value) : Mk w (w.alloc (.cells cs 27)) cs := ⟨heap_alloc_new w _, alloc_below w _⟩
theorem Mk.below {w0 W W' : World} {cs : Array Value} (h : Mk w0 W cs) (hb : Below W.heap.size W W') : Mk w0 W' cs := ⟨box_below' h.box hb, Below.then h.be hb h.be.size⟩
theorem Mk.cell {w0 W : World} {cs : Array Value} (h : Mk w0 W cs) {j : Nat} {u : Value} (hj : cs[j]? = some u) : W.cell? ⟨w0.heap.size, j, none⟩ = some u := by
  rw [cell_of_row _ _ j _ _ _ h.box]; exact hj

set_option maxRecDepth 100000 in
set_option maxHeartbeats 16000000 in
theorem rparts_l (m : Psp.Msg) (vb vo vc vp : Value) (f cl : Int) (w : World) (P : Nat → Prop) (hx : MsgOk w P ⟨m, vb, vo, vc, vp⟩) (hwc : ∀ c ∈ m.p, wfPart c) :
    Calls Try.prog 71 #[.agg #[.int .i64 m.k, .int .i64 m.f, .int .i64 m.v, .int .i64 m.i, .int .i64 m.q, .int .i64 m.r, vb, vo, vc, vp], .int .i64 f, .int .i64 cl] w fun e w' => e = .returned (.bool (Psp.partsB m.v m.p f cl)) ∧ Below w.heap.size w w' := by
  obtain ⟨view, hview⟩ : ∃ v, m.v = v := ⟨_, rfl⟩
  have o0 : vb.oneCell' = true := RdP.one hx.1
  have o1 : vo.oneCell' = true := RdP.one hx.2.1
  have o2 : vc.oneCell' = true := hx.2.2.1.one
  obtain ⟨l, hl⟩ : ∃ l, m.p = l := ⟨_, rfl⟩
  obtain ⟨L, hL, hr, hcs⟩ := hx.2.2.2
  dsimp only at hL hr
  rw [hl] at hL hwc
  rw [hl, hview]
  obtain ⟨n, hn⟩ : ∃ n, L.length = n := ⟨_, rfl⟩
  rw [hn] at hr
  obtain ⟨_, Ac, cc, rfl, hc1, hc2, _⟩ := hr.parts
  have HR := Lib.hid hr
  have Hcs := Lib.hid hcs
  have Hn := Lib.hid hn
  have HLm := Lib.hid hL
  have Hwc := Lib.hid hwc
  obtain ⟨Ab, cb0, eb⟩ : ∃ A c, vb = .slice A m.b.length c := by obtain ⟨_, A, c, e, _⟩ := hx.1; exact ⟨A, c, e⟩
  obtain ⟨Ao, co0, eo⟩ : ∃ A c, vo = .slice A m.o.length c := by obtain ⟨_, A, c, e, _⟩ := hx.2.1; exact ⟨A, c, e⟩
  obtain ⟨Acc, nc0, cc0, ec⟩ := hx.2.2.1.form
  subst eb eo
  dsimp only at ec
  subst ec
  have HL0 := Lib.hid (Mk.new w #[.int .i64 m.k, .int .i64 m.f, .int .i64 m.v, .int .i64 m.i, .int .i64 m.q, .int .i64 m.r, .slice Ab m.b.length cb0, .slice Ao m.o.length co0, .slice Acc nc0 cc0, .slice Ac n cc])
  have Hll : Hid (l.length = n) := Lib.hid (by rw [← hL, List.length_map, hn])
  obtain ⟨q, hq⟩ : ∃ q, Psp.quorum f = q := ⟨_, rfl⟩
  obtain ⟨hq0, hq1⟩ := Psp.quorum_bd f
  rw [hq] at hq0 hq1
  have HB : Hid (∀ W : World, Calls Try.prog 94 #[.int .i64 f] W fun e w' => e = .returned (.int .i64 q) ∧ W = w') := Lib.hid fun W => by rw [← hq]; exact r_quorum_any f W
  have Hq := Lib.hid hq
  obtain ⟨nn, hnn⟩ : ∃ x, Psp.nodes f = x := ⟨_, rfl⟩
  have HNB : Hid (∀ x, Psp.nodeB x f = Psp.win x 0 (nn - 1)) := Lib.hid fun x => by unfold Psp.nodeB; rw [hnn]
  obtain ⟨hn0, hn1⟩ := Psp.nodes_bd f
  rw [hnn] at hn0 hn1
  have HN : Hid (∀ W : World, Calls Try.prog 64 #[.int .i64 f] W fun e w' => e = .returned (.int .i64 nn) ∧ W = w') := Lib.hid fun W => by rw [← hnn]; exact r_nodes_any f W
  clear hr hcs hn hL hwc hq hnn hx hl
  go_enter Try.func71, Try.ntmps71
  go_wp2_with fail
  rw [hview] at HL0
  obtain ⟨W0, hW0⟩ : ∃ W, w.alloc (.cells #[.int .i64 m.k, .int .i64 m.f, .int .i64 view, .int .i64 m.i, .int .i64 m.q, .int .i64 m.r, .slice Ab m.b.length cb0, .slice Ao m.o.length co0, .slice Acc nc0 cc0, .slice Ac n cc] 27) = W := ⟨_, rfl⟩
  rw [hW0] at HL0 ⊢
  clear hW0 hview
  have m9 := later_cell (show W0.cell? ⟨w.heap.size, 9, none⟩ = some (.slice Ac n cc) from HL0.out.cell (j := 9) rfl)
  have HBp : Hid (∀ p : Later W0, Calls Try.prog 94 #[.int .i64 f] p.W fun e w' => e = .returned (.int .i64 q) ∧ p.W = w') := Lib.hid fun p => HB.out _
  by_cases hnq : (n : Int) = q
  case' neg =>
    have d0 : ((n : Int) != q) = true := by rw [bne_iff_ne]; exact hnq
    have Hf : Hid (Psp.partsB view l f cl = false) := Lib.hid (by unfold Psp.partsB; rw [decide_eq_false (by rw [Hll.out, Hq.out]; exact hnq)]; rfl)
    refine wp_region_later (by kernel_rfl) (by kernel_rfl) ?_
    repeat (first | go_big_quiet_step ((go_at_call 94; exact later_same _ (HBp.out _))) | quiet_step ((go_at_call 94; exact later_same _ (HBp.out _))))
    refine wpQuiet_nil ?_
    intro w2 hw'
    obtain ⟨⟨wq, hbq⟩, hw'⟩ := hw'
    have hb2 : Below W0.heap.size W0 w2 := by rw [hw']; exact hbq
    clear hw' hbq
    have HL1 := Lib.hid (HL0.out.below hb2)
    clear hb2 m9
    go_wp2_with fail
    go_ret
    exact ⟨by rw [Hf.out]; rfl, HL1.out.be⟩
  have d0 : ((n : Int) != q) = false := by rw [hnq]; simp
  have Hnq := Lib.hid hnq
  clear hnq
  refine wp_region_later (by kernel_rfl) (by kernel_rfl) ?_
  repeat (first | go_big_quiet_step ((go_at_call 94; exact later_same _ (HBp.out _))) | quiet_step ((go_at_call 94; exact later_same _ (HBp.out _))))
  refine wpQuiet_nil ?_
  intro w2 hw'
  obtain ⟨⟨wq, hbq⟩, hw'⟩ := hw'
  have hb2 : Below W0.heap.size W0 w2 := by rw [hw']; exact hbq
  clear hw' hbq
  have HL1 := Lib.hid (HL0.out.below hb2)
  clear hb2 m9
  go_wp2_with fail
  clear d0
  go_loopw [7] (fun i wr => ∃ k : Nat, i = .int .i64 (k : Int) ∧ k ≤ n ∧ Hid (∀ (j : Nat) (y : Psp.Part), j < k → l[j]? = some y → Psp.partB view y f cl = true) ∧ Hid (∀ (j : Nat) (x y : Psp.Part), j + 1 < k → l[j]? = some x → l[j + 1]? = some y → x.f < y.f) ∧ Hid (Mk w wr #[.int .i64 m.k, .int .i64 m.f, .int .i64 view, .int .i64 m.i, .int .i64 m.q, .int .i64 m.r, .slice Ab m.b.length cb0, .slice Ao m.o.length co0, .slice Acc nc0 cc0, .slice Ac n cc])) (fun i _ => n - (intOf i).toNat)
  case atStart => exact ⟨0, rfl, Nat.zero_le _, Lib.hid fun j y hj => by omega, Lib.hid fun j x y hj => by omega, HL1⟩
  case round =>
    clear HL0 HL1
    obtain ⟨k, rfl, hk, HI, HJ, HL⟩ := hrel
    have m9 : wr.cell? ⟨w.heap.size, 9, none⟩ = some (.slice Ac n cc) := HL.out.cell (j := 9) rfl
    by_cases hlt : k < n
    · obtain ⟨b0, o0', c0, y, he, hb0, hb1, hy, hel⟩ := rd_elem (f := pv) (k := 4) (fun _ => rfl) (by omega) HR.out Hn.out hlt
      injection he with he1 _ he2
      subst he1 he2
      have hok := Hcs.out y (List.mem_of_getElem? hy)
      obtain ⟨py, yo, yc⟩ := y
      obtain ⟨_, A1, c1, e1, _⟩ := RdP.parts hok.1
      obtain ⟨Lc, hk1, hk2, hk3⟩ := hok.2
      obtain ⟨_, A2, c2, e2, _⟩ := RdP.parts hk2
      dsimp only at e1 e2
      subst e1 e2
      have hq : wr.rangeAt b0 (o0' + k * 4) [.int .i64 py.f, .slice A1 py.o.length c1, .slice A2 Lc.length c2, .int .i64 py.s] := hel wr (HL.out.be.block b0 hb1)
      have HQ := Lib.hid hq
      have hyl : l[k]? = some py := by have := map_get (g := PartV.p) hy; rwa [HLm.out] at this
      have Hy := Lib.hid hyl
      have Hok := Lib.hid (show RdV w P (.slice A1 py.o.length c1) py.o ∧ RdC w P (.slice A2 Lc.length c2) py.c from ⟨hok.1, ⟨Lc, hk1, hk2, hk3⟩⟩)
      have hwp := Hwc.out py (List.mem_of_getElem? hyl)
      have Hwy := Lib.hid hwp
      have d1 : decide ((k : Int) < (n : Int)) = true := by simp; omega
      clear hel hyl hok hq hk1 hk2 hk3 hwp
      go_upto_region 7 with (first | (refine list_load rfl 54 (.tmp 25) rfl b0 (o0' + k * 4) rfl [.int .i64 py.f, .slice A1 py.o.length c1, .slice A2 Lc.length c2, .int .i64 py.s] _ HQ.out Try.underlying54 rfl sizeP ?_) | (refine list_store_new rfl 54 (.tmp 8) (.tmp 26) rfl _ _ [.int .i64 py.f, .slice A1 py.o.length c1, .slice A2 Lc.length c2, .int .i64 py.s] rfl rfl rfl sizeP (by simp [Value.oneCell']) ?_; intro w1 hbw hr1 hs1))
      clear m9
      have HL1 := Lib.hid (HL.out.below hbw)
      have v9 := later_cell (show w1.cell? ⟨w.heap.size, 9, none⟩ = some (.slice (some ⟨b0, o0', none⟩) n cc) from HL1.out.cell (j := 9) rfl)
      have v2 := later_cell (show w1.cell? ⟨w.heap.size, 2, none⟩ = some (.int .i64 view) from HL1.out.cell (j := 2) rfl)
      have x0 := later_cell (show w1.cell? ⟨wr.heap.size, 0, none⟩ = some (.int .i64 py.f) by have := hr1 0 _ rfl; simpa using this)
      have x1 := later_cell (show w1.cell? ⟨wr.heap.size, 1, none⟩ = some (.slice A1 py.o.length c1) by have := hr1 1 _ rfl; simpa using this)
      have x2 := later_cell (show w1.cell? ⟨wr.heap.size, 2, none⟩ = some (.slice A2 Lc.length c2) by have := hr1 2 _ rfl; simpa using this)
      have x3 := later_cell (show w1.cell? ⟨wr.heap.size, 3, none⟩ = some (.int .i64 py.s) by have := hr1 3 _ rfl; simpa using this)
      obtain ⟨cb, hcb⟩ : ∃ x, Psp.changeB view py.o py.c f cl = x := ⟨_, rfl⟩
      have HCN : Hid (∀ p : Later w1, Calls Try.prog 64 #[.int .i64 f] p.W fun e w' => e = .returned (.int .i64 nn) ∧ p.W = w') := Lib.hid fun p => HN.out _
      have HCC : Hid (∀ p : Later w1, Calls Try.prog 70 #[.int .i64 view, .slice A1 py.o.length c1, .slice A2 Lc.length c2, .int .i64 f, .int .i64 cl] p.W fun e w' => e = .returned (.bool cb) ∧ Below p.W.heap.size p.W w') := Lib.hid fun p => by
        rw [← hcb]
        have hb := (HL1.out.below p.h).be
        exact rchange_l view py.o py.c _ _ f cl p.W P (RdV.keeps' Hok.out.1 (Keeps.below hb)) (Hok.out.2.keeps (Keeps.below hb)) Hwy.out.2.1 Hwy.out.2.2.1
      have Hpb : Hid (Psp.partB view py f cl = (Psp.win py.f 0 (nn - 1) && (Psp.win py.s 0 1099511627775 && cb))) := Lib.hid (by unfold Psp.partB Psp.sealB; rw [HNB.out, hcb])
      clear hbw hr1 HQ hs1 hcb Hok Hwy HL
      by_cases hf0 : py.f < 0
      · have df0 : decide (py.f < 0) = true := decide_eq_true hf0
        have Hf := Lib.hid (partsB_not (view := view) Hy.out (by rw [Hpb.out, (Psp.win_no _ _ _).2 (by omega)]; rfl))
        clear HI HJ
        refine wp_region_later (by kernel_rfl) (by kernel_rfl) ?_
        repeat (first | go_big_quiet_step (first | (go_at_call 64; exact later_same _ (HCN.out _)) | (go_at_call 70; exact later_call _ (HCC.out _))) | quiet_step (first | (go_at_call 64; exact later_same _ (HCN.out _)) | (go_at_call 70; exact later_call _ (HCC.out _))))
        refine wpQuiet_nil ?_
        intro w2 hw'
        obtain ⟨⟨wq, hbq⟩, hw'⟩ := hw'
        have hb2 : Below w1.heap.size w1 w2 := by rw [hw']; exact hbq
        clear hw' hbq
        have HL2 := Lib.hid (HL1.out.below hb2)
        clear hb2
        go_wp2_with fail
        go_ret
        exact ⟨by rw [Hf.out]; rfl, HL2.out.be⟩
      have df0 : decide (py.f < 0) = false := decide_eq_false hf0
      by_cases hf1 : nn ≤ py.f
      · have df1 : decide (py.f ≥ nn) = true := decide_eq_true hf1
        have Hf := Lib.hid (partsB_not (view := view) Hy.out (by rw [Hpb.out, (Psp.win_no _ _ _).2 (by omega)]; rfl))
        clear HI HJ
        refine wp_region_later (by kernel_rfl) (by kernel_rfl) ?_
        repeat (first | go_big_quiet_step (first | (go_at_call 64; exact later_same _ (HCN.out _)) | (go_at_call 70; exact later_call _ (HCC.out _))) | quiet_step (first | (go_at_call 64; exact later_same _ (HCN.out _)) | (go_at_call 70; exact later_call _ (HCC.out _))))
        refine wpQuiet_nil ?_
        intro w2 hw'
        obtain ⟨⟨wq, hbq⟩, hw'⟩ := hw'
        have hb2 : Below w1.heap.size w1 w2 := by rw [hw']; exact hbq
        clear hw' hbq
        have HL2 := Lib.hid (HL1.out.below hb2)
        clear hb2
        go_wp2_with fail
        go_ret
        exact ⟨by rw [Hf.out]; rfl, HL2.out.be⟩
      have df1 : decide (py.f ≥ nn) = false := decide_eq_false (by omega)
      have hwf := (Psp.win_iff py.f 0 (nn - 1)).2 ⟨by omega, by omega⟩
      have Hpb2 : Hid (Psp.partB view py f cl = (Psp.win py.s 0 1099511627775 && cb)) := Lib.hid (by rw [Hpb.out, hwf]; rfl)
      clear hwf Hpb hf0 hf1
      by_cases hk0 : k = 0
      · subst hk0
        have d2 : decide (((0 : Nat) : Int) > 0) = false := by simp
        have HJ2 : Hid (∀ (j : Nat) (x y : Psp.Part), j + 1 < 0 + 1 → l[j]? = some x → l[j + 1]? = some y → x.f < y.f) := Lib.hid fun j x z hj => by omega
        clear HJ
        by_cases hs0 : py.s < 0
        · have ds0 : decide (py.s < 0) = true := decide_eq_true hs0
          have Hf := Lib.hid (partsB_not (view := view) Hy.out (by rw [Hpb2.out, (Psp.win_no _ _ _).2 (by omega)]; rfl))
          refine wp_region_later (by kernel_rfl) (by kernel_rfl) ?_
          repeat (first | go_big_quiet_step (first | (go_at_call 64; exact later_same _ (HCN.out _)) | (go_at_call 70; exact later_call _ (HCC.out _))) | quiet_step (first | (go_at_call 64; exact later_same _ (HCN.out _)) | (go_at_call 70; exact later_call _ (HCC.out _))))
          refine wpQuiet_nil ?_
          intro w2 hw'
          obtain ⟨⟨wq, hbq⟩, hw'⟩ := hw'
          have hb2 : Below w1.heap.size w1 w2 := by rw [hw']; exact hbq
          clear hw' hbq
          have HL2 := Lib.hid (HL1.out.below hb2)
          clear hb2
          go_wp2_with fail
          go_ret
          exact ⟨by rw [Hf.out]; rfl, HL2.out.be⟩
        have ds0 : decide (py.s < 0) = false := decide_eq_false hs0
        by_cases hs1 : 1099511627776 ≤ py.s
        · have ds1 : decide (py.s ≥ 1099511627776) = true := decide_eq_true hs1
          have Hf := Lib.hid (partsB_not (view := view) Hy.out (by rw [Hpb2.out, (Psp.win_no _ _ _).2 (by omega)]; rfl))
          refine wp_region_later (by kernel_rfl) (by kernel_rfl) ?_
          repeat (first | go_big_quiet_step (first | (go_at_call 64; exact later_same _ (HCN.out _)) | (go_at_call 70; exact later_call _ (HCC.out _))) | quiet_step (first | (go_at_call 64; exact later_same _ (HCN.out _)) | (go_at_call 70; exact later_call _ (HCC.out _))))
          refine wpQuiet_nil ?_
          intro w2 hw'
          obtain ⟨⟨wq, hbq⟩, hw'⟩ := hw'
          have hb2 : Below w1.heap.size w1 w2 := by rw [hw']; exact hbq
          clear hw' hbq
          have HL2 := Lib.hid (HL1.out.below hb2)
          clear hb2
          go_wp2_with fail
          go_ret
          exact ⟨by rw [Hf.out]; rfl, HL2.out.be⟩
        have ds1 : decide (py.s ≥ 1099511627776) = false := decide_eq_false (by omega)
        have hws := (Psp.win_iff py.s 0 1099511627775).2 ⟨by omega, by omega⟩
        cases cb with
        | false =>
          have Hf := Lib.hid (partsB_not (view := view) Hy.out (by rw [Hpb2.out, hws]; rfl))
          clear hws
          refine wp_region_later (by kernel_rfl) (by kernel_rfl) ?_
          repeat (first | go_big_quiet_step (first | (go_at_call 64; exact later_same _ (HCN.out _)) | (go_at_call 70; exact later_call _ (HCC.out _))) | quiet_step (first | (go_at_call 64; exact later_same _ (HCN.out _)) | (go_at_call 70; exact later_call _ (HCC.out _))))
          refine wpQuiet_nil ?_
          intro w2 hw'
          obtain ⟨⟨wq, hbq⟩, hw'⟩ := hw'
          have hb2 : Below w1.heap.size w1 w2 := by rw [hw']; exact hbq
          clear hw' hbq
          have HL2 := Lib.hid (HL1.out.below hb2)
          clear hb2
          go_wp2_with fail
          go_ret
          exact ⟨by rw [Hf.out]; rfl, HL2.out.be⟩
        | true =>
          have HI2 : Hid (∀ (j : Nat) (z : Psp.Part), j < 0 + 1 → l[j]? = some z → Psp.partB view z f cl = true) := Lib.hid fun j z hj hz => by
            by_cases he : j = 0
            · subst he; have e1 := Hy.out.symm.trans hz; injection e1 with e1; subst e1; rw [Hpb2.out, hws]; rfl
            · exact HI.out j z (by omega) hz
          clear HI hws
          refine wp_region_later (by kernel_rfl) (by kernel_rfl) ?_
          repeat (first | go_big_quiet_step (first | (go_at_call 64; exact later_same _ (HCN.out _)) | (go_at_call 70; exact later_call _ (HCC.out _))) | quiet_step (first | (go_at_call 64; exact later_same _ (HCN.out _)) | (go_at_call 70; exact later_call _ (HCC.out _))))
          refine wpQuiet_nil ?_
          intro w2 hw'
          obtain ⟨⟨wq, hbq⟩, hw'⟩ := hw'
          have hb2 : Below w1.heap.size w1 w2 := by rw [hw']; exact hbq
          clear hw' hbq
          have HL2 := Lib.hid (HL1.out.below hb2)
          clear hb2
          go_wp2_with fail
          first
            | (go_roundw
               case rel => exact ⟨0 + 1, by go_num, by omega, HI2, HJ2, HL2⟩
               case measure => simp [intOf]; omega)
            | (refine ⟨⟨0 + 1, by go_num, by omega, HI2, HJ2, HL2⟩, ?_⟩
               simp [intOf]; omega)
      · obtain ⟨p, rfl⟩ : ∃ p, k = p + 1 := ⟨k - 1, by omega⟩
        obtain ⟨b3, o3, c3, z, he, _, _, hz, hel⟩ := rd_elem (f := pv) (k := 4) (fun _ => rfl) (by omega) HR.out Hn.out (show p < n by omega)
        injection he with he1 _ he2
        injection he1 with he1
        injection he1 with he3 he4
        subst he3 he4 he2
        have hrg := hel w1 (HL1.out.be.block b0 hb1)
        have pf := later_cell (show w1.cell? ⟨b0, o0' + p * 4, none⟩ = some (.int .i64 z.p.f) from hrg 0 _ rfl)
        have hzl : l[p]? = some z.p := by have := map_get (g := PartV.p) hz; rwa [HLm.out] at this
        obtain ⟨cz, hcz⟩ : ∃ cz, z.p = cz := ⟨_, rfl⟩
        rw [hcz] at pf hzl
        have Hz := Lib.hid hzl
        have d2 : decide (((p + 1 : Nat) : Int) > 0) = true := by rw [decide_eq_true_eq]; omega
        have z1 : ((p + 1 : Nat) : Int) - 1 = (p : Int) := by omega
        clear hel hrg hz hzl hcz hk0
        by_cases h1 : py.f ≤ cz.f
        · have d3 : decide (py.f ≤ cz.f) = true := decide_eq_true h1
          have Hf := Lib.hid (partsB_down (view := view) (f := f) (cl := cl) Hz.out Hy.out (by omega))
          clear HJ
          refine wp_region_later (by kernel_rfl) (by kernel_rfl) ?_
          repeat (first | go_big_quiet_step (first | (go_at_call 64; exact later_same _ (HCN.out _)) | (go_at_call 70; exact later_call _ (HCC.out _))) | quiet_step (first | (go_at_call 64; exact later_same _ (HCN.out _)) | (go_at_call 70; exact later_call _ (HCC.out _))))
          refine wpQuiet_nil ?_
          intro w2 hw'
          obtain ⟨⟨wq, hbq⟩, hw'⟩ := hw'
          have hb2 : Below w1.heap.size w1 w2 := by rw [hw']; exact hbq
          clear hw' hbq
          have HL2 := Lib.hid (HL1.out.below hb2)
          clear hb2
          go_wp2_with fail
          go_ret
          exact ⟨by rw [Hf.out]; rfl, HL2.out.be⟩
        · have d3 : decide (py.f ≤ cz.f) = false := decide_eq_false h1
          have Hlt : Hid (cz.f < py.f) := Lib.hid (by omega)
          have HJ2 : Hid (∀ (j : Nat) (x t : Psp.Part), j + 1 < p + 1 + 1 → l[j]? = some x → l[j + 1]? = some t → x.f < t.f) := Lib.hid fun j x t hj hx ht => by
            by_cases he : j = p
            · subst he
              have e1 := Hz.out.symm.trans hx
              have e2 := Hy.out.symm.trans ht
              injection e1 with e1
              injection e2 with e2
              subst e1 e2
              exact Hlt.out
            · exact HJ.out j x t (by omega) hx ht
          clear HJ Hlt
          by_cases hs0 : py.s < 0
          · have ds0 : decide (py.s < 0) = true := decide_eq_true hs0
            have Hf := Lib.hid (partsB_not (view := view) Hy.out (by rw [Hpb2.out, (Psp.win_no _ _ _).2 (by omega)]; rfl))
            refine wp_region_later (by kernel_rfl) (by kernel_rfl) ?_
            repeat (first | go_big_quiet_step (first | (go_at_call 64; exact later_same _ (HCN.out _)) | (go_at_call 70; exact later_call _ (HCC.out _))) | quiet_step (first | (go_at_call 64; exact later_same _ (HCN.out _)) | (go_at_call 70; exact later_call _ (HCC.out _))))
            refine wpQuiet_nil ?_
            intro w2 hw'
            obtain ⟨⟨wq, hbq⟩, hw'⟩ := hw'
            have hb2 : Below w1.heap.size w1 w2 := by rw [hw']; exact hbq
            clear hw' hbq
            have HL2 := Lib.hid (HL1.out.below hb2)
            clear hb2
            go_wp2_with fail
            go_ret
            exact ⟨by rw [Hf.out]; rfl, HL2.out.be⟩
          have ds0 : decide (py.s < 0) = false := decide_eq_false hs0
          by_cases hs1 : 1099511627776 ≤ py.s
          · have ds1 : decide (py.s ≥ 1099511627776) = true := decide_eq_true hs1
            have Hf := Lib.hid (partsB_not (view := view) Hy.out (by rw [Hpb2.out, (Psp.win_no _ _ _).2 (by omega)]; rfl))
            refine wp_region_later (by kernel_rfl) (by kernel_rfl) ?_
            repeat (first | go_big_quiet_step (first | (go_at_call 64; exact later_same _ (HCN.out _)) | (go_at_call 70; exact later_call _ (HCC.out _))) | quiet_step (first | (go_at_call 64; exact later_same _ (HCN.out _)) | (go_at_call 70; exact later_call _ (HCC.out _))))
            refine wpQuiet_nil ?_
            intro w2 hw'
            obtain ⟨⟨wq, hbq⟩, hw'⟩ := hw'
            have hb2 : Below w1.heap.size w1 w2 := by rw [hw']; exact hbq
            clear hw' hbq
            have HL2 := Lib.hid (HL1.out.below hb2)
            clear hb2
            go_wp2_with fail
            go_ret
            exact ⟨by rw [Hf.out]; rfl, HL2.out.be⟩
          have ds1 : decide (py.s ≥ 1099511627776) = false := decide_eq_false (by omega)
          have hws := (Psp.win_iff py.s 0 1099511627775).2 ⟨by omega, by omega⟩
          cases cb with
          | false =>
            have Hf := Lib.hid (partsB_not (view := view) Hy.out (by rw [Hpb2.out, hws]; rfl))
            clear hws
            refine wp_region_later (by kernel_rfl) (by kernel_rfl) ?_
            repeat (first | go_big_quiet_step (first | (go_at_call 64; exact later_same _ (HCN.out _)) | (go_at_call 70; exact later_call _ (HCC.out _))) | quiet_step (first | (go_at_call 64; exact later_same _ (HCN.out _)) | (go_at_call 70; exact later_call _ (HCC.out _))))
            refine wpQuiet_nil ?_
            intro w2 hw'
            obtain ⟨⟨wq, hbq⟩, hw'⟩ := hw'
            have hb2 : Below w1.heap.size w1 w2 := by rw [hw']; exact hbq
            clear hw' hbq
            have HL2 := Lib.hid (HL1.out.below hb2)
            clear hb2
            go_wp2_with fail
            go_ret
            exact ⟨by rw [Hf.out]; rfl, HL2.out.be⟩
          | true =>
            have HI2 : Hid (∀ (j : Nat) (z : Psp.Part), j < (p + 1) + 1 → l[j]? = some z → Psp.partB view z f cl = true) := Lib.hid fun j z hj hz => by
              by_cases he : j = (p + 1)
              · subst he; have e1 := Hy.out.symm.trans hz; injection e1 with e1; subst e1; rw [Hpb2.out, hws]; rfl
              · exact HI.out j z (by omega) hz
            clear HI hws
            refine wp_region_later (by kernel_rfl) (by kernel_rfl) ?_
            repeat (first | go_big_quiet_step (first | (go_at_call 64; exact later_same _ (HCN.out _)) | (go_at_call 70; exact later_call _ (HCC.out _))) | quiet_step (first | (go_at_call 64; exact later_same _ (HCN.out _)) | (go_at_call 70; exact later_call _ (HCC.out _))))
            refine wpQuiet_nil ?_
            intro w2 hw'
            obtain ⟨⟨wq, hbq⟩, hw'⟩ := hw'
            have hb2 : Below w1.heap.size w1 w2 := by rw [hw']; exact hbq
            clear hw' hbq
            have HL2 := Lib.hid (HL1.out.below hb2)
            clear hb2
            go_wp2_with fail
            first
              | (go_roundw
                 case rel => exact ⟨(p + 1) + 1, by go_num, by omega, HI2, HJ2, HL2⟩
                 case measure => simp [intOf]; omega)
              | (refine ⟨⟨(p + 1) + 1, by go_num, by omega, HI2, HJ2, HL2⟩, ?_⟩
                 simp [intOf]; omega)
    · obtain rfl : k = n := by omega
      have Hf : Hid (Psp.partsB view l f cl = true) := Lib.hid (partsB_yes (by rw [Hll.out, Hq.out]; exact Hnq.out) (fun j x hx => HI.out j x (by have := (List.getElem?_eq_some_iff.1 hx).1; rwa [Hll.out] at this) hx) (fun j x y hx hy => HJ.out j x y (by have := (List.getElem?_eq_some_iff.1 hy).1; rwa [Hll.out] at this) hx hy))
      clear HI HJ
      go_wp2_with fail
      go_ret
      exact ⟨by rw [Hf.out]; rfl, HL.out.be⟩
end Go.Proofs.Ytljfoajhobambaa

