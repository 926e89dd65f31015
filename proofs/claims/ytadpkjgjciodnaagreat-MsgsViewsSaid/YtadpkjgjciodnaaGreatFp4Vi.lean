/- Package msgs: looks at parts. Printed by gen_fp4.py. -/
import Derived.Test.YtadpkjgjciodnaaGreatFp3Vi
namespace Go.Proofs.YtadpkjgjciodnaaGreat
open Go.RowKit
set_option linter.unusedVariables false

theorem lk_size : (Tryz.prog.info? 104).map (·.size) = some 2 := by kernel_rfl
theorem Lk.range {w0 W : World} {f cl : Int} (h : Lk w0 W f cl) : W.rangeAt w0.heap.size 0 [.int .i64 f, .int .i64 cl] := fun j v hv => by
  rw [Nat.zero_add, cell_of_row _ _ j _ _ _ h.box]; simpa using hv
theorem partsB_not {view f cl : Int} {l : List Psp.Part} {k : Nat} {x : Psp.Part} (hx : l[k]? = some x) (h : Psp.partB view x f cl = false) : Psp.partsB view l f cl = false := by
  unfold Psp.partsB
  rw [Psp.all_not (p := fun c => Psp.partB view c f cl) hx h, Bool.false_and, Bool.and_false]
theorem partsB_down {view f cl : Int} {l : List Psp.Part} {k : Nat} {x y : Psp.Part} (hx : l[k]? = some x) (hy : l[k + 1]? = some y) (h : ¬ x.f < y.f) : Psp.partsB view l f cl = false := by
  unfold Psp.partsB
  have : Psp.upP l = false := by
    cases hu : Psp.upP l with
    | false => rfl
    | true => exact absurd ((Psp.upP_iff l).1 hu k x y hx hy) h
  rw [this, Bool.and_false, Bool.and_false]
theorem partsB_yes {view f cl : Int} {l : List Psp.Part} (h0 : (l.length : Int) = Psp.quorum f) (h1 : ∀ (j : Nat) (x : Psp.Part), l[j]? = some x → Psp.partB view x f cl = true) (h2 : ∀ (j : Nat) (x y : Psp.Part), l[j]? = some x → l[j + 1]? = some y → x.f < y.f) : Psp.partsB view l f cl = true := by
  unfold Psp.partsB
  rw [decide_eq_true h0, Psp.all_take (p := fun c => Psp.partB view c f cl) fun k _ x hx => h1 k x hx, (Psp.upP_iff l).2 h2]; rfl

set_option maxRecDepth 100000 in
set_option maxHeartbeats 16000000 in
theorem parts_l (view : Int) (l : List Psp.Part) (vp : Value) (f cl : Int) (w : World) (P : Nat → Prop) (hc : RdA w P vp l) (hwc : ∀ c ∈ l, wfPart c) :
    Calls Tryz.prog 96 #[.agg #[.int .i64 f, .int .i64 cl], .int .i64 view, vp] w fun e w' => e = .returned (.bool (Psp.partsB view l f cl)) ∧ Below w.heap.size w w' := by
  obtain ⟨L, hL, hr, hcs⟩ := hc
  obtain ⟨n, hn⟩ : ∃ n, L.length = n := ⟨_, rfl⟩
  rw [hn] at hr
  obtain ⟨_, Ac, cc, rfl, hc1, hc2, _⟩ := hr.parts
  have HR := Lib.hid hr
  have Hcs := Lib.hid hcs
  have Hn := Lib.hid hn
  have HLm := Lib.hid hL
  have Hwc := Lib.hid hwc
  have HL := Lib.hid (Lk.new w f cl)
  have Hll : Hid (l.length = n) := Lib.hid (by rw [← hL, List.length_map, hn])
  obtain ⟨q, hq⟩ : ∃ q, Psp.quorum f = q := ⟨_, rfl⟩
  obtain ⟨hq0, hq1⟩ := Psp.quorum_bd f
  rw [hq] at hq0 hq1
  have hbq := b_quorum_any f
  rw [hq] at hbq
  have HB := Lib.hid hbq
  have Hq := Lib.hid hq
  clear hr hcs hn hL hwc hq hbq
  go_enter Tryz.func96, Tryz.ntmps96
  go_wp2_with fail
  refine (HB.out _).mono ?_
  rintro e w1 ⟨rfl, rfl⟩
  by_cases hnq : (n : Int) = q
  case' neg =>
    have d0 : ((n : Int) != q) = true := by rw [bne_iff_ne]; exact hnq
    have Hf : Hid (Psp.partsB view l f cl = false) := Lib.hid (by unfold Psp.partsB; rw [decide_eq_false (by rw [Hll.out, Hq.out]; exact hnq)]; rfl)
    go_wp2_with fail
    go_ret
    exact ⟨by rw [Hf.out]; rfl, HL.out.be⟩
  have d0 : ((n : Int) != q) = false := by rw [hnq]; simp
  have Hnq := Lib.hid hnq
  clear hnq
  go_wp2_with fail
  clear d0
  go_loopw [17] (fun i wr => ∃ k : Nat, i = .int .i64 (k : Int) ∧ k ≤ n ∧ Hid (∀ (j : Nat) (y : Psp.Part), j < k → l[j]? = some y → Psp.partB view y f cl = true) ∧ Hid (∀ (j : Nat) (x y : Psp.Part), j + 1 < k → l[j]? = some x → l[j + 1]? = some y → x.f < y.f) ∧ Hid (Lk w wr f cl)) (fun i _ => n - (intOf i).toNat)
  case atStart => exact ⟨0, rfl, Nat.zero_le _, Lib.hid fun j y hj => by omega, Lib.hid fun j x y hj => by omega, HL⟩
  case round =>
    clear HL
    obtain ⟨k, rfl, hk, HI, HJ, HL⟩ := hrel
    by_cases hlt : k < n
    · obtain ⟨b0, o0, c0, y, he, hb0, hb1, hy, hel⟩ := rd_elem (f := pv) (k := 4) (fun _ => rfl) (by omega) HR.out Hn.out hlt
      injection he with he1 _ he2
      subst he1 he2
      have hok := Hcs.out y (List.mem_of_getElem? hy)
      obtain ⟨py, yo, yc⟩ := y
      obtain ⟨_, A1, c1, e1, _⟩ := RdP.parts hok.1
      obtain ⟨Lc, hk1, hk2, hk3⟩ := hok.2
      obtain ⟨_, A2, c2, e2, _⟩ := RdP.parts hk2
      dsimp only at e1 e2
      subst e1 e2
      have hq : wr.rangeAt b0 (o0 + k * 4) [.int .i64 py.f, .slice A1 py.o.length c1, .slice A2 Lc.length c2, .int .i64 py.s] := hel wr (HL.out.be.block b0 hb1)
      have HQ := Lib.hid hq
      have hyl : l[k]? = some py := by have := map_get (g := PartV.p) hy; rwa [HLm.out] at this
      have Hy := Lib.hid hyl
      have Hok := Lib.hid (show RdV w P (.slice A1 py.o.length c1) py.o ∧ RdC w P (.slice A2 Lc.length c2) py.c from ⟨hok.1, ⟨Lc, hk1, hk2, hk3⟩⟩)
      have hwp := Hwc.out py (List.mem_of_getElem? hyl)
      have Hwy := Lib.hid hwp
      have d1 : decide ((k : Int) < (n : Int)) = true := by simp; omega
      clear hel hyl hok hq hk1 hk2 hk3 hwp
      go_upto_region 6 with (first | (refine list_load rfl 62 (.tmp 20) rfl b0 (o0 + k * 4) rfl [.int .i64 py.f, .slice A1 py.o.length c1, .slice A2 Lc.length c2, .int .i64 py.s] _ HQ.out Tryz.underlying62 rfl sizeP ?_) | (refine list_store_new rfl 62 (.tmp 8) (.tmp 21) rfl _ _ [.int .i64 py.f, .slice A1 py.o.length c1, .slice A2 Lc.length c2, .int .i64 py.s] rfl rfl rfl sizeP (by simp [Value.oneCell']) ?_; intro w1 hbw hr1 hs1))
      have HL1 := Lib.hid (HL.out.below hbw)
      have k0 := later_cell HL1.out.cells.1
      have k1 := later_cell HL1.out.cells.2
      have HRL : Hid (∀ w' : World, (∃ p : Later w1, w' = p.W) → w'.rangeAt w.heap.size 0 [.int .i64 f, .int .i64 cl]) := Lib.hid (by rintro w' ⟨p, rfl⟩; exact (HL1.out.below p.h).range)
      have x0 := later_cell (show w1.cell? ⟨wr.heap.size, 0, none⟩ = some (.int .i64 py.f) by have := hr1 0 _ rfl; simpa using this)
      have x1 := later_cell (show w1.cell? ⟨wr.heap.size, 1, none⟩ = some (.slice A1 py.o.length c1) by have := hr1 1 _ rfl; simpa using this)
      have x2 := later_cell (show w1.cell? ⟨wr.heap.size, 2, none⟩ = some (.slice A2 Lc.length c2) by have := hr1 2 _ rfl; simpa using this)
      have x3 := later_cell (show w1.cell? ⟨wr.heap.size, 3, none⟩ = some (.int .i64 py.s) by have := hr1 3 _ rfl; simpa using this)
      obtain ⟨nb, hnb⟩ : ∃ x, Psp.nodeB py.f f = x := ⟨_, rfl⟩
      obtain ⟨sb, hsb⟩ : ∃ x, Psp.sealB py.s = x := ⟨_, rfl⟩
      obtain ⟨cb, hcb⟩ : ∃ x, Psp.changeB view py.o py.c f cl = x := ⟨_, rfl⟩
      have HCN : Hid (∀ p : Later w1, Calls Tryz.prog 93 #[.agg #[.int .i64 f, .int .i64 cl], .int .i64 py.f] p.W fun e w' => e = .returned (.bool nb) ∧ Below p.W.heap.size p.W w') := Lib.hid fun p => by rw [← hnb]; exact node_any _ _ _ _
      have HCW : Hid (∀ p : Later w1, Calls Tryz.prog 63 #[.int .i64 py.s, .int .i64 0, .int .i64 1099511627775] p.W fun e w' => e = .returned (.bool sb) ∧ p.W = w') := Lib.hid fun p => by rw [← hsb]; exact win_any _ _ _ _
      have HCC : Hid (∀ p : Later w1, Calls Tryz.prog 95 #[.agg #[.int .i64 f, .int .i64 cl], .int .i64 view, .slice A1 py.o.length c1, .slice A2 Lc.length c2] p.W fun e w' => e = .returned (.bool cb) ∧ Below p.W.heap.size p.W w') := Lib.hid fun p => by
        rw [← hcb]
        have hb := (HL1.out.below p.h).be
        exact change_l view py.o py.c _ _ f cl p.W P (RdV.keeps' Hok.out.1 (Keeps.below hb)) (Hok.out.2.keeps (Keeps.below hb)) Hwy.out.2.1 Hwy.out.2.2.1
      have Hpb : Hid (Psp.partB view py f cl = (nb && (sb && cb))) := Lib.hid (by unfold Psp.partB; rw [hnb, hsb, hcb])
      clear hbw hr1 HQ hs1 hnb hsb hcb Hok Hwy HL
      by_cases hk0 : k = 0
      · subst hk0
        have d2 : decide ((0 : Int) < ((0 : Nat) : Int)) = false := by simp
        have HJ2 : Hid (∀ (j : Nat) (x y : Psp.Part), j + 1 < 0 + 1 → l[j]? = some x → l[j + 1]? = some y → x.f < y.f) := Lib.hid fun j x z hj => by omega
        clear HJ
        cases nb with
        | false =>
          have Hf := Lib.hid (partsB_not (view := view) Hy.out Hpb.out)
          refine wp_region_later (by kernel_rfl) (by kernel_rfl) ?_
          repeat (first | go_big_quiet_step (first | (go_at_call 93; exact later_call _ (HCN.out _)) | (go_at_call 63; exact later_same _ (HCW.out _)) | (go_at_call 95; exact later_call _ (HCC.out _))) | (refine quiet_load (by simp [Region.wanted, yielded]) 104 (.tmp 3) (by rfl) w.heap.size (0) (by rfl) [.int .i64 f, .int .i64 cl] _ HRL.out Tryz.underlying104 rfl lk_size ?_; intro K hK; go_simp; refine hK _ ?_; clear hK K) | quiet_step (first | (go_at_call 93; exact later_call _ (HCN.out _)) | (go_at_call 63; exact later_same _ (HCW.out _)) | (go_at_call 95; exact later_call _ (HCC.out _))))
          refine wpQuiet_nil ?_
          intro w2 hw'
          obtain ⟨⟨wq, hbq⟩, hw'⟩ := hw'
          have hb2 : Below w1.heap.size w1 w2 := by rw [hw']; exact hbq
          clear hw' hbq
          have HL2 := Lib.hid (HL1.out.below hb2)
          clear hb2
          go_wp2_with fail
          go_ret
          exact ⟨by rw [Hf.out]; rfl, HL2.out.be⟩
        | true =>
          cases sb with
          | false =>
            have Hf := Lib.hid (partsB_not (view := view) Hy.out Hpb.out)
            refine wp_region_later (by kernel_rfl) (by kernel_rfl) ?_
            repeat (first | go_big_quiet_step (first | (go_at_call 93; exact later_call _ (HCN.out _)) | (go_at_call 63; exact later_same _ (HCW.out _)) | (go_at_call 95; exact later_call _ (HCC.out _))) | (refine quiet_load (by simp [Region.wanted, yielded]) 104 (.tmp 3) (by rfl) w.heap.size (0) (by rfl) [.int .i64 f, .int .i64 cl] _ HRL.out Tryz.underlying104 rfl lk_size ?_; intro K hK; go_simp; refine hK _ ?_; clear hK K) | quiet_step (first | (go_at_call 93; exact later_call _ (HCN.out _)) | (go_at_call 63; exact later_same _ (HCW.out _)) | (go_at_call 95; exact later_call _ (HCC.out _))))
            refine wpQuiet_nil ?_
            intro w2 hw'
            obtain ⟨⟨wq, hbq⟩, hw'⟩ := hw'
            have hb2 : Below w1.heap.size w1 w2 := by rw [hw']; exact hbq
            clear hw' hbq
            have HL2 := Lib.hid (HL1.out.below hb2)
            clear hb2
            go_wp2_with fail
            go_ret
            exact ⟨by rw [Hf.out]; rfl, HL2.out.be⟩
          | true =>
            cases cb with
            | false =>
              have Hf := Lib.hid (partsB_not (view := view) Hy.out Hpb.out)
              refine wp_region_later (by kernel_rfl) (by kernel_rfl) ?_
              repeat (first | go_big_quiet_step (first | (go_at_call 93; exact later_call _ (HCN.out _)) | (go_at_call 63; exact later_same _ (HCW.out _)) | (go_at_call 95; exact later_call _ (HCC.out _))) | (refine quiet_load (by simp [Region.wanted, yielded]) 104 (.tmp 3) (by rfl) w.heap.size (0) (by rfl) [.int .i64 f, .int .i64 cl] _ HRL.out Tryz.underlying104 rfl lk_size ?_; intro K hK; go_simp; refine hK _ ?_; clear hK K) | quiet_step (first | (go_at_call 93; exact later_call _ (HCN.out _)) | (go_at_call 63; exact later_same _ (HCW.out _)) | (go_at_call 95; exact later_call _ (HCC.out _))))
              refine wpQuiet_nil ?_
              intro w2 hw'
              obtain ⟨⟨wq, hbq⟩, hw'⟩ := hw'
              have hb2 : Below w1.heap.size w1 w2 := by rw [hw']; exact hbq
              clear hw' hbq
              have HL2 := Lib.hid (HL1.out.below hb2)
              clear hb2
              go_wp2_with fail
              go_ret
              exact ⟨by rw [Hf.out]; rfl, HL2.out.be⟩
            | true =>
              have HI2 : Hid (∀ (j : Nat) (z : Psp.Part), j < 0 + 1 → l[j]? = some z → Psp.partB view z f cl = true) := Lib.hid fun j z hj hz => by
                by_cases he : j = 0
                · subst he; have e1 := Hy.out.symm.trans hz; injection e1 with e1; subst e1; exact Hpb.out
                · exact HI.out j z (by omega) hz
              clear HI
              refine wp_region_later (by kernel_rfl) (by kernel_rfl) ?_
              repeat (first | go_big_quiet_step (first | (go_at_call 93; exact later_call _ (HCN.out _)) | (go_at_call 63; exact later_same _ (HCW.out _)) | (go_at_call 95; exact later_call _ (HCC.out _))) | (refine quiet_load (by simp [Region.wanted, yielded]) 104 (.tmp 3) (by rfl) w.heap.size (0) (by rfl) [.int .i64 f, .int .i64 cl] _ HRL.out Tryz.underlying104 rfl lk_size ?_; intro K hK; go_simp; refine hK _ ?_; clear hK K) | quiet_step (first | (go_at_call 93; exact later_call _ (HCN.out _)) | (go_at_call 63; exact later_same _ (HCW.out _)) | (go_at_call 95; exact later_call _ (HCC.out _))))
              refine wpQuiet_nil ?_
              intro w2 hw'
              obtain ⟨⟨wq, hbq⟩, hw'⟩ := hw'
              have hb2 : Below w1.heap.size w1 w2 := by rw [hw']; exact hbq
              clear hw' hbq
              have HL2 := Lib.hid (HL1.out.below hb2)
              clear hb2
              go_wp2_with fail
              go_roundw
              case rel => exact ⟨0 + 1, by go_num, by omega, HI2, HJ2, HL2⟩
              case measure => simp [intOf]; omega
      · obtain ⟨p, rfl⟩ : ∃ p, k = p + 1 := ⟨k - 1, by omega⟩
        obtain ⟨b3, o3, c3, z, he, _, _, hz, hel⟩ := rd_elem (f := pv) (k := 4) (fun _ => rfl) (by omega) HR.out Hn.out (show p < n by omega)
        injection he with he1 _ he2
        injection he1 with he1
        injection he1 with he3 he4
        subst he3 he4 he2
        have hrg := hel w1 (HL1.out.be.block b0 hb1)
        have pf := later_cell (show w1.cell? ⟨b0, o0 + p * 4, none⟩ = some (.int .i64 z.p.f) from hrg 0 _ rfl)
        have hzl : l[p]? = some z.p := by have := map_get (g := PartV.p) hz; rwa [HLm.out] at this
        obtain ⟨cz, hcz⟩ : ∃ cz, z.p = cz := ⟨_, rfl⟩
        rw [hcz] at pf hzl
        have Hz := Lib.hid hzl
        have d2 : decide ((0 : Int) < ((p + 1 : Nat) : Int)) = true := by rw [decide_eq_true_eq]; omega
        have z1 : ((p + 1 : Nat) : Int) - 1 = (p : Int) := by omega
        clear hel hrg hz hzl hcz hk0
        by_cases h1 : cz.f ≥ py.f
        · have d3 : decide (cz.f ≥ py.f) = true := decide_eq_true h1
          have Hf := Lib.hid (partsB_down (view := view) (f := f) (cl := cl) Hz.out Hy.out (by omega))
          clear HJ
          cases nb with
          | false =>
            refine wp_region_later (by kernel_rfl) (by kernel_rfl) ?_
            repeat (first | go_big_quiet_step (first | (go_at_call 93; exact later_call _ (HCN.out _)) | (go_at_call 63; exact later_same _ (HCW.out _)) | (go_at_call 95; exact later_call _ (HCC.out _))) | (refine quiet_load (by simp [Region.wanted, yielded]) 104 (.tmp 3) (by rfl) w.heap.size (0) (by rfl) [.int .i64 f, .int .i64 cl] _ HRL.out Tryz.underlying104 rfl lk_size ?_; intro K hK; go_simp; refine hK _ ?_; clear hK K) | quiet_step (first | (go_at_call 93; exact later_call _ (HCN.out _)) | (go_at_call 63; exact later_same _ (HCW.out _)) | (go_at_call 95; exact later_call _ (HCC.out _))))
            refine wpQuiet_nil ?_
            intro w2 hw'
            obtain ⟨⟨wq, hbq⟩, hw'⟩ := hw'
            have hb2 : Below w1.heap.size w1 w2 := by rw [hw']; exact hbq
            clear hw' hbq
            have HL2 := Lib.hid (HL1.out.below hb2)
            clear hb2
            go_wp2_with fail
            go_ret
            exact ⟨by rw [Hf.out]; rfl, HL2.out.be⟩
          | true =>
            refine wp_region_later (by kernel_rfl) (by kernel_rfl) ?_
            repeat (first | go_big_quiet_step (first | (go_at_call 93; exact later_call _ (HCN.out _)) | (go_at_call 63; exact later_same _ (HCW.out _)) | (go_at_call 95; exact later_call _ (HCC.out _))) | (refine quiet_load (by simp [Region.wanted, yielded]) 104 (.tmp 3) (by rfl) w.heap.size (0) (by rfl) [.int .i64 f, .int .i64 cl] _ HRL.out Tryz.underlying104 rfl lk_size ?_; intro K hK; go_simp; refine hK _ ?_; clear hK K) | quiet_step (first | (go_at_call 93; exact later_call _ (HCN.out _)) | (go_at_call 63; exact later_same _ (HCW.out _)) | (go_at_call 95; exact later_call _ (HCC.out _))))
            refine wpQuiet_nil ?_
            intro w2 hw'
            obtain ⟨⟨wq, hbq⟩, hw'⟩ := hw'
            have hb2 : Below w1.heap.size w1 w2 := by rw [hw']; exact hbq
            clear hw' hbq
            have HL2 := Lib.hid (HL1.out.below hb2)
            clear hb2
            go_wp2_with fail
            go_ret
            exact ⟨by rw [Hf.out]; rfl, HL2.out.be⟩
        · have d3 : decide (cz.f ≥ py.f) = false := decide_eq_false h1
          have Hlt : Hid (cz.f < py.f) := Lib.hid (by omega)
          have HJ2 : Hid (∀ (j : Nat) (x t : Psp.Part), j + 1 < p + 1 + 1 → l[j]? = some x → l[j + 1]? = some t → x.f < t.f) := Lib.hid fun j x t hj hx ht => by
            by_cases he : j = p
            · subst he
              have e1 := Hz.out.symm.trans hx
              have e2 := Hy.out.symm.trans ht
              injection e1 with e1
              injection e2 with e2
              subst e1 e2
              exact Hlt.out
            · exact HJ.out j x t (by omega) hx ht
          clear HJ Hlt
          cases nb with
          | false =>
            have Hf := Lib.hid (partsB_not (view := view) Hy.out Hpb.out)
            refine wp_region_later (by kernel_rfl) (by kernel_rfl) ?_
            repeat (first | go_big_quiet_step (first | (go_at_call 93; exact later_call _ (HCN.out _)) | (go_at_call 63; exact later_same _ (HCW.out _)) | (go_at_call 95; exact later_call _ (HCC.out _))) | (refine quiet_load (by simp [Region.wanted, yielded]) 104 (.tmp 3) (by rfl) w.heap.size (0) (by rfl) [.int .i64 f, .int .i64 cl] _ HRL.out Tryz.underlying104 rfl lk_size ?_; intro K hK; go_simp; refine hK _ ?_; clear hK K) | quiet_step (first | (go_at_call 93; exact later_call _ (HCN.out _)) | (go_at_call 63; exact later_same _ (HCW.out _)) | (go_at_call 95; exact later_call _ (HCC.out _))))
            refine wpQuiet_nil ?_
            intro w2 hw'
            obtain ⟨⟨wq, hbq⟩, hw'⟩ := hw'
            have hb2 : Below w1.heap.size w1 w2 := by rw [hw']; exact hbq
            clear hw' hbq
            have HL2 := Lib.hid (HL1.out.below hb2)
            clear hb2
            go_wp2_with fail
            go_ret
            exact ⟨by rw [Hf.out]; rfl, HL2.out.be⟩
          | true =>
            cases sb with
            | false =>
              have Hf := Lib.hid (partsB_not (view := view) Hy.out Hpb.out)
              refine wp_region_later (by kernel_rfl) (by kernel_rfl) ?_
              repeat (first | go_big_quiet_step (first | (go_at_call 93; exact later_call _ (HCN.out _)) | (go_at_call 63; exact later_same _ (HCW.out _)) | (go_at_call 95; exact later_call _ (HCC.out _))) | (refine quiet_load (by simp [Region.wanted, yielded]) 104 (.tmp 3) (by rfl) w.heap.size (0) (by rfl) [.int .i64 f, .int .i64 cl] _ HRL.out Tryz.underlying104 rfl lk_size ?_; intro K hK; go_simp; refine hK _ ?_; clear hK K) | quiet_step (first | (go_at_call 93; exact later_call _ (HCN.out _)) | (go_at_call 63; exact later_same _ (HCW.out _)) | (go_at_call 95; exact later_call _ (HCC.out _))))
              refine wpQuiet_nil ?_
              intro w2 hw'
              obtain ⟨⟨wq, hbq⟩, hw'⟩ := hw'
              have hb2 : Below w1.heap.size w1 w2 := by rw [hw']; exact hbq
              clear hw' hbq
              have HL2 := Lib.hid (HL1.out.below hb2)
              clear hb2
              go_wp2_with fail
              go_ret
              exact ⟨by rw [Hf.out]; rfl, HL2.out.be⟩
            | true =>
              cases cb with
              | false =>
                have Hf := Lib.hid (partsB_not (view := view) Hy.out Hpb.out)
                refine wp_region_later (by kernel_rfl) (by kernel_rfl) ?_
                repeat (first | go_big_quiet_step (first | (go_at_call 93; exact later_call _ (HCN.out _)) | (go_at_call 63; exact later_same _ (HCW.out _)) | (go_at_call 95; exact later_call _ (HCC.out _))) | (refine quiet_load (by simp [Region.wanted, yielded]) 104 (.tmp 3) (by rfl) w.heap.size (0) (by rfl) [.int .i64 f, .int .i64 cl] _ HRL.out Tryz.underlying104 rfl lk_size ?_; intro K hK; go_simp; refine hK _ ?_; clear hK K) | quiet_step (first | (go_at_call 93; exact later_call _ (HCN.out _)) | (go_at_call 63; exact later_same _ (HCW.out _)) | (go_at_call 95; exact later_call _ (HCC.out _))))
                refine wpQuiet_nil ?_
                intro w2 hw'
                obtain ⟨⟨wq, hbq⟩, hw'⟩ := hw'
                have hb2 : Below w1.heap.size w1 w2 := by rw [hw']; exact hbq
                clear hw' hbq
                have HL2 := Lib.hid (HL1.out.below hb2)
                clear hb2
                go_wp2_with fail
                go_ret
                exact ⟨by rw [Hf.out]; rfl, HL2.out.be⟩
              | true =>
                have HI2 : Hid (∀ (j : Nat) (z : Psp.Part), j < (p + 1) + 1 → l[j]? = some z → Psp.partB view z f cl = true) := Lib.hid fun j z hj hz => by
                  by_cases he : j = (p + 1)
                  · subst he; have e1 := Hy.out.symm.trans hz; injection e1 with e1; subst e1; exact Hpb.out
                  · exact HI.out j z (by omega) hz
                clear HI
                refine wp_region_later (by kernel_rfl) (by kernel_rfl) ?_
                repeat (first | go_big_quiet_step (first | (go_at_call 93; exact later_call _ (HCN.out _)) | (go_at_call 63; exact later_same _ (HCW.out _)) | (go_at_call 95; exact later_call _ (HCC.out _))) | (refine quiet_load (by simp [Region.wanted, yielded]) 104 (.tmp 3) (by rfl) w.heap.size (0) (by rfl) [.int .i64 f, .int .i64 cl] _ HRL.out Tryz.underlying104 rfl lk_size ?_; intro K hK; go_simp; refine hK _ ?_; clear hK K) | quiet_step (first | (go_at_call 93; exact later_call _ (HCN.out _)) | (go_at_call 63; exact later_same _ (HCW.out _)) | (go_at_call 95; exact later_call _ (HCC.out _))))
                refine wpQuiet_nil ?_
                intro w2 hw'
                obtain ⟨⟨wq, hbq⟩, hw'⟩ := hw'
                have hb2 : Below w1.heap.size w1 w2 := by rw [hw']; exact hbq
                clear hw' hbq
                have HL2 := Lib.hid (HL1.out.below hb2)
                clear hb2
                go_wp2_with fail
                go_roundw
                case rel => exact ⟨(p + 1) + 1, by go_num, by omega, HI2, HJ2, HL2⟩
                case measure => simp [intOf]; omega
    · obtain rfl : k = n := by omega
      have Hf : Hid (Psp.partsB view l f cl = true) := Lib.hid (partsB_yes (by rw [Hll.out, Hq.out]; exact Hnq.out) (fun j x hx => HI.out j x (by have := (List.getElem?_eq_some_iff.1 hx).1; rwa [Hll.out] at this) hx) (fun j x y hx hy => HJ.out j x y (by have := (List.getElem?_eq_some_iff.1 hy).1; rwa [Hll.out] at this) hx hy))
      clear HI HJ
      go_wp2_with fail
      go_ret
      exact ⟨by rw [Hf.out]; rfl, HL.out.be⟩
end Go.Proofs.YtadpkjgjciodnaaGreat
