/- Package msgs: Form, kind by kind. Printed by gen_fg.py. -/
import Derived.Test.YtljfoajhobambaaFgSp
import Derived.Deep.RegionHeld3
namespace Go.Proofs.Ytljfoajhobambaa
open Go.RowKit
set_option linter.unusedVariables false
set_option linter.unusedSimpArgs false

theorem Fb.range {w0 W : World} {m : Psp.Msg} {vb vo vc vp : Value} {f cl : Int} (h : Fb w0 W m vb vo vc vp f cl) : W.rangeAt w0.heap.size 0 [.int .i64 m.k, .int .i64 m.f, .int .i64 m.v, .int .i64 m.i, .int .i64 m.q, .int .i64 m.r, vb, vo, vc, vp] := fun j v hv => by
  rw [Nat.zero_add, cell_of_row _ _ j _ _ _ h.box]; simpa using hv

set_option maxRecDepth 100000 in
set_option maxHeartbeats 8000000 in
theorem form_3 (m : Psp.Msg) (vb vo vc vp : Value) (f cl : Int) (w : World) (P : Nat → Prop) (hx : MsgOk w P ⟨m, vb, vo, vc, vp⟩) (hw : wfMsg m) (hf : Psp.may f = true) (hk : m.k = 3) :
    Calls Try.prog 24 #[.agg #[.int .i64 m.k, .int .i64 m.f, .int .i64 m.v, .int .i64 m.i, .int .i64 m.q, .int .i64 m.r, vb, vo, vc, vp], .int .i64 f, .int .i64 cl] w fun e w' => e = .returned (.bool (Psp.formM m f cl)) ∧ Below w.heap.size w w' := by
  obtain ⟨Ab, Ao, Ac, Ap, cb, co, cc, cp, rfl, rfl, rfl, rfl⟩ := msg_slices hx
  have HX := Lib.hid hx
  have Hw := Lib.hid hw
  obtain ⟨q, hq⟩ : ∃ q, Psp.nodes f = q := ⟨_, rfl⟩
  have hq0 : (q == 0) = false := by rw [← hq, may_zero, hf]; rfl
  have hbn := b_nodes_any f
  rw [hq] at hbn
  have HNn := Lib.hid hbn
  obtain ⟨nb, hnb⟩ : ∃ x, Psp.nodeB m.f f = x := ⟨_, rfl⟩
  have HNo0 : Hid (∀ w' : World, Calls Try.prog 77 #[.agg #[.int .i64 f, .int .i64 cl], .int .i64 m.f] w' fun e w'' => e = .returned (.bool nb) ∧ Below w'.heap.size w' w'') := Lib.hid fun w' => by rw [← hnb]; exact node_any _ _ _ w'

  have t1 : (m.k == 1) = false := by rw [hk]; rfl
  have t2 : (m.k == 2) = false := by rw [hk]; rfl
  have t3 : (m.k == 3) = true := by rw [hk]; rfl
  have t4 : (m.k == 4) = false := by rw [hk]; rfl
  have t5 : (m.k == 5) = false := by rw [hk]; rfl
  have t6 : (m.k == 6) = false := by rw [hk]; rfl
  have t7 : (m.k == 7) = false := by rw [hk]; rfl
  have t8 : (m.k == 8) = false := by rw [hk]; rfl
  have t9 : (m.k == 9) = false := by rw [hk]; rfl
  have t10 : (m.k == 10) = false := by rw [hk]; rfl
  obtain ⟨pr, hpr⟩ : ∃ x, Psp.primary f m.v m.i = x := ⟨_, rfl⟩
  have HPr : Hid (∀ w' : World, Calls Try.prog 79 #[.int .i64 f, .int .i64 m.v, .int .i64 m.i] w' fun e w'' => e = .returned (.int .i64 pr) ∧ w' = w'') := Lib.hid fun w' => by rw [← hpr]; exact b_primary_any f m.v m.i w' hw.2.2.1.1 hw.2.2.1.2 hw.2.2.2.1.1 hw.2.2.2.1.2
  obtain ⟨b0, hb0⟩ : ∃ x, (m.r == 0) = x := ⟨_, rfl⟩
  have hz : (m.r == 0) = b0 := hb0
  obtain ⟨b1, hb1⟩ : ∃ x, Psp.bareB m true false false false = x := ⟨_, rfl⟩
  have HBa : Hid (∀ w' : World, Calls Try.prog 75 #[.agg #[.int .i64 m.k, .int .i64 m.f, .int .i64 m.v, .int .i64 m.i, .int .i64 m.q, .int .i64 m.r, .slice Ab m.b.length cb, .slice Ao m.o.length co, .slice Ac m.c.length cc, .slice Ap m.p.length cp], .bool true, .bool false, .bool false, .bool false] w' fun e w'' => e = .returned (.bool b1) ∧ Below w'.heap.size w' w'') := Lib.hid fun w' => by rw [← hb1]; exact bare_n _ _ _ _ _ _ _ _ _ _ _ _ _ _ _ _ _ _ _ _ _ _ w'
  obtain ⟨b2, hb2⟩ : ∃ x, Psp.placeB m.v m.i m.q f = x := ⟨_, rfl⟩
  have HPl : Hid (∀ w' : World, Calls Try.prog 78 #[.agg #[.int .i64 f, .int .i64 cl], .int .i64 m.v, .int .i64 m.i, .int .i64 m.q] w' fun e w'' => e = .returned (.bool b2) ∧ Below w'.heap.size w' w'') := Lib.hid fun w' => by rw [← hb2]; exact place_any _ _ _ _ _ w'
  obtain ⟨b3, hb3⟩ : ∃ x, Psp.batchB m.b cl 1 4 = x := ⟨_, rfl⟩
  have HBt : Hid (∀ w' : World, Hid (Fb w w' m (.slice Ab m.b.length cb) (.slice Ao m.o.length co) (.slice Ac m.c.length cc) (.slice Ap m.p.length cp) f cl) → Calls Try.prog 76 #[.agg #[.int .i64 f, .int .i64 cl], .slice Ab m.b.length cb, .int .i64 1, .int .i64 4] w' fun e w'' => e = .returned (.bool b3) ∧ Below w'.heap.size w' w'') := Lib.hid fun w' h => by rw [← hb3]; exact batch_l m.b m.b.length _ f cl 1 4 w' P (HX.out.1.keeps' (Keeps.below h.out.be)) rfl
  obtain ⟨b4, hb4⟩ : ∃ x, decide (m.f = Psp.primary f m.v m.i) = x := ⟨_, rfl⟩
  have hy : (m.f == pr) = b4 := by rw [← hb4, hpr]; rfl
  have Hr : Hid (Psp.formM m f cl = (nb && (b0 && (b1 && (b2 && (b3 && (b4))))))) := Lib.hid (by unfold Psp.formM; rw [hf, hk, hnb]; simp only [Int.reduceEq, if_false, if_true, or_false, or_true, Bool.true_and, false_or]; rw [hb0, hb1, hb2, hb3, hb4])
  clear hq hbn hnb hx hw hpr hb0 hb1 hb2 hb3 hb4 hk hf
  have HF0 := fb_start w m (.slice Ab m.b.length cb) (.slice Ao m.o.length co) (.slice Ac m.c.length cc) (.slice Ap m.p.length cp) f cl
  obtain ⟨HF, c0, c1, c2, c3, c4, c5, c6, c7, c8, c9, c10, c11⟩ := keepF HF0 (Below.refl _ _)
  go_enter Try.func24, Try.ntmps24
  go_wp2_with (first | (go_at_call 73; refine (HNn.out _).mono ?_; rintro e w' ⟨rfl, rfl⟩))
  refine (HNo0.out _).mono ?_
  rintro e w2 ⟨rfl, hb'⟩
  obtain ⟨HF, c0, c1, c2, c3, c4, c5, c6, c7, c8, c9, c10, c11⟩ := keepF HF hb'
  clear hb' HF0
  cases nb with
  | false =>
    go_wp2_with fail
    go_ret
    exact ⟨by rw [Hr.out]; rfl, HF.out.be⟩
  | true =>
    have l0 := later_cell c0
    have l1 := later_cell c1
    have l2 := later_cell c2
    have l3 := later_cell c3
    have l4 := later_cell c4
    have l5 := later_cell c5
    have l6 := later_cell c6
    have l7 := later_cell c7
    have l8 := later_cell c8
    have l9 := later_cell c9
    have l10 := later_cell c10
    have l11 := later_cell c11
    have HRL : Hid (∀ w' : World, (∃ p : Later w2, w' = p.W) → w'.rangeAt (w.heap.size + 1) 0 [.int .i64 f, .int .i64 cl]) := Lib.hid (by rintro w' ⟨p, rfl⟩; exact (HF.out.below p.h).lk)
    have HRM : Hid (∀ w' : World, (∃ p : Later w2, w' = p.W) → w'.rangeAt w.heap.size 0 [.int .i64 m.k, .int .i64 m.f, .int .i64 m.v, .int .i64 m.i, .int .i64 m.q, .int .i64 m.r, .slice Ab m.b.length cb, .slice Ao m.o.length co, .slice Ac m.c.length cc, .slice Ap m.p.length cp]) := Lib.hid (by rintro w' ⟨p, rfl⟩; exact (HF.out.below p.h).range)
    cases b0 with
    | false =>
      go_wp2_with fail
      refine wp_region_later (by kernel_rfl) (by kernel_rfl) ?_
      repeat (first | go_big_quiet_step (first | (go_at_call 75; exact later_call _ (HBa.out _)) | (go_at_call 78; exact later_call _ (HPl.out _)) | (go_at_call 76; exact later_call _ (HBt.out _ (Lib.hid (HF.out.below (Later.h _))))) | (go_at_call 79; exact later_same _ (HPr.out _))) | (refine quiet_load (by simp [Region.wanted, yielded]) 117 (.tmp 7) (by rfl) (w.heap.size + 1) (0) (by rfl) [.int .i64 f, .int .i64 cl] _ HRL.out Try.underlying117 rfl lk_size ?_; intro K hK; go_simp; refine hK _ ?_; clear hK K) | (refine quiet_load (by simp [Region.wanted, yielded]) 27 (.tmp 3) (by rfl) w.heap.size (0) (by rfl) [.int .i64 m.k, .int .i64 m.f, .int .i64 m.v, .int .i64 m.i, .int .i64 m.q, .int .i64 m.r, .slice Ab m.b.length cb, .slice Ao m.o.length co, .slice Ac m.c.length cc, .slice Ap m.p.length cp] _ HRM.out Try.underlying27 rfl sizeM ?_; intro K hK; go_simp; refine hK _ ?_; clear hK K) | quiet_step (first | (go_at_call 75; exact later_call _ (HBa.out _)) | (go_at_call 78; exact later_call _ (HPl.out _)) | (go_at_call 76; exact later_call _ (HBt.out _ (Lib.hid (HF.out.below (Later.h _))))) | (go_at_call 79; exact later_same _ (HPr.out _))))
      refine wpQuiet_nil ?_
      intro w3 hw'
      obtain ⟨⟨wq, hbq⟩, hw'⟩ := hw'
      have hb3' : Below w2.heap.size w2 w3 := by rw [hw']; exact hbq
      clear hw' hbq
      have HF3 := Lib.hid (HF.out.below hb3')
      clear hb3'
      go_wp2_with fail
      go_ret
      exact ⟨by rw [Hr.out]; rfl, HF3.out.be⟩
    | true =>
      cases b1 with
      | false =>
        go_wp2_with fail
        refine wp_region_later (by kernel_rfl) (by kernel_rfl) ?_
        repeat (first | go_big_quiet_step (first | (go_at_call 75; exact later_call _ (HBa.out _)) | (go_at_call 78; exact later_call _ (HPl.out _)) | (go_at_call 76; exact later_call _ (HBt.out _ (Lib.hid (HF.out.below (Later.h _))))) | (go_at_call 79; exact later_same _ (HPr.out _))) | (refine quiet_load (by simp [Region.wanted, yielded]) 117 (.tmp 7) (by rfl) (w.heap.size + 1) (0) (by rfl) [.int .i64 f, .int .i64 cl] _ HRL.out Try.underlying117 rfl lk_size ?_; intro K hK; go_simp; refine hK _ ?_; clear hK K) | (refine quiet_load (by simp [Region.wanted, yielded]) 27 (.tmp 3) (by rfl) w.heap.size (0) (by rfl) [.int .i64 m.k, .int .i64 m.f, .int .i64 m.v, .int .i64 m.i, .int .i64 m.q, .int .i64 m.r, .slice Ab m.b.length cb, .slice Ao m.o.length co, .slice Ac m.c.length cc, .slice Ap m.p.length cp] _ HRM.out Try.underlying27 rfl sizeM ?_; intro K hK; go_simp; refine hK _ ?_; clear hK K) | quiet_step (first | (go_at_call 75; exact later_call _ (HBa.out _)) | (go_at_call 78; exact later_call _ (HPl.out _)) | (go_at_call 76; exact later_call _ (HBt.out _ (Lib.hid (HF.out.below (Later.h _))))) | (go_at_call 79; exact later_same _ (HPr.out _))))
        refine wpQuiet_nil ?_
        intro w3 hw'
        obtain ⟨⟨wq, hbq⟩, hw'⟩ := hw'
        have hb3' : Below w2.heap.size w2 w3 := by rw [hw']; exact hbq
        clear hw' hbq
        have HF3 := Lib.hid (HF.out.below hb3')
        clear hb3'
        go_wp2_with fail
        go_ret
        exact ⟨by rw [Hr.out]; rfl, HF3.out.be⟩
      | true =>
        cases b2 with
        | false =>
          go_wp2_with fail
          refine wp_region_later (by kernel_rfl) (by kernel_rfl) ?_
          repeat (first | go_big_quiet_step (first | (go_at_call 75; exact later_call _ (HBa.out _)) | (go_at_call 78; exact later_call _ (HPl.out _)) | (go_at_call 76; exact later_call _ (HBt.out _ (Lib.hid (HF.out.below (Later.h _))))) | (go_at_call 79; exact later_same _ (HPr.out _))) | (refine quiet_load (by simp [Region.wanted, yielded]) 117 (.tmp 7) (by rfl) (w.heap.size + 1) (0) (by rfl) [.int .i64 f, .int .i64 cl] _ HRL.out Try.underlying117 rfl lk_size ?_; intro K hK; go_simp; refine hK _ ?_; clear hK K) | (refine quiet_load (by simp [Region.wanted, yielded]) 27 (.tmp 3) (by rfl) w.heap.size (0) (by rfl) [.int .i64 m.k, .int .i64 m.f, .int .i64 m.v, .int .i64 m.i, .int .i64 m.q, .int .i64 m.r, .slice Ab m.b.length cb, .slice Ao m.o.length co, .slice Ac m.c.length cc, .slice Ap m.p.length cp] _ HRM.out Try.underlying27 rfl sizeM ?_; intro K hK; go_simp; refine hK _ ?_; clear hK K) | quiet_step (first | (go_at_call 75; exact later_call _ (HBa.out _)) | (go_at_call 78; exact later_call _ (HPl.out _)) | (go_at_call 76; exact later_call _ (HBt.out _ (Lib.hid (HF.out.below (Later.h _))))) | (go_at_call 79; exact later_same _ (HPr.out _))))
          refine wpQuiet_nil ?_
          intro w3 hw'
          obtain ⟨⟨wq, hbq⟩, hw'⟩ := hw'
          have hb3' : Below w2.heap.size w2 w3 := by rw [hw']; exact hbq
          clear hw' hbq
          have HF3 := Lib.hid (HF.out.below hb3')
          clear hb3'
          go_wp2_with fail
          go_ret
          exact ⟨by rw [Hr.out]; rfl, HF3.out.be⟩
        | true =>
          cases b3 with
          | false =>
            go_wp2_with fail
            refine wp_region_later (by kernel_rfl) (by kernel_rfl) ?_
            repeat (first | go_big_quiet_step (first | (go_at_call 75; exact later_call _ (HBa.out _)) | (go_at_call 78; exact later_call _ (HPl.out _)) | (go_at_call 76; exact later_call _ (HBt.out _ (Lib.hid (HF.out.below (Later.h _))))) | (go_at_call 79; exact later_same _ (HPr.out _))) | (refine quiet_load (by simp [Region.wanted, yielded]) 117 (.tmp 7) (by rfl) (w.heap.size + 1) (0) (by rfl) [.int .i64 f, .int .i64 cl] _ HRL.out Try.underlying117 rfl lk_size ?_; intro K hK; go_simp; refine hK _ ?_; clear hK K) | (refine quiet_load (by simp [Region.wanted, yielded]) 27 (.tmp 3) (by rfl) w.heap.size (0) (by rfl) [.int .i64 m.k, .int .i64 m.f, .int .i64 m.v, .int .i64 m.i, .int .i64 m.q, .int .i64 m.r, .slice Ab m.b.length cb, .slice Ao m.o.length co, .slice Ac m.c.length cc, .slice Ap m.p.length cp] _ HRM.out Try.underlying27 rfl sizeM ?_; intro K hK; go_simp; refine hK _ ?_; clear hK K) | quiet_step (first | (go_at_call 75; exact later_call _ (HBa.out _)) | (go_at_call 78; exact later_call _ (HPl.out _)) | (go_at_call 76; exact later_call _ (HBt.out _ (Lib.hid (HF.out.below (Later.h _))))) | (go_at_call 79; exact later_same _ (HPr.out _))))
            refine wpQuiet_nil ?_
            intro w3 hw'
            obtain ⟨⟨wq, hbq⟩, hw'⟩ := hw'
            have hb3' : Below w2.heap.size w2 w3 := by rw [hw']; exact hbq
            clear hw' hbq
            have HF3 := Lib.hid (HF.out.below hb3')
            clear hb3'
            go_wp2_with fail
            go_ret
            exact ⟨by rw [Hr.out]; rfl, HF3.out.be⟩
          | true =>
            go_wp2_with fail
            refine wp_region_later (by kernel_rfl) (by kernel_rfl) ?_
            repeat (first | go_big_quiet_step (first | (go_at_call 75; exact later_call _ (HBa.out _)) | (go_at_call 78; exact later_call _ (HPl.out _)) | (go_at_call 76; exact later_call _ (HBt.out _ (Lib.hid (HF.out.below (Later.h _))))) | (go_at_call 79; exact later_same _ (HPr.out _))) | (refine quiet_load (by simp [Region.wanted, yielded]) 117 (.tmp 7) (by rfl) (w.heap.size + 1) (0) (by rfl) [.int .i64 f, .int .i64 cl] _ HRL.out Try.underlying117 rfl lk_size ?_; intro K hK; go_simp; refine hK _ ?_; clear hK K) | (refine quiet_load (by simp [Region.wanted, yielded]) 27 (.tmp 3) (by rfl) w.heap.size (0) (by rfl) [.int .i64 m.k, .int .i64 m.f, .int .i64 m.v, .int .i64 m.i, .int .i64 m.q, .int .i64 m.r, .slice Ab m.b.length cb, .slice Ao m.o.length co, .slice Ac m.c.length cc, .slice Ap m.p.length cp] _ HRM.out Try.underlying27 rfl sizeM ?_; intro K hK; go_simp; refine hK _ ?_; clear hK K) | quiet_step (first | (go_at_call 75; exact later_call _ (HBa.out _)) | (go_at_call 78; exact later_call _ (HPl.out _)) | (go_at_call 76; exact later_call _ (HBt.out _ (Lib.hid (HF.out.below (Later.h _))))) | (go_at_call 79; exact later_same _ (HPr.out _))))
            refine wpQuiet_nil ?_
            intro w3 hw'
            obtain ⟨⟨wq, hbq⟩, hw'⟩ := hw'
            have hb3' : Below w2.heap.size w2 w3 := by rw [hw']; exact hbq
            clear hw' hbq
            have HF3 := Lib.hid (HF.out.below hb3')
            clear hb3'
            go_wp2_with fail
            go_ret
            exact ⟨by rw [Hr.out]; rfl, HF3.out.be⟩
end Go.Proofs.Ytljfoajhobambaa
