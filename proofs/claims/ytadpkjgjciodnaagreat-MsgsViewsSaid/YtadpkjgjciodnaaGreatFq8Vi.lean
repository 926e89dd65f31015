/- Package msgs: Form, kind by kind. Printed by gen_fg.py. -/
import Derived.Test.YtadpkjgjciodnaaGreatJ21Vi
import Derived.Test.YtadpkjgjciodnaaGreatPhaseVi
import Derived.Deep.RegionHeld3
namespace Go.Proofs.YtadpkjgjciodnaaGreat
open Go.RowKit
set_option linter.unusedVariables false
set_option linter.unusedSimpArgs false


set_option maxRecDepth 100000 in
set_option maxHeartbeats 8000000 in
theorem form_8 (m : Psp.Msg) (vb vo vc vp : Value) (f cl : Int) (w : World) (P : Nat → Prop) (hx : MsgOk w P ⟨m, vb, vo, vc, vp⟩) (hw : wfMsg m) (hf : Psp.may f = true) (hk : m.k = 8) :
    Calls Tryz.prog 46 #[.agg #[.int .i64 m.k, .int .i64 m.f, .int .i64 m.v, .int .i64 m.i, .int .i64 m.q, .int .i64 m.r, vb, vo, vc, vp], .int .i64 f, .int .i64 cl] w fun e w' => e = .returned (.bool (Psp.formM m f cl)) ∧ Below w.heap.size w w' := by
  obtain ⟨Ab, Ao, Ac, Ap, cb, co, cc, cp, rfl, rfl, rfl, rfl⟩ := msg_slices hx
  have HX := Lib.hid hx
  have Hw := Lib.hid hw
  obtain ⟨q, hq⟩ : ∃ q, Psp.nodes f = q := ⟨_, rfl⟩
  have hq0 : (q == 0) = false := by rw [← hq, may_zero, hf]; rfl
  have hbn := b_nodes_any f
  rw [hq] at hbn
  have HNn := Lib.hid hbn
  obtain ⟨nb, hnb⟩ : ∃ x, Psp.nodeB m.f f = x := ⟨_, rfl⟩
  have HNo0 : Hid (∀ w' : World, Calls Tryz.prog 93 #[.agg #[.int .i64 f, .int .i64 cl], .int .i64 m.f] w' fun e w'' => e = .returned (.bool nb) ∧ Below w'.heap.size w' w'') := Lib.hid fun w' => by rw [← hnb]; exact node_any _ _ _ w'

  have t1 : (m.k == 1) = false := by rw [hk]; rfl
  have t2 : (m.k == 2) = false := by rw [hk]; rfl
  have t3 : (m.k == 3) = false := by rw [hk]; rfl
  have t4 : (m.k == 4) = false := by rw [hk]; rfl
  have t5 : (m.k == 5) = false := by rw [hk]; rfl
  have t6 : (m.k == 6) = false := by rw [hk]; rfl
  have t7 : (m.k == 7) = false := by rw [hk]; rfl
  have t8 : (m.k == 8) = true := by rw [hk]; rfl
  have t9 : (m.k == 9) = false := by rw [hk]; rfl
  have t10 : (m.k == 10) = false := by rw [hk]; rfl
  obtain ⟨pr, hpr⟩ : ∃ x, Psp.primary f m.v m.i = x := ⟨_, rfl⟩
  have HPr : Hid (∀ w' : World, Calls Tryz.prog 94 #[.int .i64 f, .int .i64 m.v, .int .i64 m.i] w' fun e w'' => e = .returned (.int .i64 pr) ∧ w' = w'') := Lib.hid fun w' => by rw [← hpr]; exact b_primary_any f m.v m.i w' hw.2.2.1.1 hw.2.2.1.2 hw.2.2.2.1.1 hw.2.2.2.1.2
  obtain ⟨b0, hb0⟩ : ∃ x, Psp.noB [m.q, m.r] = x := ⟨_, rfl⟩
  have HNo : Hid (∀ (w' : World) (b : Nat), Lies w' b 0 ([m.q, m.r].map iv) → Calls Tryz.prog 90 #[.slice (some ⟨b, 0, none⟩) 2 2] w' fun e w'' => e = .returned (.bool b0) ∧ w' = w'') := Lib.hid fun w' b hl => by rw [← hb0]; exact nou_any [m.q, m.r] b 2 w' rfl hl (by omega)
  obtain ⟨b1, hb1⟩ : ∃ x, Psp.bareB m false false false true = x := ⟨_, rfl⟩
  have HBa : Hid (∀ w' : World, Calls Tryz.prog 91 #[.agg #[.int .i64 m.k, .int .i64 m.f, .int .i64 m.v, .int .i64 m.i, .int .i64 m.q, .int .i64 m.r, .slice Ab m.b.length cb, .slice Ao m.o.length co, .slice Ac m.c.length cc, .slice Ap m.p.length cp], .bool false, .bool false, .bool false, .bool true] w' fun e w'' => e = .returned (.bool b1) ∧ Below w'.heap.size w' w'') := Lib.hid fun w' => by rw [← hb1]; exact bare_n _ _ _ _ _ _ _ _ _ _ _ _ _ _ _ _ _ _ _ _ _ _ w'
  obtain ⟨b2, hb2⟩ : ∃ x, Psp.win m.v 1 12 = x := ⟨_, rfl⟩
  have hwina : Psp.win m.v 1 12 = b2 := hb2
  obtain ⟨b3, hb3⟩ : ∃ x, Psp.win m.i 0 f = x := ⟨_, rfl⟩
  have hwinb : Psp.win m.i 0 f = b3 := hb3
  obtain ⟨b4, hb4⟩ : ∃ x, decide (m.f = Psp.primary f m.v m.i) = x := ⟨_, rfl⟩
  have hy : (m.f == pr) = b4 := by rw [← hb4, hpr]; rfl
  obtain ⟨b5, hb5⟩ : ∃ x, Psp.partsB m.v m.p f cl = x := ⟨_, rfl⟩
  have HPa : Hid (∀ w' : World, Hid (Fb w w' m (.slice Ab m.b.length cb) (.slice Ao m.o.length co) (.slice Ac m.c.length cc) (.slice Ap m.p.length cp) f cl) → Calls Tryz.prog 96 #[.agg #[.int .i64 f, .int .i64 cl], .int .i64 m.v, .slice Ap m.p.length cp] w' fun e w'' => e = .returned (.bool b5) ∧ Below w'.heap.size w' w'') := Lib.hid fun w' h => by rw [← hb5]; exact parts_l m.v m.p _ f cl w' P (HX.out.2.2.2.keeps (Keeps.below h.out.be)) Hw.out.2.2.2.2.2.2.2.2.2
  have Hr : Hid (Psp.formM m f cl = (nb && (b0 && (b1 && (b2 && (b3 && (b4 && (b5)))))))) := Lib.hid (by unfold Psp.formM; rw [hf, hk, hnb]; simp only [Int.reduceEq, if_false, if_true, or_false, or_true, Bool.true_and, false_or]; rw [hb0, hb1, hb2, hb3, hb4, hb5])
  clear hq hbn hnb hx hw hpr hb0 hb1 hb2 hb3 hb4 hb5 hk hf
  have HF0 := fb_start w m (.slice Ab m.b.length cb) (.slice Ao m.o.length co) (.slice Ac m.c.length cc) (.slice Ap m.p.length cp) f cl
  obtain ⟨HF, c0, c1, c2, c3, c4, c5, c6, c7, c8, c9, c10, c11⟩ := keepF HF0 (Below.refl _ _)
  go_enter Tryz.func46, Tryz.ntmps46
  go_wp2_with (first | (go_at_call 89; refine (HNn.out _).mono ?_; rintro e w' ⟨rfl, rfl⟩))
  refine (HNo0.out _).mono ?_
  rintro e w2 ⟨rfl, hb'⟩
  obtain ⟨HF, c0, c1, c2, c3, c4, c5, c6, c7, c8, c9, c10, c11⟩ := keepF HF hb'
  clear hb' HF0
  cases nb with
  | false =>
    go_wp2_with fail
    go_ret
    exact ⟨by rw [Hr.out]; rfl, HF.out.be⟩
  | true =>
    cases b0 with
    | false =>
      go_wp2_with fail
      have l0 := later_cell (w := w2.drew) c0
      have l1 := later_cell (w := w2.drew) c1
      have l2 := later_cell (w := w2.drew) c2
      have l3 := later_cell (w := w2.drew) c3
      have l4 := later_cell (w := w2.drew) c4
      have l5 := later_cell (w := w2.drew) c5
      have l6 := later_cell (w := w2.drew) c6
      have l7 := later_cell (w := w2.drew) c7
      have l8 := later_cell (w := w2.drew) c8
      have l9 := later_cell (w := w2.drew) c9
      refine wp_region_phases_quiet [(true, 0), (true, 1), (true, 2), (true, 3)] 2 (by kernel_rfl) (by kernel_rfl) ?_
      simp only [phW, List.getElem?_cons_zero, List.getElem?_cons_succ, Option.toList, List.length_cons, List.length_nil, Nat.reduceAdd, List.drop_succ_cons, List.drop_zero, List.take_succ_cons, List.take_zero]
      repeat (first | go_big_quiet_step (fail) | quiet_step (fail) | refine wpQuiet_nil ?_)
      clear l0 l1 l2 l3 l4 l5 l6 l7 l8 l9 c0 c1 c2 c3 c4 c5 c6 c7 c8 c9 c10 c11
      go_wp2_with fail
      refine (HNo.out _ _ (lies_new w2.drew [.int .i64 m.q, .int .i64 m.r] 3 _ rfl)).mono ?_
      rintro e w3 ⟨rfl, rfl⟩
      go_wp2_with fail
      obtain ⟨HF3, c0, c1, c2, c3, c4, c5, c6, c7, c8, c9, c10, c11⟩ := keepF HF ((alloc_below w2 (.cells #[.int .i64 m.q, .int .i64 m.r] 3)).drew)
      obtain ⟨w3, hw3⟩ : ∃ w3, (w2.alloc (.cells #[.int .i64 m.q, .int .i64 m.r] 3)).drew = w3 := ⟨_, rfl⟩
      rw [hw3] at HF3 c0 c1 c2 c3 c4 c5 c6 c7 c8 c9 c10 c11
      try rw [hw3]
      clear hw3
      have l0 := later_cell (w := w3) c0
      have l1 := later_cell (w := w3) c1
      have l2 := later_cell (w := w3) c2
      have l3 := later_cell (w := w3) c3
      have l4 := later_cell (w := w3) c4
      have l5 := later_cell (w := w3) c5
      have l6 := later_cell (w := w3) c6
      have l7 := later_cell (w := w3) c7
      have l8 := later_cell (w := w3) c8
      have l9 := later_cell (w := w3) c9
      have l10 := later_cell (w := w3) c10
      have l11 := later_cell (w := w3) c11
      have HRL : Hid (∀ w' : World, (∃ p : Later w3, w' = p.W) → w'.rangeAt (w.heap.size + 1) 0 [.int .i64 f, .int .i64 cl]) := Lib.hid (by rintro w' ⟨p, rfl⟩; exact (HF3.out.below p.h).lk)
      have HRM : Hid (∀ w' : World, (∃ p : Later w3, w' = p.W) → w'.rangeAt w.heap.size 0 [.int .i64 m.k, .int .i64 m.f, .int .i64 m.v, .int .i64 m.i, .int .i64 m.q, .int .i64 m.r, .slice Ab m.b.length cb, .slice Ao m.o.length co, .slice Ac m.c.length cc, .slice Ap m.p.length cp]) := Lib.hid (by rintro w' ⟨p, rfl⟩; exact (HF3.out.below p.h).range)
      show wpQuiet _ _ _ _ _ _
      repeat (first | go_big_quiet_step (first | (go_at_call 91; exact later_call _ (HBa.out _)) | (go_at_call 63; exact later_same _ (win_any _ _ _ _)) | (go_at_call 94; exact later_same _ (HPr.out _)) | (go_at_call 96; exact later_call _ (HPa.out _ (Lib.hid (HF3.out.below (Later.h _)))))) | (refine quiet_load (by simp [Region.wanted, yielded]) 104 (.tmp 7) (by rfl) (w.heap.size + 1) (0) (by rfl) [.int .i64 f, .int .i64 cl] _ HRL.out Tryz.underlying104 rfl lk_size ?_; intro K hK; go_simp; refine hK _ ?_; clear hK K) | (refine quiet_load (by simp [Region.wanted, yielded]) 41 (.tmp 3) (by rfl) w.heap.size (0) (by rfl) [.int .i64 m.k, .int .i64 m.f, .int .i64 m.v, .int .i64 m.i, .int .i64 m.q, .int .i64 m.r, .slice Ab m.b.length cb, .slice Ao m.o.length co, .slice Ac m.c.length cc, .slice Ap m.p.length cp] _ HRM.out Tryz.underlying41 rfl sizeM ?_; intro K hK; go_simp; refine hK _ ?_; clear hK K) | quiet_step (first | (go_at_call 91; exact later_call _ (HBa.out _)) | (go_at_call 63; exact later_same _ (win_any _ _ _ _)) | (go_at_call 94; exact later_same _ (HPr.out _)) | (go_at_call 96; exact later_call _ (HPa.out _ (Lib.hid (HF3.out.below (Later.h _)))))))
      refine wpQuiet_nil ?_
      intro w4 hw'
      have hb4 := later_out hw'
      clear hw'
      have HF4 := Lib.hid (HF3.out.below hb4)
      clear hb4
      go_wp2_with fail
      go_ret
      exact ⟨by rw [Hr.out]; rfl, HF4.out.be⟩
    | true =>
      cases b1 with
      | false =>
        go_wp2_with fail
        have l0 := later_cell (w := w2.drew) c0
        have l1 := later_cell (w := w2.drew) c1
        have l2 := later_cell (w := w2.drew) c2
        have l3 := later_cell (w := w2.drew) c3
        have l4 := later_cell (w := w2.drew) c4
        have l5 := later_cell (w := w2.drew) c5
        have l6 := later_cell (w := w2.drew) c6
        have l7 := later_cell (w := w2.drew) c7
        have l8 := later_cell (w := w2.drew) c8
        have l9 := later_cell (w := w2.drew) c9
        refine wp_region_phases_quiet [(true, 0), (true, 1), (true, 2), (true, 3)] 2 (by kernel_rfl) (by kernel_rfl) ?_
        simp only [phW, List.getElem?_cons_zero, List.getElem?_cons_succ, Option.toList, List.length_cons, List.length_nil, Nat.reduceAdd, List.drop_succ_cons, List.drop_zero, List.take_succ_cons, List.take_zero]
        repeat (first | go_big_quiet_step (fail) | quiet_step (fail) | refine wpQuiet_nil ?_)
        clear l0 l1 l2 l3 l4 l5 l6 l7 l8 l9 c0 c1 c2 c3 c4 c5 c6 c7 c8 c9 c10 c11
        go_wp2_with fail
        refine (HNo.out _ _ (lies_new w2.drew [.int .i64 m.q, .int .i64 m.r] 3 _ rfl)).mono ?_
        rintro e w3 ⟨rfl, rfl⟩
        go_wp2_with fail
        obtain ⟨HF3, c0, c1, c2, c3, c4, c5, c6, c7, c8, c9, c10, c11⟩ := keepF HF ((alloc_below w2 (.cells #[.int .i64 m.q, .int .i64 m.r] 3)).drew)
        obtain ⟨w3, hw3⟩ : ∃ w3, (w2.alloc (.cells #[.int .i64 m.q, .int .i64 m.r] 3)).drew = w3 := ⟨_, rfl⟩
        rw [hw3] at HF3 c0 c1 c2 c3 c4 c5 c6 c7 c8 c9 c10 c11
        try rw [hw3]
        clear hw3
        have l0 := later_cell (w := w3) c0
        have l1 := later_cell (w := w3) c1
        have l2 := later_cell (w := w3) c2
        have l3 := later_cell (w := w3) c3
        have l4 := later_cell (w := w3) c4
        have l5 := later_cell (w := w3) c5
        have l6 := later_cell (w := w3) c6
        have l7 := later_cell (w := w3) c7
        have l8 := later_cell (w := w3) c8
        have l9 := later_cell (w := w3) c9
        have l10 := later_cell (w := w3) c10
        have l11 := later_cell (w := w3) c11
        have HRL : Hid (∀ w' : World, (∃ p : Later w3, w' = p.W) → w'.rangeAt (w.heap.size + 1) 0 [.int .i64 f, .int .i64 cl]) := Lib.hid (by rintro w' ⟨p, rfl⟩; exact (HF3.out.below p.h).lk)
        have HRM : Hid (∀ w' : World, (∃ p : Later w3, w' = p.W) → w'.rangeAt w.heap.size 0 [.int .i64 m.k, .int .i64 m.f, .int .i64 m.v, .int .i64 m.i, .int .i64 m.q, .int .i64 m.r, .slice Ab m.b.length cb, .slice Ao m.o.length co, .slice Ac m.c.length cc, .slice Ap m.p.length cp]) := Lib.hid (by rintro w' ⟨p, rfl⟩; exact (HF3.out.below p.h).range)
        show wpQuiet _ _ _ _ _ _
        repeat (first | go_big_quiet_step (first | (go_at_call 91; exact later_call _ (HBa.out _)) | (go_at_call 63; exact later_same _ (win_any _ _ _ _)) | (go_at_call 94; exact later_same _ (HPr.out _)) | (go_at_call 96; exact later_call _ (HPa.out _ (Lib.hid (HF3.out.below (Later.h _)))))) | (refine quiet_load (by simp [Region.wanted, yielded]) 104 (.tmp 7) (by rfl) (w.heap.size + 1) (0) (by rfl) [.int .i64 f, .int .i64 cl] _ HRL.out Tryz.underlying104 rfl lk_size ?_; intro K hK; go_simp; refine hK _ ?_; clear hK K) | (refine quiet_load (by simp [Region.wanted, yielded]) 41 (.tmp 3) (by rfl) w.heap.size (0) (by rfl) [.int .i64 m.k, .int .i64 m.f, .int .i64 m.v, .int .i64 m.i, .int .i64 m.q, .int .i64 m.r, .slice Ab m.b.length cb, .slice Ao m.o.length co, .slice Ac m.c.length cc, .slice Ap m.p.length cp] _ HRM.out Tryz.underlying41 rfl sizeM ?_; intro K hK; go_simp; refine hK _ ?_; clear hK K) | quiet_step (first | (go_at_call 91; exact later_call _ (HBa.out _)) | (go_at_call 63; exact later_same _ (win_any _ _ _ _)) | (go_at_call 94; exact later_same _ (HPr.out _)) | (go_at_call 96; exact later_call _ (HPa.out _ (Lib.hid (HF3.out.below (Later.h _)))))))
        refine wpQuiet_nil ?_
        intro w4 hw'
        have hb4 := later_out hw'
        clear hw'
        have HF4 := Lib.hid (HF3.out.below hb4)
        clear hb4
        go_wp2_with fail
        go_ret
        exact ⟨by rw [Hr.out]; rfl, HF4.out.be⟩
      | true =>
        cases b2 with
        | false =>
          go_wp2_with fail
          have l0 := later_cell (w := w2.drew) c0
          have l1 := later_cell (w := w2.drew) c1
          have l2 := later_cell (w := w2.drew) c2
          have l3 := later_cell (w := w2.drew) c3
          have l4 := later_cell (w := w2.drew) c4
          have l5 := later_cell (w := w2.drew) c5
          have l6 := later_cell (w := w2.drew) c6
          have l7 := later_cell (w := w2.drew) c7
          have l8 := later_cell (w := w2.drew) c8
          have l9 := later_cell (w := w2.drew) c9
          refine wp_region_phases_quiet [(true, 0), (true, 1), (true, 2), (true, 3)] 2 (by kernel_rfl) (by kernel_rfl) ?_
          simp only [phW, List.getElem?_cons_zero, List.getElem?_cons_succ, Option.toList, List.length_cons, List.length_nil, Nat.reduceAdd, List.drop_succ_cons, List.drop_zero, List.take_succ_cons, List.take_zero]
          repeat (first | go_big_quiet_step (fail) | quiet_step (fail) | refine wpQuiet_nil ?_)
          clear l0 l1 l2 l3 l4 l5 l6 l7 l8 l9 c0 c1 c2 c3 c4 c5 c6 c7 c8 c9 c10 c11
          go_wp2_with fail
          refine (HNo.out _ _ (lies_new w2.drew [.int .i64 m.q, .int .i64 m.r] 3 _ rfl)).mono ?_
          rintro e w3 ⟨rfl, rfl⟩
          go_wp2_with fail
          obtain ⟨HF3, c0, c1, c2, c3, c4, c5, c6, c7, c8, c9, c10, c11⟩ := keepF HF ((alloc_below w2 (.cells #[.int .i64 m.q, .int .i64 m.r] 3)).drew)
          obtain ⟨w3, hw3⟩ : ∃ w3, (w2.alloc (.cells #[.int .i64 m.q, .int .i64 m.r] 3)).drew = w3 := ⟨_, rfl⟩
          rw [hw3] at HF3 c0 c1 c2 c3 c4 c5 c6 c7 c8 c9 c10 c11
          try rw [hw3]
          clear hw3
          have l0 := later_cell (w := w3) c0
          have l1 := later_cell (w := w3) c1
          have l2 := later_cell (w := w3) c2
          have l3 := later_cell (w := w3) c3
          have l4 := later_cell (w := w3) c4
          have l5 := later_cell (w := w3) c5
          have l6 := later_cell (w := w3) c6
          have l7 := later_cell (w := w3) c7
          have l8 := later_cell (w := w3) c8
          have l9 := later_cell (w := w3) c9
          have l10 := later_cell (w := w3) c10
          have l11 := later_cell (w := w3) c11
          have HRL : Hid (∀ w' : World, (∃ p : Later w3, w' = p.W) → w'.rangeAt (w.heap.size + 1) 0 [.int .i64 f, .int .i64 cl]) := Lib.hid (by rintro w' ⟨p, rfl⟩; exact (HF3.out.below p.h).lk)
          have HRM : Hid (∀ w' : World, (∃ p : Later w3, w' = p.W) → w'.rangeAt w.heap.size 0 [.int .i64 m.k, .int .i64 m.f, .int .i64 m.v, .int .i64 m.i, .int .i64 m.q, .int .i64 m.r, .slice Ab m.b.length cb, .slice Ao m.o.length co, .slice Ac m.c.length cc, .slice Ap m.p.length cp]) := Lib.hid (by rintro w' ⟨p, rfl⟩; exact (HF3.out.below p.h).range)
          show wpQuiet _ _ _ _ _ _
          repeat (first | go_big_quiet_step (first | (go_at_call 91; exact later_call _ (HBa.out _)) | (go_at_call 63; exact later_same _ (win_any _ _ _ _)) | (go_at_call 94; exact later_same _ (HPr.out _)) | (go_at_call 96; exact later_call _ (HPa.out _ (Lib.hid (HF3.out.below (Later.h _)))))) | (refine quiet_load (by simp [Region.wanted, yielded]) 104 (.tmp 7) (by rfl) (w.heap.size + 1) (0) (by rfl) [.int .i64 f, .int .i64 cl] _ HRL.out Tryz.underlying104 rfl lk_size ?_; intro K hK; go_simp; refine hK _ ?_; clear hK K) | (refine quiet_load (by simp [Region.wanted, yielded]) 41 (.tmp 3) (by rfl) w.heap.size (0) (by rfl) [.int .i64 m.k, .int .i64 m.f, .int .i64 m.v, .int .i64 m.i, .int .i64 m.q, .int .i64 m.r, .slice Ab m.b.length cb, .slice Ao m.o.length co, .slice Ac m.c.length cc, .slice Ap m.p.length cp] _ HRM.out Tryz.underlying41 rfl sizeM ?_; intro K hK; go_simp; refine hK _ ?_; clear hK K) | quiet_step (first | (go_at_call 91; exact later_call _ (HBa.out _)) | (go_at_call 63; exact later_same _ (win_any _ _ _ _)) | (go_at_call 94; exact later_same _ (HPr.out _)) | (go_at_call 96; exact later_call _ (HPa.out _ (Lib.hid (HF3.out.below (Later.h _)))))))
          refine wpQuiet_nil ?_
          intro w4 hw'
          have hb4 := later_out hw'
          clear hw'
          have HF4 := Lib.hid (HF3.out.below hb4)
          clear hb4
          go_wp2_with fail
          go_ret
          exact ⟨by rw [Hr.out]; rfl, HF4.out.be⟩
        | true =>
          cases b3 with
          | false =>
            go_wp2_with fail
            have l0 := later_cell (w := w2.drew) c0
            have l1 := later_cell (w := w2.drew) c1
            have l2 := later_cell (w := w2.drew) c2
            have l3 := later_cell (w := w2.drew) c3
            have l4 := later_cell (w := w2.drew) c4
            have l5 := later_cell (w := w2.drew) c5
            have l6 := later_cell (w := w2.drew) c6
            have l7 := later_cell (w := w2.drew) c7
            have l8 := later_cell (w := w2.drew) c8
            have l9 := later_cell (w := w2.drew) c9
            refine wp_region_phases_quiet [(true, 0), (true, 1), (true, 2), (true, 3)] 2 (by kernel_rfl) (by kernel_rfl) ?_
            simp only [phW, List.getElem?_cons_zero, List.getElem?_cons_succ, Option.toList, List.length_cons, List.length_nil, Nat.reduceAdd, List.drop_succ_cons, List.drop_zero, List.take_succ_cons, List.take_zero]
            repeat (first | go_big_quiet_step (fail) | quiet_step (fail) | refine wpQuiet_nil ?_)
            clear l0 l1 l2 l3 l4 l5 l6 l7 l8 l9 c0 c1 c2 c3 c4 c5 c6 c7 c8 c9 c10 c11
            go_wp2_with fail
            refine (HNo.out _ _ (lies_new w2.drew [.int .i64 m.q, .int .i64 m.r] 3 _ rfl)).mono ?_
            rintro e w3 ⟨rfl, rfl⟩
            go_wp2_with fail
            obtain ⟨HF3, c0, c1, c2, c3, c4, c5, c6, c7, c8, c9, c10, c11⟩ := keepF HF ((alloc_below w2 (.cells #[.int .i64 m.q, .int .i64 m.r] 3)).drew)
            obtain ⟨w3, hw3⟩ : ∃ w3, (w2.alloc (.cells #[.int .i64 m.q, .int .i64 m.r] 3)).drew = w3 := ⟨_, rfl⟩
            rw [hw3] at HF3 c0 c1 c2 c3 c4 c5 c6 c7 c8 c9 c10 c11
            try rw [hw3]
            clear hw3
            have l0 := later_cell (w := w3) c0
            have l1 := later_cell (w := w3) c1
            have l2 := later_cell (w := w3) c2
            have l3 := later_cell (w := w3) c3
            have l4 := later_cell (w := w3) c4
            have l5 := later_cell (w := w3) c5
            have l6 := later_cell (w := w3) c6
            have l7 := later_cell (w := w3) c7
            have l8 := later_cell (w := w3) c8
            have l9 := later_cell (w := w3) c9
            have l10 := later_cell (w := w3) c10
            have l11 := later_cell (w := w3) c11
            have HRL : Hid (∀ w' : World, (∃ p : Later w3, w' = p.W) → w'.rangeAt (w.heap.size + 1) 0 [.int .i64 f, .int .i64 cl]) := Lib.hid (by rintro w' ⟨p, rfl⟩; exact (HF3.out.below p.h).lk)
            have HRM : Hid (∀ w' : World, (∃ p : Later w3, w' = p.W) → w'.rangeAt w.heap.size 0 [.int .i64 m.k, .int .i64 m.f, .int .i64 m.v, .int .i64 m.i, .int .i64 m.q, .int .i64 m.r, .slice Ab m.b.length cb, .slice Ao m.o.length co, .slice Ac m.c.length cc, .slice Ap m.p.length cp]) := Lib.hid (by rintro w' ⟨p, rfl⟩; exact (HF3.out.below p.h).range)
            show wpQuiet _ _ _ _ _ _
            repeat (first | go_big_quiet_step (first | (go_at_call 91; exact later_call _ (HBa.out _)) | (go_at_call 63; exact later_same _ (win_any _ _ _ _)) | (go_at_call 94; exact later_same _ (HPr.out _)) | (go_at_call 96; exact later_call _ (HPa.out _ (Lib.hid (HF3.out.below (Later.h _)))))) | (refine quiet_load (by simp [Region.wanted, yielded]) 104 (.tmp 7) (by rfl) (w.heap.size + 1) (0) (by rfl) [.int .i64 f, .int .i64 cl] _ HRL.out Tryz.underlying104 rfl lk_size ?_; intro K hK; go_simp; refine hK _ ?_; clear hK K) | (refine quiet_load (by simp [Region.wanted, yielded]) 41 (.tmp 3) (by rfl) w.heap.size (0) (by rfl) [.int .i64 m.k, .int .i64 m.f, .int .i64 m.v, .int .i64 m.i, .int .i64 m.q, .int .i64 m.r, .slice Ab m.b.length cb, .slice Ao m.o.length co, .slice Ac m.c.length cc, .slice Ap m.p.length cp] _ HRM.out Tryz.underlying41 rfl sizeM ?_; intro K hK; go_simp; refine hK _ ?_; clear hK K) | quiet_step (first | (go_at_call 91; exact later_call _ (HBa.out _)) | (go_at_call 63; exact later_same _ (win_any _ _ _ _)) | (go_at_call 94; exact later_same _ (HPr.out _)) | (go_at_call 96; exact later_call _ (HPa.out _ (Lib.hid (HF3.out.below (Later.h _)))))))
            refine wpQuiet_nil ?_
            intro w4 hw'
            have hb4 := later_out hw'
            clear hw'
            have HF4 := Lib.hid (HF3.out.below hb4)
            clear hb4
            go_wp2_with fail
            go_ret
            exact ⟨by rw [Hr.out]; rfl, HF4.out.be⟩
          | true =>
            cases b4 with
            | false =>
              go_wp2_with fail
              have l0 := later_cell (w := w2.drew) c0
              have l1 := later_cell (w := w2.drew) c1
              have l2 := later_cell (w := w2.drew) c2
              have l3 := later_cell (w := w2.drew) c3
              have l4 := later_cell (w := w2.drew) c4
              have l5 := later_cell (w := w2.drew) c5
              have l6 := later_cell (w := w2.drew) c6
              have l7 := later_cell (w := w2.drew) c7
              have l8 := later_cell (w := w2.drew) c8
              have l9 := later_cell (w := w2.drew) c9
              refine wp_region_phases_quiet [(true, 0), (true, 1), (true, 2), (true, 3)] 2 (by kernel_rfl) (by kernel_rfl) ?_
              simp only [phW, List.getElem?_cons_zero, List.getElem?_cons_succ, Option.toList, List.length_cons, List.length_nil, Nat.reduceAdd, List.drop_succ_cons, List.drop_zero, List.take_succ_cons, List.take_zero]
              repeat (first | go_big_quiet_step (fail) | quiet_step (fail) | refine wpQuiet_nil ?_)
              clear l0 l1 l2 l3 l4 l5 l6 l7 l8 l9 c0 c1 c2 c3 c4 c5 c6 c7 c8 c9 c10 c11
              go_wp2_with fail
              refine (HNo.out _ _ (lies_new w2.drew [.int .i64 m.q, .int .i64 m.r] 3 _ rfl)).mono ?_
              rintro e w3 ⟨rfl, rfl⟩
              go_wp2_with fail
              obtain ⟨HF3, c0, c1, c2, c3, c4, c5, c6, c7, c8, c9, c10, c11⟩ := keepF HF ((alloc_below w2 (.cells #[.int .i64 m.q, .int .i64 m.r] 3)).drew)
              obtain ⟨w3, hw3⟩ : ∃ w3, (w2.alloc (.cells #[.int .i64 m.q, .int .i64 m.r] 3)).drew = w3 := ⟨_, rfl⟩
              rw [hw3] at HF3 c0 c1 c2 c3 c4 c5 c6 c7 c8 c9 c10 c11
              try rw [hw3]
              clear hw3
              have l0 := later_cell (w := w3) c0
              have l1 := later_cell (w := w3) c1
              have l2 := later_cell (w := w3) c2
              have l3 := later_cell (w := w3) c3
              have l4 := later_cell (w := w3) c4
              have l5 := later_cell (w := w3) c5
              have l6 := later_cell (w := w3) c6
              have l7 := later_cell (w := w3) c7
              have l8 := later_cell (w := w3) c8
              have l9 := later_cell (w := w3) c9
              have l10 := later_cell (w := w3) c10
              have l11 := later_cell (w := w3) c11
              have HRL : Hid (∀ w' : World, (∃ p : Later w3, w' = p.W) → w'.rangeAt (w.heap.size + 1) 0 [.int .i64 f, .int .i64 cl]) := Lib.hid (by rintro w' ⟨p, rfl⟩; exact (HF3.out.below p.h).lk)
              have HRM : Hid (∀ w' : World, (∃ p : Later w3, w' = p.W) → w'.rangeAt w.heap.size 0 [.int .i64 m.k, .int .i64 m.f, .int .i64 m.v, .int .i64 m.i, .int .i64 m.q, .int .i64 m.r, .slice Ab m.b.length cb, .slice Ao m.o.length co, .slice Ac m.c.length cc, .slice Ap m.p.length cp]) := Lib.hid (by rintro w' ⟨p, rfl⟩; exact (HF3.out.below p.h).range)
              show wpQuiet _ _ _ _ _ _
              repeat (first | go_big_quiet_step (first | (go_at_call 91; exact later_call _ (HBa.out _)) | (go_at_call 63; exact later_same _ (win_any _ _ _ _)) | (go_at_call 94; exact later_same _ (HPr.out _)) | (go_at_call 96; exact later_call _ (HPa.out _ (Lib.hid (HF3.out.below (Later.h _)))))) | (refine quiet_load (by simp [Region.wanted, yielded]) 104 (.tmp 7) (by rfl) (w.heap.size + 1) (0) (by rfl) [.int .i64 f, .int .i64 cl] _ HRL.out Tryz.underlying104 rfl lk_size ?_; intro K hK; go_simp; refine hK _ ?_; clear hK K) | (refine quiet_load (by simp [Region.wanted, yielded]) 41 (.tmp 3) (by rfl) w.heap.size (0) (by rfl) [.int .i64 m.k, .int .i64 m.f, .int .i64 m.v, .int .i64 m.i, .int .i64 m.q, .int .i64 m.r, .slice Ab m.b.length cb, .slice Ao m.o.length co, .slice Ac m.c.length cc, .slice Ap m.p.length cp] _ HRM.out Tryz.underlying41 rfl sizeM ?_; intro K hK; go_simp; refine hK _ ?_; clear hK K) | quiet_step (first | (go_at_call 91; exact later_call _ (HBa.out _)) | (go_at_call 63; exact later_same _ (win_any _ _ _ _)) | (go_at_call 94; exact later_same _ (HPr.out _)) | (go_at_call 96; exact later_call _ (HPa.out _ (Lib.hid (HF3.out.below (Later.h _)))))))
              refine wpQuiet_nil ?_
              intro w4 hw'
              have hb4 := later_out hw'
              clear hw'
              have HF4 := Lib.hid (HF3.out.below hb4)
              clear hb4
              go_wp2_with fail
              go_ret
              exact ⟨by rw [Hr.out]; rfl, HF4.out.be⟩
            | true =>
              go_wp2_with fail
              have l0 := later_cell (w := w2.drew) c0
              have l1 := later_cell (w := w2.drew) c1
              have l2 := later_cell (w := w2.drew) c2
              have l3 := later_cell (w := w2.drew) c3
              have l4 := later_cell (w := w2.drew) c4
              have l5 := later_cell (w := w2.drew) c5
              have l6 := later_cell (w := w2.drew) c6
              have l7 := later_cell (w := w2.drew) c7
              have l8 := later_cell (w := w2.drew) c8
              have l9 := later_cell (w := w2.drew) c9
              refine wp_region_phases_quiet [(true, 0), (true, 1), (true, 2), (true, 3)] 2 (by kernel_rfl) (by kernel_rfl) ?_
              simp only [phW, List.getElem?_cons_zero, List.getElem?_cons_succ, Option.toList, List.length_cons, List.length_nil, Nat.reduceAdd, List.drop_succ_cons, List.drop_zero, List.take_succ_cons, List.take_zero]
              repeat (first | go_big_quiet_step (fail) | quiet_step (fail) | refine wpQuiet_nil ?_)
              clear l0 l1 l2 l3 l4 l5 l6 l7 l8 l9 c0 c1 c2 c3 c4 c5 c6 c7 c8 c9 c10 c11
              go_wp2_with fail
              refine (HNo.out _ _ (lies_new w2.drew [.int .i64 m.q, .int .i64 m.r] 3 _ rfl)).mono ?_
              rintro e w3 ⟨rfl, rfl⟩
              go_wp2_with fail
              obtain ⟨HF3, c0, c1, c2, c3, c4, c5, c6, c7, c8, c9, c10, c11⟩ := keepF HF ((alloc_below w2 (.cells #[.int .i64 m.q, .int .i64 m.r] 3)).drew)
              obtain ⟨w3, hw3⟩ : ∃ w3, (w2.alloc (.cells #[.int .i64 m.q, .int .i64 m.r] 3)).drew = w3 := ⟨_, rfl⟩
              rw [hw3] at HF3 c0 c1 c2 c3 c4 c5 c6 c7 c8 c9 c10 c11
              try rw [hw3]
              clear hw3
              have l0 := later_cell (w := w3) c0
              have l1 := later_cell (w := w3) c1
              have l2 := later_cell (w := w3) c2
              have l3 := later_cell (w := w3) c3
              have l4 := later_cell (w := w3) c4
              have l5 := later_cell (w := w3) c5
              have l6 := later_cell (w := w3) c6
              have l7 := later_cell (w := w3) c7
              have l8 := later_cell (w := w3) c8
              have l9 := later_cell (w := w3) c9
              have l10 := later_cell (w := w3) c10
              have l11 := later_cell (w := w3) c11
              have HRL : Hid (∀ w' : World, (∃ p : Later w3, w' = p.W) → w'.rangeAt (w.heap.size + 1) 0 [.int .i64 f, .int .i64 cl]) := Lib.hid (by rintro w' ⟨p, rfl⟩; exact (HF3.out.below p.h).lk)
              have HRM : Hid (∀ w' : World, (∃ p : Later w3, w' = p.W) → w'.rangeAt w.heap.size 0 [.int .i64 m.k, .int .i64 m.f, .int .i64 m.v, .int .i64 m.i, .int .i64 m.q, .int .i64 m.r, .slice Ab m.b.length cb, .slice Ao m.o.length co, .slice Ac m.c.length cc, .slice Ap m.p.length cp]) := Lib.hid (by rintro w' ⟨p, rfl⟩; exact (HF3.out.below p.h).range)
              show wpQuiet _ _ _ _ _ _
              repeat (first | go_big_quiet_step (first | (go_at_call 91; exact later_call _ (HBa.out _)) | (go_at_call 63; exact later_same _ (win_any _ _ _ _)) | (go_at_call 94; exact later_same _ (HPr.out _)) | (go_at_call 96; exact later_call _ (HPa.out _ (Lib.hid (HF3.out.below (Later.h _)))))) | (refine quiet_load (by simp [Region.wanted, yielded]) 104 (.tmp 7) (by rfl) (w.heap.size + 1) (0) (by rfl) [.int .i64 f, .int .i64 cl] _ HRL.out Tryz.underlying104 rfl lk_size ?_; intro K hK; go_simp; refine hK _ ?_; clear hK K) | (refine quiet_load (by simp [Region.wanted, yielded]) 41 (.tmp 3) (by rfl) w.heap.size (0) (by rfl) [.int .i64 m.k, .int .i64 m.f, .int .i64 m.v, .int .i64 m.i, .int .i64 m.q, .int .i64 m.r, .slice Ab m.b.length cb, .slice Ao m.o.length co, .slice Ac m.c.length cc, .slice Ap m.p.length cp] _ HRM.out Tryz.underlying41 rfl sizeM ?_; intro K hK; go_simp; refine hK _ ?_; clear hK K) | quiet_step (first | (go_at_call 91; exact later_call _ (HBa.out _)) | (go_at_call 63; exact later_same _ (win_any _ _ _ _)) | (go_at_call 94; exact later_same _ (HPr.out _)) | (go_at_call 96; exact later_call _ (HPa.out _ (Lib.hid (HF3.out.below (Later.h _)))))))
              refine wpQuiet_nil ?_
              intro w4 hw'
              have hb4 := later_out hw'
              clear hw'
              have HF4 := Lib.hid (HF3.out.below hb4)
              clear hb4
              go_wp2_with fail
              go_ret
              exact ⟨by rw [Hr.out]; rfl, HF4.out.be⟩
end Go.Proofs.YtadpkjgjciodnaaGreat
