/- Package msgs: Form, kind by kind. Printed by gen_fg.py. -/
import Derived.Test.YtljfoajhobambaaFiSp
import Derived.Test.YtljfoajhobambaaPhaseSp
import Derived.Deep.RegionHeld3
namespace Go.Proofs.Ytljfoajhobambaa
open Go.RowKit
set_option linter.unusedVariables false
set_option linter.unusedSimpArgs false


set_option maxRecDepth 100000 in
set_option maxHeartbeats 8000000 in
theorem form_1 (m : Psp.Msg) (vb vo vc vp : Value) (f cl : Int) (w : World) (P : Nat → Prop) (hx : MsgOk w P ⟨m, vb, vo, vc, vp⟩) (hw : wfMsg m) (hf : Psp.may f = true) (hk : m.k = 1) :
    Calls Try.prog 24 #[.agg #[.int .i64 m.k, .int .i64 m.f, .int .i64 m.v, .int .i64 m.i, .int .i64 m.q, .int .i64 m.r, vb, vo, vc, vp], .int .i64 f, .int .i64 cl] w fun e w' => e = .returned (.bool (Psp.formM m f cl)) ∧ Below w.heap.size w w' := by
  obtain ⟨Ab, Ao, Ac, Ap, cb, co, cc, cp, rfl, rfl, rfl, rfl⟩ := msg_slices hx
  have HX := Lib.hid hx
  have Hw := Lib.hid hw
  obtain ⟨q, hq⟩ : ∃ q, Psp.nodes f = q := ⟨_, rfl⟩
  have hq0 : (q == 0) = false := by rw [← hq, may_zero, hf]; rfl
  have hbn := b_nodes_any f
  rw [hq] at hbn
  have HNn := Lib.hid hbn
  obtain ⟨nb, hnb⟩ : ∃ x, Psp.nodeB m.f f = x := ⟨_, rfl⟩
  have HNo0 : Hid (∀ w' : World, Calls Try.prog 77 #[.agg #[.int .i64 f, .int .i64 cl], .int .i64 m.f] w' fun e w'' => e = .returned (.bool nb) ∧ Below w'.heap.size w' w'') := Lib.hid fun w' => by rw [← hnb]; exact node_any _ _ _ w'

  have t1 : (m.k == 1) = true := by rw [hk]; rfl
  have t2 : (m.k == 2) = false := by rw [hk]; rfl
  have t3 : (m.k == 3) = false := by rw [hk]; rfl
  have t4 : (m.k == 4) = false := by rw [hk]; rfl
  have t5 : (m.k == 5) = false := by rw [hk]; rfl
  have t6 : (m.k == 6) = false := by rw [hk]; rfl
  have t7 : (m.k == 7) = false := by rw [hk]; rfl
  have t8 : (m.k == 8) = false := by rw [hk]; rfl
  have t9 : (m.k == 9) = false := by rw [hk]; rfl
  have t10 : (m.k == 10) = false := by rw [hk]; rfl
  obtain ⟨b0, hb0⟩ : ∃ x, Psp.noB [m.v, m.i, m.q, m.r] = x := ⟨_, rfl⟩
  have HNo : Hid (∀ (w' : World) (b : Nat), Lies w' b 0 ([m.v, m.i, m.q, m.r].map iv) → Calls Try.prog 74 #[.slice (some ⟨b, 0, none⟩) 4 4] w' fun e w'' => e = .returned (.bool b0) ∧ w' = w'') := Lib.hid fun w' b hl => by rw [← hb0]; exact nou_any [m.v, m.i, m.q, m.r] b 4 w' rfl hl (by omega)
  obtain ⟨b1, hb1⟩ : ∃ x, Psp.bareB m true false false false = x := ⟨_, rfl⟩
  have HBa : Hid (∀ w' : World, Calls Try.prog 75 #[.agg #[.int .i64 m.k, .int .i64 m.f, .int .i64 m.v, .int .i64 m.i, .int .i64 m.q, .int .i64 m.r, .slice Ab m.b.length cb, .slice Ao m.o.length co, .slice Ac m.c.length cc, .slice Ap m.p.length cp], .bool true, .bool false, .bool false, .bool false] w' fun e w'' => e = .returned (.bool b1) ∧ Below w'.heap.size w' w'') := Lib.hid fun w' => by rw [← hb1]; exact bare_n _ _ _ _ _ _ _ _ _ _ _ _ _ _ _ _ _ _ _ _ _ _ w'
  obtain ⟨b2, hb2⟩ : ∃ x, Psp.batchB m.b cl 1 1 = x := ⟨_, rfl⟩
  have HBB : Hid (Psp.batchB m.b cl 1 1 = b2) := Lib.hid hb2
  have HBt : Hid (∀ w' : World, Hid (Fb w w' m (.slice Ab m.b.length cb) (.slice Ao m.o.length co) (.slice Ac m.c.length cc) (.slice Ap m.p.length cp) f cl) → Calls Try.prog 76 #[.agg #[.int .i64 f, .int .i64 cl], .slice Ab m.b.length cb, .int .i64 1, .int .i64 1] w' fun e w'' => e = .returned (.bool b2) ∧ Below w'.heap.size w' w'') := Lib.hid fun w' h => by rw [← hb2]; exact batch_l m.b m.b.length _ f cl 1 1 w' P (HX.out.1.keeps' (Keeps.below h.out.be)) rfl
  obtain ⟨b3, hb3⟩ : ∃ x, decide (100 ≤ m.f) = x := ⟨_, rfl⟩
  have hfge : decide (m.f ≥ 100) = b3 := hb3
  have Hfge : Hid (decide (100 ≤ m.f) = b3) := Lib.hid hb3
  obtain ⟨b4, hb4⟩ : ∃ x, decide (m.f - 100 = Psp.firstC m.b) = x := ⟨_, rfl⟩
  have Hfeq : Hid (decide (m.f - 100 = Psp.firstC m.b) = b4) := Lib.hid hb4
  have Hr : Hid (Psp.formM m f cl = (b0 && (b1 && (b2 && (b3 && b4))))) := Lib.hid (by unfold Psp.formM; rw [hf, hk]; simp only [if_true, Bool.true_and]; rw [hb0, hb1, hb2, hb3, hb4])
  clear hq hbn hnb hx hw hb0 hb1 hb2 hb3 hb4 hk hf
  have HF0 := fb_start w m (.slice Ab m.b.length cb) (.slice Ao m.o.length co) (.slice Ac m.c.length cc) (.slice Ap m.p.length cp) f cl
  obtain ⟨HF, c0, c1, c2, c3, c4, c5, c6, c7, c8, c9, c10, c11⟩ := keepF HF0 (Below.refl _ _)
  go_enter Try.func24, Try.ntmps24
  go_wp2_with (first | (go_at_call 73; refine (HNn.out _).mono ?_; rintro e w' ⟨rfl, rfl⟩))
  obtain ⟨w2, hw2⟩ : ∃ w2, (w.alloc (.cells #[.int .i64 m.k, .int .i64 m.f, .int .i64 m.v, .int .i64 m.i, .int .i64 m.q, .int .i64 m.r, .slice Ab m.b.length cb, .slice Ao m.o.length co, .slice Ac m.c.length cc, .slice Ap m.p.length cp] 27)).alloc (.cells #[.int .i64 f, .int .i64 cl] 117) = w2 := ⟨_, rfl⟩
  rw [hw2] at HF c0 c1 c2 c3 c4 c5 c6 c7 c8 c9 c10 c11 ⊢
  clear hw2 HF0
  cases b0 with
  | false =>
    go_wp2_with fail
    have l0 := later_cell (w := w2.drew) c0
    have l1 := later_cell (w := w2.drew) c1
    have l2 := later_cell (w := w2.drew) c2
    have l3 := later_cell (w := w2.drew) c3
    have l4 := later_cell (w := w2.drew) c4
    have l5 := later_cell (w := w2.drew) c5
    have l6 := later_cell (w := w2.drew) c6
    have l7 := later_cell (w := w2.drew) c7
    have l8 := later_cell (w := w2.drew) c8
    have l9 := later_cell (w := w2.drew) c9
    refine wp_region_phases_quiet [(true, 0), (true, 1), (true, 2), (true, 3), (true, 4), (true, 5), (true, 6), (true, 7)] 2 (by kernel_rfl) (by kernel_rfl) ?_
    simp only [phW, List.getElem?_cons_zero, List.getElem?_cons_succ, Option.toList, List.length_cons, List.length_nil, Nat.reduceAdd, List.drop_succ_cons, List.drop_zero, List.take_succ_cons, List.take_zero]
    repeat (first | go_big_quiet_step (fail) | quiet_step (fail) | refine wpQuiet_nil ?_)
    clear l0 l1 l2 l3 l4 l5 l6 l7 l8 l9 c0 c1 c2 c3 c4 c5 c6 c7 c8 c9 c10 c11
    go_wp2_with fail
    refine (HNo.out _ _ (lies_new w2.drew [.int .i64 m.v, .int .i64 m.i, .int .i64 m.q, .int .i64 m.r] 3 _ rfl)).mono ?_
    rintro e w3 ⟨rfl, rfl⟩
    go_wp2_with fail
    obtain ⟨HF3, c0, c1, c2, c3, c4, c5, c6, c7, c8, c9, c10, c11⟩ := keepF HF ((alloc_below w2 (.cells #[.int .i64 m.v, .int .i64 m.i, .int .i64 m.q, .int .i64 m.r] 3)).drew)
    obtain ⟨w3, hw3⟩ : ∃ w3, (w2.alloc (.cells #[.int .i64 m.v, .int .i64 m.i, .int .i64 m.q, .int .i64 m.r] 3)).drew = w3 := ⟨_, rfl⟩
    rw [hw3] at HF3 c0 c1 c2 c3 c4 c5 c6 c7 c8 c9 c10 c11
    try rw [hw3]
    clear hw3
    have l0 := later_cell (w := w3) c0
    have l1 := later_cell (w := w3) c1
    have l2 := later_cell (w := w3) c2
    have l3 := later_cell (w := w3) c3
    have l4 := later_cell (w := w3) c4
    have l5 := later_cell (w := w3) c5
    have l6 := later_cell (w := w3) c6
    have l7 := later_cell (w := w3) c7
    have l8 := later_cell (w := w3) c8
    have l9 := later_cell (w := w3) c9
    have l10 := later_cell (w := w3) c10
    have l11 := later_cell (w := w3) c11
    have HRL : Hid (∀ w' : World, (∃ p : Later w3, w' = p.W) → w'.rangeAt (w.heap.size + 1) 0 [.int .i64 f, .int .i64 cl]) := Lib.hid (by rintro w' ⟨p, rfl⟩; exact (HF3.out.below p.h).lk)
    have HRM : Hid (∀ w' : World, (∃ p : Later w3, w' = p.W) → w'.rangeAt w.heap.size 0 [.int .i64 m.k, .int .i64 m.f, .int .i64 m.v, .int .i64 m.i, .int .i64 m.q, .int .i64 m.r, .slice Ab m.b.length cb, .slice Ao m.o.length co, .slice Ac m.c.length cc, .slice Ap m.p.length cp]) := Lib.hid (by rintro w' ⟨p, rfl⟩; exact (HF3.out.below p.h).range)
    show wpQuiet _ _ _ _ _ _
    repeat (first | go_big_quiet_step (first | (go_at_call 75; exact later_call _ (HBa.out _)) | (go_at_call 76; exact later_call _ (HBt.out _ (Lib.hid (HF3.out.below (Later.h _)))))) | (refine quiet_load (by simp [Region.wanted, yielded]) 117 (.tmp 7) (by rfl) (w.heap.size + 1) (0) (by rfl) [.int .i64 f, .int .i64 cl] _ HRL.out Try.underlying117 rfl lk_size ?_; intro K hK; go_simp; refine hK _ ?_; clear hK K) | (refine quiet_load (by simp [Region.wanted, yielded]) 27 (.tmp 3) (by rfl) w.heap.size (0) (by rfl) [.int .i64 m.k, .int .i64 m.f, .int .i64 m.v, .int .i64 m.i, .int .i64 m.q, .int .i64 m.r, .slice Ab m.b.length cb, .slice Ao m.o.length co, .slice Ac m.c.length cc, .slice Ap m.p.length cp] _ HRM.out Try.underlying27 rfl sizeM ?_; intro K hK; go_simp; refine hK _ ?_; clear hK K) | quiet_step (first | (go_at_call 75; exact later_call _ (HBa.out _)) | (go_at_call 76; exact later_call _ (HBt.out _ (Lib.hid (HF3.out.below (Later.h _)))))))
    refine wpQuiet_nil ?_
    intro w4 hw'
    have hb4 := later_out hw'
    clear hw'
    have HF4 := Lib.hid (HF3.out.below hb4)
    clear hb4
    go_wp2_with fail
    go_ret
    exact ⟨by rw [Hr.out]; rfl, HF4.out.be⟩
  | true =>
  cases b1 with
  | false =>
    go_wp2_with fail
    have l0 := later_cell (w := w2.drew) c0
    have l1 := later_cell (w := w2.drew) c1
    have l2 := later_cell (w := w2.drew) c2
    have l3 := later_cell (w := w2.drew) c3
    have l4 := later_cell (w := w2.drew) c4
    have l5 := later_cell (w := w2.drew) c5
    have l6 := later_cell (w := w2.drew) c6
    have l7 := later_cell (w := w2.drew) c7
    have l8 := later_cell (w := w2.drew) c8
    have l9 := later_cell (w := w2.drew) c9
    refine wp_region_phases_quiet [(true, 0), (true, 1), (true, 2), (true, 3), (true, 4), (true, 5), (true, 6), (true, 7)] 2 (by kernel_rfl) (by kernel_rfl) ?_
    simp only [phW, List.getElem?_cons_zero, List.getElem?_cons_succ, Option.toList, List.length_cons, List.length_nil, Nat.reduceAdd, List.drop_succ_cons, List.drop_zero, List.take_succ_cons, List.take_zero]
    repeat (first | go_big_quiet_step (fail) | quiet_step (fail) | refine wpQuiet_nil ?_)
    clear l0 l1 l2 l3 l4 l5 l6 l7 l8 l9 c0 c1 c2 c3 c4 c5 c6 c7 c8 c9 c10 c11
    go_wp2_with fail
    refine (HNo.out _ _ (lies_new w2.drew [.int .i64 m.v, .int .i64 m.i, .int .i64 m.q, .int .i64 m.r] 3 _ rfl)).mono ?_
    rintro e w3 ⟨rfl, rfl⟩
    go_wp2_with fail
    obtain ⟨HF3, c0, c1, c2, c3, c4, c5, c6, c7, c8, c9, c10, c11⟩ := keepF HF ((alloc_below w2 (.cells #[.int .i64 m.v, .int .i64 m.i, .int .i64 m.q, .int .i64 m.r] 3)).drew)
    obtain ⟨w3, hw3⟩ : ∃ w3, (w2.alloc (.cells #[.int .i64 m.v, .int .i64 m.i, .int .i64 m.q, .int .i64 m.r] 3)).drew = w3 := ⟨_, rfl⟩
    rw [hw3] at HF3 c0 c1 c2 c3 c4 c5 c6 c7 c8 c9 c10 c11
    try rw [hw3]
    clear hw3
    have l0 := later_cell (w := w3) c0
    have l1 := later_cell (w := w3) c1
    have l2 := later_cell (w := w3) c2
    have l3 := later_cell (w := w3) c3
    have l4 := later_cell (w := w3) c4
    have l5 := later_cell (w := w3) c5
    have l6 := later_cell (w := w3) c6
    have l7 := later_cell (w := w3) c7
    have l8 := later_cell (w := w3) c8
    have l9 := later_cell (w := w3) c9
    have l10 := later_cell (w := w3) c10
    have l11 := later_cell (w := w3) c11
    have HRL : Hid (∀ w' : World, (∃ p : Later w3, w' = p.W) → w'.rangeAt (w.heap.size + 1) 0 [.int .i64 f, .int .i64 cl]) := Lib.hid (by rintro w' ⟨p, rfl⟩; exact (HF3.out.below p.h).lk)
    have HRM : Hid (∀ w' : World, (∃ p : Later w3, w' = p.W) → w'.rangeAt w.heap.size 0 [.int .i64 m.k, .int .i64 m.f, .int .i64 m.v, .int .i64 m.i, .int .i64 m.q, .int .i64 m.r, .slice Ab m.b.length cb, .slice Ao m.o.length co, .slice Ac m.c.length cc, .slice Ap m.p.length cp]) := Lib.hid (by rintro w' ⟨p, rfl⟩; exact (HF3.out.below p.h).range)
    show wpQuiet _ _ _ _ _ _
    repeat (first | go_big_quiet_step (first | (go_at_call 75; exact later_call _ (HBa.out _)) | (go_at_call 76; exact later_call _ (HBt.out _ (Lib.hid (HF3.out.below (Later.h _)))))) | (refine quiet_load (by simp [Region.wanted, yielded]) 117 (.tmp 7) (by rfl) (w.heap.size + 1) (0) (by rfl) [.int .i64 f, .int .i64 cl] _ HRL.out Try.underlying117 rfl lk_size ?_; intro K hK; go_simp; refine hK _ ?_; clear hK K) | (refine quiet_load (by simp [Region.wanted, yielded]) 27 (.tmp 3) (by rfl) w.heap.size (0) (by rfl) [.int .i64 m.k, .int .i64 m.f, .int .i64 m.v, .int .i64 m.i, .int .i64 m.q, .int .i64 m.r, .slice Ab m.b.length cb, .slice Ao m.o.length co, .slice Ac m.c.length cc, .slice Ap m.p.length cp] _ HRM.out Try.underlying27 rfl sizeM ?_; intro K hK; go_simp; refine hK _ ?_; clear hK K) | quiet_step (first | (go_at_call 75; exact later_call _ (HBa.out _)) | (go_at_call 76; exact later_call _ (HBt.out _ (Lib.hid (HF3.out.below (Later.h _)))))))
    refine wpQuiet_nil ?_
    intro w4 hw'
    have hb4 := later_out hw'
    clear hw'
    have HF4 := Lib.hid (HF3.out.below hb4)
    clear hb4
    go_wp2_with fail
    go_ret
    exact ⟨by rw [Hr.out]; rfl, HF4.out.be⟩
  | true =>
  cases b2 with
  | false =>
    go_wp2_with fail
    have l0 := later_cell (w := w2.drew) c0
    have l1 := later_cell (w := w2.drew) c1
    have l2 := later_cell (w := w2.drew) c2
    have l3 := later_cell (w := w2.drew) c3
    have l4 := later_cell (w := w2.drew) c4
    have l5 := later_cell (w := w2.drew) c5
    have l6 := later_cell (w := w2.drew) c6
    have l7 := later_cell (w := w2.drew) c7
    have l8 := later_cell (w := w2.drew) c8
    have l9 := later_cell (w := w2.drew) c9
    refine wp_region_phases_quiet [(true, 0), (true, 1), (true, 2), (true, 3), (true, 4), (true, 5), (true, 6), (true, 7)] 2 (by kernel_rfl) (by kernel_rfl) ?_
    simp only [phW, List.getElem?_cons_zero, List.getElem?_cons_succ, Option.toList, List.length_cons, List.length_nil, Nat.reduceAdd, List.drop_succ_cons, List.drop_zero, List.take_succ_cons, List.take_zero]
    repeat (first | go_big_quiet_step (fail) | quiet_step (fail) | refine wpQuiet_nil ?_)
    clear l0 l1 l2 l3 l4 l5 l6 l7 l8 l9 c0 c1 c2 c3 c4 c5 c6 c7 c8 c9 c10 c11
    go_wp2_with fail
    refine (HNo.out _ _ (lies_new w2.drew [.int .i64 m.v, .int .i64 m.i, .int .i64 m.q, .int .i64 m.r] 3 _ rfl)).mono ?_
    rintro e w3 ⟨rfl, rfl⟩
    go_wp2_with fail
    obtain ⟨HF3, c0, c1, c2, c3, c4, c5, c6, c7, c8, c9, c10, c11⟩ := keepF HF ((alloc_below w2 (.cells #[.int .i64 m.v, .int .i64 m.i, .int .i64 m.q, .int .i64 m.r] 3)).drew)
    obtain ⟨w3, hw3⟩ : ∃ w3, (w2.alloc (.cells #[.int .i64 m.v, .int .i64 m.i, .int .i64 m.q, .int .i64 m.r] 3)).drew = w3 := ⟨_, rfl⟩
    rw [hw3] at HF3 c0 c1 c2 c3 c4 c5 c6 c7 c8 c9 c10 c11
    try rw [hw3]
    clear hw3
    have l0 := later_cell (w := w3) c0
    have l1 := later_cell (w := w3) c1
    have l2 := later_cell (w := w3) c2
    have l3 := later_cell (w := w3) c3
    have l4 := later_cell (w := w3) c4
    have l5 := later_cell (w := w3) c5
    have l6 := later_cell (w := w3) c6
    have l7 := later_cell (w := w3) c7
    have l8 := later_cell (w := w3) c8
    have l9 := later_cell (w := w3) c9
    have l10 := later_cell (w := w3) c10
    have l11 := later_cell (w := w3) c11
    have HRL : Hid (∀ w' : World, (∃ p : Later w3, w' = p.W) → w'.rangeAt (w.heap.size + 1) 0 [.int .i64 f, .int .i64 cl]) := Lib.hid (by rintro w' ⟨p, rfl⟩; exact (HF3.out.below p.h).lk)
    have HRM : Hid (∀ w' : World, (∃ p : Later w3, w' = p.W) → w'.rangeAt w.heap.size 0 [.int .i64 m.k, .int .i64 m.f, .int .i64 m.v, .int .i64 m.i, .int .i64 m.q, .int .i64 m.r, .slice Ab m.b.length cb, .slice Ao m.o.length co, .slice Ac m.c.length cc, .slice Ap m.p.length cp]) := Lib.hid (by rintro w' ⟨p, rfl⟩; exact (HF3.out.below p.h).range)
    show wpQuiet _ _ _ _ _ _
    repeat (first | go_big_quiet_step (first | (go_at_call 75; exact later_call _ (HBa.out _)) | (go_at_call 76; exact later_call _ (HBt.out _ (Lib.hid (HF3.out.below (Later.h _)))))) | (refine quiet_load (by simp [Region.wanted, yielded]) 117 (.tmp 7) (by rfl) (w.heap.size + 1) (0) (by rfl) [.int .i64 f, .int .i64 cl] _ HRL.out Try.underlying117 rfl lk_size ?_; intro K hK; go_simp; refine hK _ ?_; clear hK K) | (refine quiet_load (by simp [Region.wanted, yielded]) 27 (.tmp 3) (by rfl) w.heap.size (0) (by rfl) [.int .i64 m.k, .int .i64 m.f, .int .i64 m.v, .int .i64 m.i, .int .i64 m.q, .int .i64 m.r, .slice Ab m.b.length cb, .slice Ao m.o.length co, .slice Ac m.c.length cc, .slice Ap m.p.length cp] _ HRM.out Try.underlying27 rfl sizeM ?_; intro K hK; go_simp; refine hK _ ?_; clear hK K) | quiet_step (first | (go_at_call 75; exact later_call _ (HBa.out _)) | (go_at_call 76; exact later_call _ (HBt.out _ (Lib.hid (HF3.out.below (Later.h _)))))))
    refine wpQuiet_nil ?_
    intro w4 hw'
    have hb4 := later_out hw'
    clear hw'
    have HF4 := Lib.hid (HF3.out.below hb4)
    clear hb4
    go_wp2_with fail
    go_ret
    exact ⟨by rw [Hr.out]; rfl, HF4.out.be⟩
  | true =>
  cases b3 with
  | false =>
    go_wp2_with fail
    have l0 := later_cell (w := w2.drew) c0
    have l1 := later_cell (w := w2.drew) c1
    have l2 := later_cell (w := w2.drew) c2
    have l3 := later_cell (w := w2.drew) c3
    have l4 := later_cell (w := w2.drew) c4
    have l5 := later_cell (w := w2.drew) c5
    have l6 := later_cell (w := w2.drew) c6
    have l7 := later_cell (w := w2.drew) c7
    have l8 := later_cell (w := w2.drew) c8
    have l9 := later_cell (w := w2.drew) c9
    refine wp_region_phases_quiet [(true, 0), (true, 1), (true, 2), (true, 3), (true, 4), (true, 5), (true, 6), (true, 7)] 2 (by kernel_rfl) (by kernel_rfl) ?_
    simp only [phW, List.getElem?_cons_zero, List.getElem?_cons_succ, Option.toList, List.length_cons, List.length_nil, Nat.reduceAdd, List.drop_succ_cons, List.drop_zero, List.take_succ_cons, List.take_zero]
    repeat (first | go_big_quiet_step (fail) | quiet_step (fail) | refine wpQuiet_nil ?_)
    clear l0 l1 l2 l3 l4 l5 l6 l7 l8 l9 c0 c1 c2 c3 c4 c5 c6 c7 c8 c9 c10 c11
    go_wp2_with fail
    refine (HNo.out _ _ (lies_new w2.drew [.int .i64 m.v, .int .i64 m.i, .int .i64 m.q, .int .i64 m.r] 3 _ rfl)).mono ?_
    rintro e w3 ⟨rfl, rfl⟩
    go_wp2_with fail
    obtain ⟨HF3, c0, c1, c2, c3, c4, c5, c6, c7, c8, c9, c10, c11⟩ := keepF HF ((alloc_below w2 (.cells #[.int .i64 m.v, .int .i64 m.i, .int .i64 m.q, .int .i64 m.r] 3)).drew)
    obtain ⟨w3, hw3⟩ : ∃ w3, (w2.alloc (.cells #[.int .i64 m.v, .int .i64 m.i, .int .i64 m.q, .int .i64 m.r] 3)).drew = w3 := ⟨_, rfl⟩
    rw [hw3] at HF3 c0 c1 c2 c3 c4 c5 c6 c7 c8 c9 c10 c11
    try rw [hw3]
    clear hw3
    have l0 := later_cell (w := w3) c0
    have l1 := later_cell (w := w3) c1
    have l2 := later_cell (w := w3) c2
    have l3 := later_cell (w := w3) c3
    have l4 := later_cell (w := w3) c4
    have l5 := later_cell (w := w3) c5
    have l6 := later_cell (w := w3) c6
    have l7 := later_cell (w := w3) c7
    have l8 := later_cell (w := w3) c8
    have l9 := later_cell (w := w3) c9
    have l10 := later_cell (w := w3) c10
    have l11 := later_cell (w := w3) c11
    have HRL : Hid (∀ w' : World, (∃ p : Later w3, w' = p.W) → w'.rangeAt (w.heap.size + 1) 0 [.int .i64 f, .int .i64 cl]) := Lib.hid (by rintro w' ⟨p, rfl⟩; exact (HF3.out.below p.h).lk)
    have HRM : Hid (∀ w' : World, (∃ p : Later w3, w' = p.W) → w'.rangeAt w.heap.size 0 [.int .i64 m.k, .int .i64 m.f, .int .i64 m.v, .int .i64 m.i, .int .i64 m.q, .int .i64 m.r, .slice Ab m.b.length cb, .slice Ao m.o.length co, .slice Ac m.c.length cc, .slice Ap m.p.length cp]) := Lib.hid (by rintro w' ⟨p, rfl⟩; exact (HF3.out.below p.h).range)
    show wpQuiet _ _ _ _ _ _
    repeat (first | go_big_quiet_step (first | (go_at_call 75; exact later_call _ (HBa.out _)) | (go_at_call 76; exact later_call _ (HBt.out _ (Lib.hid (HF3.out.below (Later.h _)))))) | (refine quiet_load (by simp [Region.wanted, yielded]) 117 (.tmp 7) (by rfl) (w.heap.size + 1) (0) (by rfl) [.int .i64 f, .int .i64 cl] _ HRL.out Try.underlying117 rfl lk_size ?_; intro K hK; go_simp; refine hK _ ?_; clear hK K) | (refine quiet_load (by simp [Region.wanted, yielded]) 27 (.tmp 3) (by rfl) w.heap.size (0) (by rfl) [.int .i64 m.k, .int .i64 m.f, .int .i64 m.v, .int .i64 m.i, .int .i64 m.q, .int .i64 m.r, .slice Ab m.b.length cb, .slice Ao m.o.length co, .slice Ac m.c.length cc, .slice Ap m.p.length cp] _ HRM.out Try.underlying27 rfl sizeM ?_; intro K hK; go_simp; refine hK _ ?_; clear hK K) | quiet_step (first | (go_at_call 75; exact later_call _ (HBa.out _)) | (go_at_call 76; exact later_call _ (HBt.out _ (Lib.hid (HF3.out.below (Later.h _)))))))
    refine wpQuiet_nil ?_
    intro w4 hw'
    have hb4 := later_out hw'
    clear hw'
    have HF4 := Lib.hid (HF3.out.below hb4)
    clear hb4
    go_wp2_with fail
    go_ret
    exact ⟨by rw [Hr.out]; rfl, HF4.out.be⟩
  | true =>
  have hbt := HBB.out
  have hf0 : (100 : Int) ≤ m.f := of_decide_eq_true Hfge.out
  have hf1 : m.f ≤ 9223372036854775807 := Hw.out.2.1.2
  have hlen : m.b.length = 1 := by unfold Psp.batchB at hbt; rw [Bool.and_eq_true, Psp.win_iff] at hbt; omega
  obtain ⟨r, rest, hmb⟩ : ∃ r rest, m.b = r :: rest := by cases hm : m.b with | nil => (rw [hm] at hlen; cases hlen) | cons r rest => exact ⟨r, rest, rfl⟩
  have hfe := Hfeq.out
  have hy : ((m.f - 100) == r.c) = b4 := by rw [hmb] at hfe; rw [← hfe]; rfl
  obtain ⟨_, A9, d9, e9, hq1, hq2, hcell⟩ := RdP.parts (show RdP _ _ 6 (.slice Ab m.b.length cb) m.b.length (m.b.flatMap rq) from HX.out.1)
  injection e9 with e7 e8 e9
  obtain ⟨bc, oc, hbo, _, hbl, hli⟩ := hcell (by omega)
  rw [hbo] at e7
  have E7 := Lib.hid e7
  have r1 := range_elem (f := rq) (k := 6) (fun _ => rfl) hli (i := 0) (by omega)
  have hr0 : m.b[0]'(by omega) = r := by simp only [hmb, List.getElem_cons_zero]
  rw [hr0] at r1
  have R1 := Lib.hid r1
  have hlen0 : (0 : Int) < (m.b.length : Int) := by omega
  clear e7 e8 e9 hbo hlen hmb hli hcell r1 hr0 hfe hbt
  go_wp2_with fail
  have l0 := later_cell (w := w2.drew) c0
  have l1 := later_cell (w := w2.drew) c1
  have l2 := later_cell (w := w2.drew) c2
  have l3 := later_cell (w := w2.drew) c3
  have l4 := later_cell (w := w2.drew) c4
  have l5 := later_cell (w := w2.drew) c5
  have l6 := later_cell (w := w2.drew) c6
  have l7 := later_cell (w := w2.drew) c7
  have l8 := later_cell (w := w2.drew) c8
  have l9 := later_cell (w := w2.drew) c9
  refine wp_region_phases_quiet [(true, 0), (true, 1), (true, 2), (true, 3), (true, 4), (true, 5), (true, 6), (true, 7)] 2 (by kernel_rfl) (by kernel_rfl) ?_
  simp only [phW, List.getElem?_cons_zero, List.getElem?_cons_succ, Option.toList, List.length_cons, List.length_nil, Nat.reduceAdd, List.drop_succ_cons, List.drop_zero, List.take_succ_cons, List.take_zero]
  repeat (first | go_big_quiet_step (fail) | quiet_step (fail) | refine wpQuiet_nil ?_)
  clear l0 l1 l2 l3 l4 l5 l6 l7 l8 l9 c0 c1 c2 c3 c4 c5 c6 c7 c8 c9 c10 c11
  go_wp2_with fail
  refine (HNo.out _ _ (lies_new w2.drew [.int .i64 m.v, .int .i64 m.i, .int .i64 m.q, .int .i64 m.r] 3 _ rfl)).mono ?_
  rintro e w3 ⟨rfl, rfl⟩
  go_wp2_with fail
  obtain ⟨HF3, c0, c1, c2, c3, c4, c5, c6, c7, c8, c9, c10, c11⟩ := keepF HF ((alloc_below w2 (.cells #[.int .i64 m.v, .int .i64 m.i, .int .i64 m.q, .int .i64 m.r] 3)).drew)
  obtain ⟨w3, hw3⟩ : ∃ w3, (w2.alloc (.cells #[.int .i64 m.v, .int .i64 m.i, .int .i64 m.q, .int .i64 m.r] 3)).drew = w3 := ⟨_, rfl⟩
  rw [hw3] at HF3 c0 c1 c2 c3 c4 c5 c6 c7 c8 c9 c10 c11
  try rw [hw3]
  clear hw3
  have l0 := later_cell (w := w3) c0
  have l1 := later_cell (w := w3) c1
  have l2 := later_cell (w := w3) c2
  have l3 := later_cell (w := w3) c3
  have l4 := later_cell (w := w3) c4
  have l5 := later_cell (w := w3) c5
  have l6 := later_cell (w := w3) c6
  have l7 := later_cell (w := w3) c7
  have l8 := later_cell (w := w3) c8
  have l9 := later_cell (w := w3) c9
  have l10 := later_cell (w := w3) c10
  have l11 := later_cell (w := w3) c11
  have HRL : Hid (∀ w' : World, (∃ p : Later w3, w' = p.W) → w'.rangeAt (w.heap.size + 1) 0 [.int .i64 f, .int .i64 cl]) := Lib.hid (by rintro w' ⟨p, rfl⟩; exact (HF3.out.below p.h).lk)
  have HRM : Hid (∀ w' : World, (∃ p : Later w3, w' = p.W) → w'.rangeAt w.heap.size 0 [.int .i64 m.k, .int .i64 m.f, .int .i64 m.v, .int .i64 m.i, .int .i64 m.q, .int .i64 m.r, .slice Ab m.b.length cb, .slice Ao m.o.length co, .slice Ac m.c.length cc, .slice Ap m.p.length cp]) := Lib.hid (by rintro w' ⟨p, rfl⟩; exact (HF3.out.below p.h).range)
  have q0 := later_cell (w := w3) (show w3.cell? ⟨bc, oc, none⟩ = some (.int .i64 r.c) by have h := range_keep R1.out (HF3.out.be.block bc hbl) 0 _ rfl; simpa [rq, iv] using h)
  show wpQuiet _ _ _ _ _ _
  iterate 19 (first | go_big_quiet_step (first | (go_at_call 75; exact later_call _ (HBa.out _)) | (go_at_call 76; exact later_call _ (HBt.out _ (Lib.hid (HF3.out.below (Later.h _)))))) | (refine quiet_load (by simp [Region.wanted, yielded]) 117 (.tmp 7) (by rfl) (w.heap.size + 1) (0) (by rfl) [.int .i64 f, .int .i64 cl] _ HRL.out Try.underlying117 rfl lk_size ?_; intro K hK; go_simp; refine hK _ ?_; clear hK K) | (refine quiet_load (by simp [Region.wanted, yielded]) 27 (.tmp 3) (by rfl) w.heap.size (0) (by rfl) [.int .i64 m.k, .int .i64 m.f, .int .i64 m.v, .int .i64 m.i, .int .i64 m.q, .int .i64 m.r, .slice Ab m.b.length cb, .slice Ao m.o.length co, .slice Ac m.c.length cc, .slice Ap m.p.length cp] _ HRM.out Try.underlying27 rfl sizeM ?_; intro K hK; go_simp; refine hK _ ?_; clear hK K) | quiet_step (first | (go_at_call 75; exact later_call _ (HBa.out _)) | (go_at_call 76; exact later_call _ (HBt.out _ (Lib.hid (HF3.out.below (Later.h _)))))))
  have e7 := E7.out
  repeat (first | go_big_quiet_step (first | (go_at_call 75; exact later_call _ (HBa.out _)) | (go_at_call 76; exact later_call _ (HBt.out _ (Lib.hid (HF3.out.below (Later.h _)))))) | (refine quiet_load (by simp [Region.wanted, yielded]) 117 (.tmp 7) (by rfl) (w.heap.size + 1) (0) (by rfl) [.int .i64 f, .int .i64 cl] _ HRL.out Try.underlying117 rfl lk_size ?_; intro K hK; go_simp; refine hK _ ?_; clear hK K) | (refine quiet_load (by simp [Region.wanted, yielded]) 27 (.tmp 3) (by rfl) w.heap.size (0) (by rfl) [.int .i64 m.k, .int .i64 m.f, .int .i64 m.v, .int .i64 m.i, .int .i64 m.q, .int .i64 m.r, .slice Ab m.b.length cb, .slice Ao m.o.length co, .slice Ac m.c.length cc, .slice Ap m.p.length cp] _ HRM.out Try.underlying27 rfl sizeM ?_; intro K hK; go_simp; refine hK _ ?_; clear hK K) | quiet_step (first | (go_at_call 75; exact later_call _ (HBa.out _)) | (go_at_call 76; exact later_call _ (HBt.out _ (Lib.hid (HF3.out.below (Later.h _)))))))
  refine wpQuiet_nil ?_
  intro w4 hw'
  have hb4 := later_out hw'
  clear hw'
  have HF4 := Lib.hid (HF3.out.below hb4)
  clear hb4
  go_wp2_with fail
  go_ret
  exact ⟨by rw [Hr.out]; rfl, HF4.out.be⟩
end Go.Proofs.Ytljfoajhobambaa
