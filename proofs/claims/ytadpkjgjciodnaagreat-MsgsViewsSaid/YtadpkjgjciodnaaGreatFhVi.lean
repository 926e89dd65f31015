/- Package msgs: Form, kind by kind. Printed by gen_fg.py. -/
import Derived.Test.YtadpkjgjciodnaaGreatJ21Vi
import Derived.Deep.RegionHeld3
namespace Go.Proofs.YtadpkjgjciodnaaGreat
open Go.RowKit
set_option linter.unusedVariables false
set_option linter.unusedSimpArgs false


set_option maxRecDepth 100000 in
set_option maxHeartbeats 8000000 in
theorem form_6 (m : Psp.Msg) (vb vo vc vp : Value) (f cl : Int) (w : World) (P : Nat → Prop) (hx : MsgOk w P ⟨m, vb, vo, vc, vp⟩) (hw : wfMsg m) (hf : Psp.may f = true) (hk : m.k = 6) :
    Calls Tryz.prog 46 #[.agg #[.int .i64 m.k, .int .i64 m.f, .int .i64 m.v, .int .i64 m.i, .int .i64 m.q, .int .i64 m.r, vb, vo, vc, vp], .int .i64 f, .int .i64 cl] w fun e w' => e = .returned (.bool (Psp.formM m f cl)) ∧ Below w.heap.size w w' := by
  obtain ⟨Ab, Ao, Ac, Ap, cb, co, cc, cp, rfl, rfl, rfl, rfl⟩ := msg_slices hx
  have HX := Lib.hid hx
  have Hw := Lib.hid hw
  obtain ⟨q, hq⟩ : ∃ q, Psp.nodes f = q := ⟨_, rfl⟩
  have hq0 : (q == 0) = false := by rw [← hq, may_zero, hf]; rfl
  have hbn := b_nodes_any f
  rw [hq] at hbn
  have HNn := Lib.hid hbn
  obtain ⟨nb, hnb⟩ : ∃ x, Psp.nodeB m.f f = x := ⟨_, rfl⟩
  have HNo0 : Hid (∀ w' : World, Calls Tryz.prog 93 #[.agg #[.int .i64 f, .int .i64 cl], .int .i64 m.f] w' fun e w'' => e = .returned (.bool nb) ∧ Below w'.heap.size w' w'') := Lib.hid fun w' => by rw [← hnb]; exact node_any _ _ _ w'

  have t1 : (m.k == 1) = false := by rw [hk]; rfl
  have t2 : (m.k == 2) = false := by rw [hk]; rfl
  have t3 : (m.k == 3) = false := by rw [hk]; rfl
  have t4 : (m.k == 4) = false := by rw [hk]; rfl
  have t5 : (m.k == 5) = false := by rw [hk]; rfl
  have t6 : (m.k == 6) = true := by rw [hk]; rfl
  have t7 : (m.k == 7) = false := by rw [hk]; rfl
  have t8 : (m.k == 8) = false := by rw [hk]; rfl
  have t9 : (m.k == 9) = false := by rw [hk]; rfl
  have t10 : (m.k == 10) = false := by rw [hk]; rfl
  obtain ⟨b0, hb0⟩ : ∃ x, Psp.noB [m.i, m.q, m.r] = x := ⟨_, rfl⟩
  have HNo : Hid (∀ (w' : World) (b : Nat), Lies w' b 0 ([m.i, m.q, m.r].map iv) → Calls Tryz.prog 90 #[.slice (some ⟨b, 0, none⟩) 3 3] w' fun e w'' => e = .returned (.bool b0) ∧ w' = w'') := Lib.hid fun w' b hl => by rw [← hb0]; exact nou_any [m.i, m.q, m.r] b 3 w' rfl hl (by omega)
  obtain ⟨b1, hb1⟩ : ∃ x, Psp.bareB m false false false false = x := ⟨_, rfl⟩
  have HBa : Hid (∀ w' : World, Calls Tryz.prog 91 #[.agg #[.int .i64 m.k, .int .i64 m.f, .int .i64 m.v, .int .i64 m.i, .int .i64 m.q, .int .i64 m.r, .slice Ab m.b.length cb, .slice Ao m.o.length co, .slice Ac m.c.length cc, .slice Ap m.p.length cp], .bool false, .bool false, .bool false, .bool false] w' fun e w'' => e = .returned (.bool b1) ∧ Below w'.heap.size w' w'') := Lib.hid fun w' => by rw [← hb1]; exact bare_n _ _ _ _ _ _ _ _ _ _ _ _ _ _ _ _ _ _ _ _ _ _ w'
  obtain ⟨b2, hb2⟩ : ∃ x, Psp.win m.v 0 11 = x := ⟨_, rfl⟩
  have hwina : Psp.win m.v 0 11 = b2 := hb2
  have Hr : Hid (Psp.formM m f cl = (nb && (b0 && (b1 && (b2))))) := Lib.hid (by unfold Psp.formM; rw [hf, hk, hnb]; simp only [Int.reduceEq, if_false, if_true, or_false, or_true, Bool.true_and, false_or]; rw [hb0, hb1, hb2])
  clear hq hbn hnb hx hw hb0 hb1 hb2 hk hf
  have HF0 := fb_start w m (.slice Ab m.b.length cb) (.slice Ao m.o.length co) (.slice Ac m.c.length cc) (.slice Ap m.p.length cp) f cl
  obtain ⟨HF, c0, c1, c2, c3, c4, c5, c6, c7, c8, c9, c10, c11⟩ := keepF HF0 (Below.refl _ _)
  go_enter Tryz.func46, Tryz.ntmps46
  go_wp2_with (first | (go_at_call 89; refine (HNn.out _).mono ?_; rintro e w' ⟨rfl, rfl⟩))
  refine (HNo0.out _).mono ?_
  rintro e w2 ⟨rfl, hb'⟩
  obtain ⟨HF, c0, c1, c2, c3, c4, c5, c6, c7, c8, c9, c10, c11⟩ := keepF HF hb'
  clear hb' HF0
  cases nb with
  | false =>
    go_wp2_with fail
    go_ret
    exact ⟨by rw [Hr.out]; rfl, HF.out.be⟩
  | true =>
    cases b0 with
    | false =>
      go_wp2_with (first | (go_at_call 90; refine (HNo.out _ _ (lies_new _ [.int .i64 m.i, .int .i64 m.q, .int .i64 m.r] _ _ (by simp))).mono ?_; rintro e w' ⟨rfl, rfl⟩; obtain ⟨HF, c0, c1, c2, c3, c4, c5, c6, c7, c8, c9, c10, c11⟩ := keepF HF (alloc_below _ (.cells #[.int .i64 m.i, .int .i64 m.q, .int .i64 m.r] 3))) | (go_at_call 91; refine (HBa.out _).mono ?_; rintro e w' ⟨rfl, hb'⟩; obtain ⟨HF, c0, c1, c2, c3, c4, c5, c6, c7, c8, c9, c10, c11⟩ := keepF HF hb'; clear hb') | (go_at_call 63; refine (win_any _ _ _ _).mono ?_; rintro e w' ⟨rfl, rfl⟩))
      go_ret
      exact ⟨by rw [Hr.out]; rfl, by first | exact HF.out.be | exact below_drewN HF.out.be _⟩
    | true =>
      cases b1 with
      | false =>
        go_wp2_with (first | (go_at_call 90; refine (HNo.out _ _ (lies_new _ [.int .i64 m.i, .int .i64 m.q, .int .i64 m.r] _ _ (by simp))).mono ?_; rintro e w' ⟨rfl, rfl⟩; obtain ⟨HF, c0, c1, c2, c3, c4, c5, c6, c7, c8, c9, c10, c11⟩ := keepF HF (alloc_below _ (.cells #[.int .i64 m.i, .int .i64 m.q, .int .i64 m.r] 3))) | (go_at_call 91; refine (HBa.out _).mono ?_; rintro e w' ⟨rfl, hb'⟩; obtain ⟨HF, c0, c1, c2, c3, c4, c5, c6, c7, c8, c9, c10, c11⟩ := keepF HF hb'; clear hb') | (go_at_call 63; refine (win_any _ _ _ _).mono ?_; rintro e w' ⟨rfl, rfl⟩))
        go_ret
        exact ⟨by rw [Hr.out]; rfl, by first | exact HF.out.be | exact below_drewN HF.out.be _⟩
      | true =>
        go_wp2_with (first | (go_at_call 90; refine (HNo.out _ _ (lies_new _ [.int .i64 m.i, .int .i64 m.q, .int .i64 m.r] _ _ (by simp))).mono ?_; rintro e w' ⟨rfl, rfl⟩; obtain ⟨HF, c0, c1, c2, c3, c4, c5, c6, c7, c8, c9, c10, c11⟩ := keepF HF (alloc_below _ (.cells #[.int .i64 m.i, .int .i64 m.q, .int .i64 m.r] 3))) | (go_at_call 91; refine (HBa.out _).mono ?_; rintro e w' ⟨rfl, hb'⟩; obtain ⟨HF, c0, c1, c2, c3, c4, c5, c6, c7, c8, c9, c10, c11⟩ := keepF HF hb'; clear hb') | (go_at_call 63; refine (win_any _ _ _ _).mono ?_; rintro e w' ⟨rfl, rfl⟩))
        go_ret
        exact ⟨by rw [Hr.out]; rfl, by first | exact HF.out.be | exact below_drewN HF.out.be _⟩

set_option maxRecDepth 100000 in
set_option maxHeartbeats 8000000 in
theorem form_7 (m : Psp.Msg) (vb vo vc vp : Value) (f cl : Int) (w : World) (P : Nat → Prop) (hx : MsgOk w P ⟨m, vb, vo, vc, vp⟩) (hw : wfMsg m) (hf : Psp.may f = true) (hk : m.k = 7) :
    Calls Tryz.prog 46 #[.agg #[.int .i64 m.k, .int .i64 m.f, .int .i64 m.v, .int .i64 m.i, .int .i64 m.q, .int .i64 m.r, vb, vo, vc, vp], .int .i64 f, .int .i64 cl] w fun e w' => e = .returned (.bool (Psp.formM m f cl)) ∧ Below w.heap.size w w' := by
  obtain ⟨Ab, Ao, Ac, Ap, cb, co, cc, cp, rfl, rfl, rfl, rfl⟩ := msg_slices hx
  have HX := Lib.hid hx
  have Hw := Lib.hid hw
  obtain ⟨q, hq⟩ : ∃ q, Psp.nodes f = q := ⟨_, rfl⟩
  have hq0 : (q == 0) = false := by rw [← hq, may_zero, hf]; rfl
  have hbn := b_nodes_any f
  rw [hq] at hbn
  have HNn := Lib.hid hbn
  obtain ⟨nb, hnb⟩ : ∃ x, Psp.nodeB m.f f = x := ⟨_, rfl⟩
  have HNo0 : Hid (∀ w' : World, Calls Tryz.prog 93 #[.agg #[.int .i64 f, .int .i64 cl], .int .i64 m.f] w' fun e w'' => e = .returned (.bool nb) ∧ Below w'.heap.size w' w'') := Lib.hid fun w' => by rw [← hnb]; exact node_any _ _ _ w'

  have t1 : (m.k == 1) = false := by rw [hk]; rfl
  have t2 : (m.k == 2) = false := by rw [hk]; rfl
  have t3 : (m.k == 3) = false := by rw [hk]; rfl
  have t4 : (m.k == 4) = false := by rw [hk]; rfl
  have t5 : (m.k == 5) = false := by rw [hk]; rfl
  have t6 : (m.k == 6) = false := by rw [hk]; rfl
  have t7 : (m.k == 7) = true := by rw [hk]; rfl
  have t8 : (m.k == 8) = false := by rw [hk]; rfl
  have t9 : (m.k == 9) = false := by rw [hk]; rfl
  have t10 : (m.k == 10) = false := by rw [hk]; rfl
  obtain ⟨b0, hb0⟩ : ∃ x, Psp.noB [m.i, m.q, m.r] = x := ⟨_, rfl⟩
  have HNo : Hid (∀ (w' : World) (b : Nat), Lies w' b 0 ([m.i, m.q, m.r].map iv) → Calls Tryz.prog 90 #[.slice (some ⟨b, 0, none⟩) 3 3] w' fun e w'' => e = .returned (.bool b0) ∧ w' = w'') := Lib.hid fun w' b hl => by rw [← hb0]; exact nou_any [m.i, m.q, m.r] b 3 w' rfl hl (by omega)
  obtain ⟨b1, hb1⟩ : ∃ x, Psp.bareB m false true true false = x := ⟨_, rfl⟩
  have HBa : Hid (∀ w' : World, Calls Tryz.prog 91 #[.agg #[.int .i64 m.k, .int .i64 m.f, .int .i64 m.v, .int .i64 m.i, .int .i64 m.q, .int .i64 m.r, .slice Ab m.b.length cb, .slice Ao m.o.length co, .slice Ac m.c.length cc, .slice Ap m.p.length cp], .bool false, .bool true, .bool true, .bool false] w' fun e w'' => e = .returned (.bool b1) ∧ Below w'.heap.size w' w'') := Lib.hid fun w' => by rw [← hb1]; exact bare_n _ _ _ _ _ _ _ _ _ _ _ _ _ _ _ _ _ _ _ _ _ _ w'
  obtain ⟨b2, hb2⟩ : ∃ x, Psp.changeB m.v m.o m.c f cl = x := ⟨_, rfl⟩
  have HCh : Hid (∀ w' : World, Hid (Fb w w' m (.slice Ab m.b.length cb) (.slice Ao m.o.length co) (.slice Ac m.c.length cc) (.slice Ap m.p.length cp) f cl) → Calls Tryz.prog 95 #[.agg #[.int .i64 f, .int .i64 cl], .int .i64 m.v, .slice Ao m.o.length co, .slice Ac m.c.length cc] w' fun e w'' => e = .returned (.bool b2) ∧ Below w'.heap.size w' w'') := Lib.hid fun w' h => by rw [← hb2]; exact change_l m.v m.o m.c _ _ f cl w' P (HX.out.2.1.keeps' (Keeps.below h.out.be)) (HX.out.2.2.1.keeps (Keeps.below h.out.be)) Hw.out.2.2.2.2.2.2.2.1 Hw.out.2.2.2.2.2.2.2.2.1
  have Hr : Hid (Psp.formM m f cl = (nb && (b0 && (b1 && (b2))))) := Lib.hid (by unfold Psp.formM; rw [hf, hk, hnb]; simp only [Int.reduceEq, if_false, if_true, or_false, or_true, Bool.true_and, false_or]; rw [hb0, hb1, hb2])
  clear hq hbn hnb hx hw hb0 hb1 hb2 hk hf
  have HF0 := fb_start w m (.slice Ab m.b.length cb) (.slice Ao m.o.length co) (.slice Ac m.c.length cc) (.slice Ap m.p.length cp) f cl
  obtain ⟨HF, c0, c1, c2, c3, c4, c5, c6, c7, c8, c9, c10, c11⟩ := keepF HF0 (Below.refl _ _)
  go_enter Tryz.func46, Tryz.ntmps46
  go_wp2_with (first | (go_at_call 89; refine (HNn.out _).mono ?_; rintro e w' ⟨rfl, rfl⟩))
  refine (HNo0.out _).mono ?_
  rintro e w2 ⟨rfl, hb'⟩
  obtain ⟨HF, c0, c1, c2, c3, c4, c5, c6, c7, c8, c9, c10, c11⟩ := keepF HF hb'
  clear hb' HF0
  cases nb with
  | false =>
    go_wp2_with fail
    go_ret
    exact ⟨by rw [Hr.out]; rfl, HF.out.be⟩
  | true =>
    cases b0 with
    | false =>
      go_wp2_with (first | (go_at_call 90; refine (HNo.out _ _ (lies_new _ [.int .i64 m.i, .int .i64 m.q, .int .i64 m.r] _ _ (by simp))).mono ?_; rintro e w' ⟨rfl, rfl⟩; obtain ⟨HF, c0, c1, c2, c3, c4, c5, c6, c7, c8, c9, c10, c11⟩ := keepF HF (alloc_below _ (.cells #[.int .i64 m.i, .int .i64 m.q, .int .i64 m.r] 3))) | (go_at_call 91; refine (HBa.out _).mono ?_; rintro e w' ⟨rfl, hb'⟩; obtain ⟨HF, c0, c1, c2, c3, c4, c5, c6, c7, c8, c9, c10, c11⟩ := keepF HF hb'; clear hb') | (go_at_call 95; refine (HCh.out _ HF).mono ?_; rintro e w' ⟨rfl, hb'⟩; obtain ⟨HF, c0, c1, c2, c3, c4, c5, c6, c7, c8, c9, c10, c11⟩ := keepF HF hb'; clear hb'))
      go_ret
      exact ⟨by rw [Hr.out]; rfl, by first | exact HF.out.be | exact below_drewN HF.out.be _⟩
    | true =>
      cases b1 with
      | false =>
        go_wp2_with (first | (go_at_call 90; refine (HNo.out _ _ (lies_new _ [.int .i64 m.i, .int .i64 m.q, .int .i64 m.r] _ _ (by simp))).mono ?_; rintro e w' ⟨rfl, rfl⟩; obtain ⟨HF, c0, c1, c2, c3, c4, c5, c6, c7, c8, c9, c10, c11⟩ := keepF HF (alloc_below _ (.cells #[.int .i64 m.i, .int .i64 m.q, .int .i64 m.r] 3))) | (go_at_call 91; refine (HBa.out _).mono ?_; rintro e w' ⟨rfl, hb'⟩; obtain ⟨HF, c0, c1, c2, c3, c4, c5, c6, c7, c8, c9, c10, c11⟩ := keepF HF hb'; clear hb') | (go_at_call 95; refine (HCh.out _ HF).mono ?_; rintro e w' ⟨rfl, hb'⟩; obtain ⟨HF, c0, c1, c2, c3, c4, c5, c6, c7, c8, c9, c10, c11⟩ := keepF HF hb'; clear hb'))
        go_ret
        exact ⟨by rw [Hr.out]; rfl, by first | exact HF.out.be | exact below_drewN HF.out.be _⟩
      | true =>
        go_wp2_with (first | (go_at_call 90; refine (HNo.out _ _ (lies_new _ [.int .i64 m.i, .int .i64 m.q, .int .i64 m.r] _ _ (by simp))).mono ?_; rintro e w' ⟨rfl, rfl⟩; obtain ⟨HF, c0, c1, c2, c3, c4, c5, c6, c7, c8, c9, c10, c11⟩ := keepF HF (alloc_below _ (.cells #[.int .i64 m.i, .int .i64 m.q, .int .i64 m.r] 3))) | (go_at_call 91; refine (HBa.out _).mono ?_; rintro e w' ⟨rfl, hb'⟩; obtain ⟨HF, c0, c1, c2, c3, c4, c5, c6, c7, c8, c9, c10, c11⟩ := keepF HF hb'; clear hb') | (go_at_call 95; refine (HCh.out _ HF).mono ?_; rintro e w' ⟨rfl, hb'⟩; obtain ⟨HF, c0, c1, c2, c3, c4, c5, c6, c7, c8, c9, c10, c11⟩ := keepF HF hb'; clear hb'))
        go_ret
        exact ⟨by rw [Hr.out]; rfl, by first | exact HF.out.be | exact below_drewN HF.out.be _⟩

end Go.Proofs.YtadpkjgjciodnaaGreat
