/- Package msgs: Form, kind by kind. Printed by gen_fg.py. -/
import Derived.Test.YtljfoajhobambaaFp4Sp
import Derived.Deep.RegionHeld3
namespace Go.Proofs.Ytljfoajhobambaa
open Go.RowKit
set_option linter.unusedVariables false
set_option linter.unusedSimpArgs false

/-- The numbers of a message are int64s. -/
def wfMsg (m : Psp.Msg) : Prop := isI64 m.k ∧ isI64 m.f ∧ isI64 m.v ∧ isI64 m.i ∧ isI64 m.q ∧ isI64 m.r ∧ (∀ r ∈ m.b, wfReq r) ∧ (∀ v ∈ m.o, wfVote v) ∧ (∀ c ∈ m.c, wfCert c) ∧ ∀ p ∈ m.p, wfPart p
/-- The message's box, the looks. -/
structure Fb (w0 W : World) (m : Psp.Msg) (vb vo vc vp : Value) (f cl : Int) : Prop where
  box : W.heap[w0.heap.size]? = some (.cells #[.int .i64 m.k, .int .i64 m.f, .int .i64 m.v, .int .i64 m.i, .int .i64 m.q, .int .i64 m.r, vb, vo, vc, vp] 27 (0, 0))
  lk : W.rangeAt (w0.heap.size + 1) 0 [.int .i64 f, .int .i64 cl]
  sz : w0.heap.size + 1 < W.heap.size
  be : Below w0.heap.size w0 W
theorem Fb.below {w0 W W' : World} {m : Psp.Msg} {vb vo vc vp : Value} {f cl : Int} (h : Fb w0 W m vb vo vc vp f cl) (hb : Below W.heap.size W W') : Fb w0 W' m vb vo vc vp f cl := by
  have := h.sz
  exact ⟨(hb.block _ (by omega)).trans h.box, range_keep h.lk (hb.block _ h.sz), Nat.lt_of_lt_of_le h.sz hb.size, h.be.trans (hb.mono (by omega))⟩
theorem Fb.cell {w0 W : World} {m : Psp.Msg} {vb vo vc vp : Value} {f cl : Int} (h : Fb w0 W m vb vo vc vp f cl) {j : Nat} {u : Value} (hj : (#[.int .i64 m.k, .int .i64 m.f, .int .i64 m.v, .int .i64 m.i, .int .i64 m.q, .int .i64 m.r, vb, vo, vc, vp] : Array Value)[j]? = some u) : W.cell? ⟨w0.heap.size, j, none⟩ = some u := by
  rw [cell_of_row _ _ j _ _ _ h.box]; exact hj
theorem keepF {w0 W W' : World} {m : Psp.Msg} {vb vo vc vp : Value} {f cl : Int} (h : Hid (Fb w0 W m vb vo vc vp f cl)) (hb : Below W.heap.size W W') : Hid (Fb w0 W' m vb vo vc vp f cl) ∧ W'.cell? ⟨w0.heap.size, 0, none⟩ = some (.int .i64 m.k) ∧ W'.cell? ⟨w0.heap.size, 1, none⟩ = some (.int .i64 m.f) ∧ W'.cell? ⟨w0.heap.size, 2, none⟩ = some (.int .i64 m.v) ∧ W'.cell? ⟨w0.heap.size, 3, none⟩ = some (.int .i64 m.i) ∧ W'.cell? ⟨w0.heap.size, 4, none⟩ = some (.int .i64 m.q) ∧ W'.cell? ⟨w0.heap.size, 5, none⟩ = some (.int .i64 m.r) ∧ W'.cell? ⟨w0.heap.size, 6, none⟩ = some (vb) ∧ W'.cell? ⟨w0.heap.size, 7, none⟩ = some (vo) ∧ W'.cell? ⟨w0.heap.size, 8, none⟩ = some (vc) ∧ W'.cell? ⟨w0.heap.size, 9, none⟩ = some (vp) ∧ W'.cell? ⟨w0.heap.size + 1, 0, none⟩ = some (.int .i64 f) ∧ W'.cell? ⟨w0.heap.size + 1, 1, none⟩ = some (.int .i64 cl) := by
  have h2 := h.out.below hb
  refine ⟨Lib.hid h2, h2.cell (j := 0) rfl, h2.cell (j := 1) rfl, h2.cell (j := 2) rfl, h2.cell (j := 3) rfl, h2.cell (j := 4) rfl, h2.cell (j := 5) rfl, h2.cell (j := 6) rfl, h2.cell (j := 7) rfl, h2.cell (j := 8) rfl, h2.cell (j := 9) rfl, ?_, ?_⟩
  · have := h2.lk 0 _ rfl; simpa using this
  · have := h2.lk 1 _ rfl; simpa using this
theorem fb_start (w : World) (m : Psp.Msg) (vb vo vc vp : Value) (f cl : Int) : Hid (Fb w ((w.alloc (.cells #[.int .i64 m.k, .int .i64 m.f, .int .i64 m.v, .int .i64 m.i, .int .i64 m.q, .int .i64 m.r, vb, vo, vc, vp] 27)).alloc (.cells #[.int .i64 f, .int .i64 cl] 117)) m vb vo vc vp f cl) := by
  refine Lib.hid ⟨?_, ?_, by simp, (alloc_below w _).trans ((alloc_below _ _).mono (by simp))⟩
  · rw [(alloc_below _ _).block _ (by simp)]; exact heap_alloc_new w _
  · have := range_new (w.alloc (.cells #[.int .i64 m.k, .int .i64 m.f, .int .i64 m.v, .int .i64 m.i, .int .i64 m.q, .int .i64 m.r, vb, vo, vc, vp] 27)) #[.int .i64 f, .int .i64 cl] 117
    simpa using this
/-- The slices of a message, as the walk wants them. -/
theorem msg_slices {w : World} {P : Nat → Prop} {m : Psp.Msg} {vb vo vc vp : Value} (h : MsgOk w P ⟨m, vb, vo, vc, vp⟩) : ∃ Ab Ao Ac Ap cb co cc cp, vb = .slice Ab m.b.length cb ∧ vo = .slice Ao m.o.length co ∧ vc = .slice Ac m.c.length cc ∧ vp = .slice Ap m.p.length cp := by
  obtain ⟨h1, h2, h3, h4⟩ := h
  obtain ⟨_, Ab, cb, e1, _⟩ := RdP.parts (show RdP _ _ 6 vb m.b.length (m.b.flatMap rq) from h1)
  obtain ⟨_, Ao, co, e2, _⟩ := RdP.parts (show RdP _ _ 2 vo m.o.length (m.o.flatMap vt) from h2)
  obtain ⟨Lc, hc1, hc2, _⟩ := h3
  obtain ⟨_, Ac, cc, e3, _⟩ := hc2.parts
  obtain ⟨Lp, hp1, hp2, _⟩ := h4
  obtain ⟨_, Ap, cp, e4, _⟩ := hp2.parts
  dsimp only at hc1 hp1
  refine ⟨Ab, Ao, Ac, Ap, cb, co, cc, cp, e1, e2, ?_, ?_⟩
  · rw [← hc1, List.length_map]; exact e3
  · rw [← hp1, List.length_map]; exact e4

set_option maxRecDepth 100000 in
set_option maxHeartbeats 8000000 in
theorem form_2 (m : Psp.Msg) (vb vo vc vp : Value) (f cl : Int) (w : World) (P : Nat → Prop) (hx : MsgOk w P ⟨m, vb, vo, vc, vp⟩) (hw : wfMsg m) (hf : Psp.may f = true) (hk : m.k = 2) :
    Calls Try.prog 24 #[.agg #[.int .i64 m.k, .int .i64 m.f, .int .i64 m.v, .int .i64 m.i, .int .i64 m.q, .int .i64 m.r, vb, vo, vc, vp], .int .i64 f, .int .i64 cl] w fun e w' => e = .returned (.bool (Psp.formM m f cl)) ∧ Below w.heap.size w w' := by
  obtain ⟨Ab, Ao, Ac, Ap, cb, co, cc, cp, rfl, rfl, rfl, rfl⟩ := msg_slices hx
  have HX := Lib.hid hx
  have Hw := Lib.hid hw
  obtain ⟨q, hq⟩ : ∃ q, Psp.nodes f = q := ⟨_, rfl⟩
  have hq0 : (q == 0) = false := by rw [← hq, may_zero, hf]; rfl
  have hbn := b_nodes_any f
  rw [hq] at hbn
  have HNn := Lib.hid hbn
  obtain ⟨nb, hnb⟩ : ∃ x, Psp.nodeB m.f f = x := ⟨_, rfl⟩
  have HNo0 : Hid (∀ w' : World, Calls Try.prog 77 #[.agg #[.int .i64 f, .int .i64 cl], .int .i64 m.f] w' fun e w'' => e = .returned (.bool nb) ∧ Below w'.heap.size w' w'') := Lib.hid fun w' => by rw [← hnb]; exact node_any _ _ _ w'

  have t1 : (m.k == 1) = false := by rw [hk]; rfl
  have t2 : (m.k == 2) = true := by rw [hk]; rfl
  have t3 : (m.k == 3) = false := by rw [hk]; rfl
  have t4 : (m.k == 4) = false := by rw [hk]; rfl
  have t5 : (m.k == 5) = false := by rw [hk]; rfl
  have t6 : (m.k == 6) = false := by rw [hk]; rfl
  have t7 : (m.k == 7) = false := by rw [hk]; rfl
  have t8 : (m.k == 8) = false := by rw [hk]; rfl
  have t9 : (m.k == 9) = false := by rw [hk]; rfl
  have t10 : (m.k == 10) = false := by rw [hk]; rfl
  obtain ⟨b0, hb0⟩ : ∃ x, Psp.noB [m.v, m.i, m.q, m.r] = x := ⟨_, rfl⟩
  have HNo : Hid (∀ (w' : World) (b : Nat), Lies w' b 0 ([m.v, m.i, m.q, m.r].map iv) → Calls Try.prog 74 #[.slice (some ⟨b, 0, none⟩) 4 4] w' fun e w'' => e = .returned (.bool b0) ∧ w' = w'') := Lib.hid fun w' b hl => by rw [← hb0]; exact nou_any [m.v, m.i, m.q, m.r] b 4 w' rfl hl (by omega)
  obtain ⟨b1, hb1⟩ : ∃ x, Psp.bareB m true false false false = x := ⟨_, rfl⟩
  have HBa : Hid (∀ w' : World, Calls Try.prog 75 #[.agg #[.int .i64 m.k, .int .i64 m.f, .int .i64 m.v, .int .i64 m.i, .int .i64 m.q, .int .i64 m.r, .slice Ab m.b.length cb, .slice Ao m.o.length co, .slice Ac m.c.length cc, .slice Ap m.p.length cp], .bool true, .bool false, .bool false, .bool false] w' fun e w'' => e = .returned (.bool b1) ∧ Below w'.heap.size w' w'') := Lib.hid fun w' => by rw [← hb1]; exact bare_n _ _ _ _ _ _ _ _ _ _ _ _ _ _ _ _ _ _ _ _ _ _ w'
  obtain ⟨b2, hb2⟩ : ∃ x, Psp.batchB m.b cl 1 1 = x := ⟨_, rfl⟩
  have HBt : Hid (∀ w' : World, Hid (Fb w w' m (.slice Ab m.b.length cb) (.slice Ao m.o.length co) (.slice Ac m.c.length cc) (.slice Ap m.p.length cp) f cl) → Calls Try.prog 76 #[.agg #[.int .i64 f, .int .i64 cl], .slice Ab m.b.length cb, .int .i64 1, .int .i64 1] w' fun e w'' => e = .returned (.bool b2) ∧ Below w'.heap.size w' w'') := Lib.hid fun w' h => by rw [← hb2]; exact batch_l m.b m.b.length _ f cl 1 1 w' P (HX.out.1.keeps' (Keeps.below h.out.be)) rfl
  have Hr : Hid (Psp.formM m f cl = (nb && (b0 && (b1 && (b2))))) := Lib.hid (by unfold Psp.formM; rw [hf, hk, hnb]; simp only [Int.reduceEq, if_false, if_true, or_false, or_true, Bool.true_and, false_or]; rw [hb0, hb1, hb2])
  clear hq hbn hnb hx hw hb0 hb1 hb2 hk hf
  have HF0 := fb_start w m (.slice Ab m.b.length cb) (.slice Ao m.o.length co) (.slice Ac m.c.length cc) (.slice Ap m.p.length cp) f cl
  obtain ⟨HF, c0, c1, c2, c3, c4, c5, c6, c7, c8, c9, c10, c11⟩ := keepF HF0 (Below.refl _ _)
  go_enter Try.func24, Try.ntmps24
  go_wp2_with (first | (go_at_call 73; refine (HNn.out _).mono ?_; rintro e w' ⟨rfl, rfl⟩))
  refine (HNo0.out _).mono ?_
  rintro e w2 ⟨rfl, hb'⟩
  obtain ⟨HF, c0, c1, c2, c3, c4, c5, c6, c7, c8, c9, c10, c11⟩ := keepF HF hb'
  clear hb' HF0
  cases nb with
  | false =>
    go_wp2_with fail
    go_ret
    exact ⟨by rw [Hr.out]; rfl, HF.out.be⟩
  | true =>
    cases b0 with
    | false =>
      go_wp2_with (first | (go_at_call 74; refine (HNo.out _ _ (lies_new _ [.int .i64 m.v, .int .i64 m.i, .int .i64 m.q, .int .i64 m.r] _ _ (by simp))).mono ?_; rintro e w' ⟨rfl, rfl⟩; obtain ⟨HF, c0, c1, c2, c3, c4, c5, c6, c7, c8, c9, c10, c11⟩ := keepF HF (alloc_below _ (.cells #[.int .i64 m.v, .int .i64 m.i, .int .i64 m.q, .int .i64 m.r] 3))) | (go_at_call 75; refine (HBa.out _).mono ?_; rintro e w' ⟨rfl, hb'⟩; obtain ⟨HF, c0, c1, c2, c3, c4, c5, c6, c7, c8, c9, c10, c11⟩ := keepF HF hb'; clear hb') | (go_at_call 76; refine (HBt.out _ HF).mono ?_; rintro e w' ⟨rfl, hb'⟩; obtain ⟨HF, c0, c1, c2, c3, c4, c5, c6, c7, c8, c9, c10, c11⟩ := keepF HF hb'; clear hb'))
      go_ret
      exact ⟨by rw [Hr.out]; rfl, by first | exact HF.out.be | exact below_drewN HF.out.be _⟩
    | true =>
      cases b1 with
      | false =>
        go_wp2_with (first | (go_at_call 74; refine (HNo.out _ _ (lies_new _ [.int .i64 m.v, .int .i64 m.i, .int .i64 m.q, .int .i64 m.r] _ _ (by simp))).mono ?_; rintro e w' ⟨rfl, rfl⟩; obtain ⟨HF, c0, c1, c2, c3, c4, c5, c6, c7, c8, c9, c10, c11⟩ := keepF HF (alloc_below _ (.cells #[.int .i64 m.v, .int .i64 m.i, .int .i64 m.q, .int .i64 m.r] 3))) | (go_at_call 75; refine (HBa.out _).mono ?_; rintro e w' ⟨rfl, hb'⟩; obtain ⟨HF, c0, c1, c2, c3, c4, c5, c6, c7, c8, c9, c10, c11⟩ := keepF HF hb'; clear hb') | (go_at_call 76; refine (HBt.out _ HF).mono ?_; rintro e w' ⟨rfl, hb'⟩; obtain ⟨HF, c0, c1, c2, c3, c4, c5, c6, c7, c8, c9, c10, c11⟩ := keepF HF hb'; clear hb'))
        go_ret
        exact ⟨by rw [Hr.out]; rfl, by first | exact HF.out.be | exact below_drewN HF.out.be _⟩
      | true =>
        go_wp2_with (first | (go_at_call 74; refine (HNo.out _ _ (lies_new _ [.int .i64 m.v, .int .i64 m.i, .int .i64 m.q, .int .i64 m.r] _ _ (by simp))).mono ?_; rintro e w' ⟨rfl, rfl⟩; obtain ⟨HF, c0, c1, c2, c3, c4, c5, c6, c7, c8, c9, c10, c11⟩ := keepF HF (alloc_below _ (.cells #[.int .i64 m.v, .int .i64 m.i, .int .i64 m.q, .int .i64 m.r] 3))) | (go_at_call 75; refine (HBa.out _).mono ?_; rintro e w' ⟨rfl, hb'⟩; obtain ⟨HF, c0, c1, c2, c3, c4, c5, c6, c7, c8, c9, c10, c11⟩ := keepF HF hb'; clear hb') | (go_at_call 76; refine (HBt.out _ HF).mono ?_; rintro e w' ⟨rfl, hb'⟩; obtain ⟨HF, c0, c1, c2, c3, c4, c5, c6, c7, c8, c9, c10, c11⟩ := keepF HF hb'; clear hb'))
        go_ret
        exact ⟨by rw [Hr.out]; rfl, by first | exact HF.out.be | exact below_drewN HF.out.be _⟩
end Go.Proofs.Ytljfoajhobambaa
