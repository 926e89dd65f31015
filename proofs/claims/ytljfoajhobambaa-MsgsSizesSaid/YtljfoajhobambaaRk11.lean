/- The reference's Form, a message of kind 11. Printed by gen_rk.py. -/
import Derived.Test.YtljfoajhobambaaRf5
import Derived.Test.YtljfoajhobambaaBal
namespace Go.Proofs.Ytljfoajhobambaa
open Go.RowKit
set_option linter.unusedVariables false
set_option linter.unusedSimpArgs false

set_option maxRecDepth 100000 in
set_option maxHeartbeats 16000000 in
theorem rform_11 (m : Psp.Msg) (vb vo vc vp : Value) (f cl : Int) (w : World) (P : Nat → Prop) (hx : MsgOk w P ⟨m, vb, vo, vc, vp⟩) (hw : wfMsg m) (hf : Psp.may f = true) (hk : ∀ j : Int, 1 ≤ j → j ≤ 10 → m.k ≠ j) :
    Calls Try.prog 23 #[.agg #[.int .i64 m.k, .int .i64 m.f, .int .i64 m.v, .int .i64 m.i, .int .i64 m.q, .int .i64 m.r, vb, vo, vc, vp], .int .i64 f, .int .i64 cl] w fun e w' => e = .returned (.bool (Psp.formM m f cl)) ∧ Below w.heap.size w w' := by
  obtain ⟨Ab, Ao, Ac, Ap, cb, co, cc, cp, rfl, rfl, rfl, rfl⟩ := msg_slices hx
  have HX := Lib.hid hx
  have Hw := Lib.hid hw
  obtain ⟨nn, hnn⟩ : ∃ q, Psp.nodes f = q := ⟨_, rfl⟩
  have hq0 : (nn == 0) = false := by rw [← hnn, may_zero, hf]; rfl
  have HN : Hid (∀ W : World, Calls Try.prog 64 #[.int .i64 f] W fun e w' => e = .returned (.int .i64 nn) ∧ W = w') := Lib.hid fun W => by rw [← hnn]; exact r_nodes_any f W
  obtain ⟨hn0, hn1⟩ := Psp.nodes_bd f
  rw [hnn] at hn0 hn1
  obtain ⟨g0, hg0⟩ : ∃ x, decide (m.f < 0) = x := ⟨_, rfl⟩
  obtain ⟨g1, hg1⟩ : ∃ x, decide (m.f ≥ nn) = x := ⟨_, rfl⟩
  have hnb : Psp.nodeB m.f f = (!g0 && !g1) := by unfold Psp.nodeB; rw [hnn, ← hg0, ← hg1, Bool.eq_iff_iff, Psp.win_iff]; simp; omega
  have Hres : Hid (Psp.formM m f cl = false) := Lib.hid (by
    unfold Psp.formM
    rw [hf, if_neg (hk 1 (by omega) (by omega)), if_neg (hk 2 (by omega) (by omega)), if_neg (hk 3 (by omega) (by omega)), if_neg (by have := hk 4 (by omega) (by omega); have := hk 5 (by omega) (by omega); omega), if_neg (hk 6 (by omega) (by omega)), if_neg (hk 7 (by omega) (by omega)), if_neg (hk 8 (by omega) (by omega)), if_neg (hk 9 (by omega) (by omega)), if_neg (hk 10 (by omega) (by omega)), Bool.and_false]
    rfl)
  have k1 : (m.k == 1) = false := beq_eq_false_iff_ne.2 (hk 1 (by omega) (by omega))
  have k2 : (m.k == 2) = false := beq_eq_false_iff_ne.2 (hk 2 (by omega) (by omega))
  have k3 : (m.k == 3) = false := beq_eq_false_iff_ne.2 (hk 3 (by omega) (by omega))
  have k4 : (m.k == 4) = false := beq_eq_false_iff_ne.2 (hk 4 (by omega) (by omega))
  have k5 : (m.k == 5) = false := beq_eq_false_iff_ne.2 (hk 5 (by omega) (by omega))
  have k6 : (m.k == 6) = false := beq_eq_false_iff_ne.2 (hk 6 (by omega) (by omega))
  have k7 : (m.k == 7) = false := beq_eq_false_iff_ne.2 (hk 7 (by omega) (by omega))
  have k8 : (m.k == 8) = false := beq_eq_false_iff_ne.2 (hk 8 (by omega) (by omega))
  have k9 : (m.k == 9) = false := beq_eq_false_iff_ne.2 (hk 9 (by omega) (by omega))
  have k10 : (m.k == 10) = false := beq_eq_false_iff_ne.2 (hk 10 (by omega) (by omega))
  clear hx hw hnn hf hnb 
  have HL0 := Lib.hid (Mk.new w #[.int .i64 m.k, .int .i64 m.f, .int .i64 m.v, .int .i64 m.i, .int .i64 m.q, .int .i64 m.r, .slice Ab m.b.length cb, .slice Ao m.o.length co, .slice Ac m.c.length cc, .slice Ap m.p.length cp])
  go_enter Try.func23, Try.ntmps23
  go_wp2_with fail
  obtain ⟨W0, hW0⟩ : ∃ W, w.alloc (.cells #[.int .i64 m.k, .int .i64 m.f, .int .i64 m.v, .int .i64 m.i, .int .i64 m.q, .int .i64 m.r, .slice Ab m.b.length cb, .slice Ao m.o.length co, .slice Ac m.c.length cc, .slice Ap m.p.length cp] 27) = W := ⟨_, rfl⟩
  rw [hW0] at HL0 ⊢
  clear hW0 
  refine (HN.out _).mono ?_
  rintro e w' ⟨rfl, rfl⟩
  have y0 : W0.cell? ⟨w.heap.size, 0, none⟩ = some (.int .i64 m.k) := HL0.out.cell (j := 0) rfl
  go_wp2_with fail
  have y1 := later_cell (show W0.cell? ⟨w.heap.size, 1, none⟩ = some (.int .i64 m.f) from HL0.out.cell (j := 1) rfl)
  have HNp : Hid (∀ p : Later W0, Calls Try.prog 64 #[.int .i64 f] p.W fun e w' => e = .returned (.int .i64 nn) ∧ p.W = w') := Lib.hid fun p => HN.out _
  cases g0 with
  | true =>
    refine wp_region_later (by kernel_rfl) (by kernel_rfl) ?_
    repeat (first | go_big_quiet_step ((go_at_call 64; exact later_same _ (HNp.out _))) | quiet_step ((go_at_call 64; exact later_same _ (HNp.out _))))
    refine wpQuiet_nil ?_
    intro w2 hw'
    obtain ⟨⟨wq, hbq⟩, hw'⟩ := hw'
    have hb2 : Below W0.heap.size W0 w2 := by rw [hw']; exact hbq
    clear hw' hbq
    have HL1 := Lib.hid (HL0.out.below hb2)
    clear hb2 y0 y1
    have y0 : w2.cell? ⟨w.heap.size, 0, none⟩ = some (.int .i64 m.k) := HL1.out.cell (j := 0) rfl
    go_wp2_with fail
    go_ret
    exact ⟨by rw [Hres.out]; rfl, HL1.out.be⟩
  | false =>
   cases g1 with
   | true =>
    refine wp_region_later (by kernel_rfl) (by kernel_rfl) ?_
    repeat (first | go_big_quiet_step ((go_at_call 64; exact later_same _ (HNp.out _))) | quiet_step ((go_at_call 64; exact later_same _ (HNp.out _))))
    refine wpQuiet_nil ?_
    intro w2 hw'
    obtain ⟨⟨wq, hbq⟩, hw'⟩ := hw'
    have hb2 : Below W0.heap.size W0 w2 := by rw [hw']; exact hbq
    clear hw' hbq
    have HL1 := Lib.hid (HL0.out.below hb2)
    clear hb2 y0 y1
    have y0 : w2.cell? ⟨w.heap.size, 0, none⟩ = some (.int .i64 m.k) := HL1.out.cell (j := 0) rfl
    go_wp2_with fail
    go_ret
    exact ⟨by rw [Hres.out]; rfl, HL1.out.be⟩
   | false =>
    refine wp_region_later (by kernel_rfl) (by kernel_rfl) ?_
    repeat (first | go_big_quiet_step ((go_at_call 64; exact later_same _ (HNp.out _))) | quiet_step ((go_at_call 64; exact later_same _ (HNp.out _))))
    refine wpQuiet_nil ?_
    intro w2 hw'
    obtain ⟨⟨wq, hbq⟩, hw'⟩ := hw'
    have hb2 : Below W0.heap.size W0 w2 := by rw [hw']; exact hbq
    clear hw' hbq
    have HL1 := Lib.hid (HL0.out.below hb2)
    clear hb2 y0 y1
    have y0 : w2.cell? ⟨w.heap.size, 0, none⟩ = some (.int .i64 m.k) := HL1.out.cell (j := 0) rfl
    go_wp2_with fail
    go_ret
    exact ⟨by rw [Hres.out]; rfl, HL1.out.be⟩
end Go.Proofs.Ytljfoajhobambaa
