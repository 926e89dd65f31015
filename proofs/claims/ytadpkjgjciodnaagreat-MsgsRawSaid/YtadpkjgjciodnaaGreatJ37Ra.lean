/- The reference's form: parts. Printed by gen_rf5.py. The reference's Form, a message of kind 7. Printed by gen_rk.py. -/
import Derived.Test.YtadpkjgjciodnaaGreatRf4Ra
import Derived.Test.YtadpkjgjciodnaaGreatJ19Ra
import Derived.Test.YtadpkjgjciodnaaGreatBalRa
section
namespace Go.Proofs.YtadpkjgjciodnaaGreat
open Go.RowKit
set_option linter.unusedVariables false
set_option linter.unusedSimpArgs false

/-- The message's box. -/
structure Mk (w0 W : World) (cs : Array Value) : Prop where
  box : W.heap[w0.heap.size]? = some (.cells cs 41 (0, 0))
  be : Below w0.heap.size w0 W
theorem Mk.new (w : World) (cs : Array Value) : Mk w (w.alloc (.cells cs 41)) cs := ⟨heap_alloc_new w _, alloc_below w _⟩
theorem Mk.below {w0 W W' : World} {cs : Array Value} (h : Mk w0 W cs) (hb : Below W.heap.size W W') : Mk w0 W' cs := ⟨box_below' h.box hb, Below.then h.be hb h.be.size⟩
theorem Mk.cell {w0 W : World} {cs : Array Value} (h : Mk w0 W cs) {j : Nat} {u : Value} (hj : cs[j]? = some u) : W.cell? ⟨w0.heap.size, j, none⟩ = some u := by
  rw [cell_of_row _ _ j _ _ _ h.box]; exact hj

end Go.Proofs.YtadpkjgjciodnaaGreat
end
section
namespace Go.Proofs.YtadpkjgjciodnaaGreat
open Go.RowKit
set_option linter.unusedVariables false
set_option linter.unusedSimpArgs false

set_option maxRecDepth 100000 in
set_option maxHeartbeats 16000000 in
theorem rform_7 (m : Psp.Msg) (vb vo vc vp : Value) (f cl : Int) (w : World) (P : Nat → Prop) (hx : MsgOk w P ⟨m, vb, vo, vc, vp⟩) (hw : wfMsg m) (hf : Psp.may f = true) (hk : m.k = 7) :
    Calls Tryz.prog 64 #[.agg #[.int .i64 m.k, .int .i64 m.f, .int .i64 m.v, .int .i64 m.i, .int .i64 m.q, .int .i64 m.r, vb, vo, vc, vp], .int .i64 f, .int .i64 cl] w fun e w' => e = .returned (.bool (Psp.formM m f cl)) ∧ Below w.heap.size w w' := by
  obtain ⟨Ab, Ao, Ac, Ap, cb, co, cc, cp, rfl, rfl, rfl, rfl⟩ := msg_slices hx
  have HX := Lib.hid hx
  have Hw := Lib.hid hw
  obtain ⟨nn, hnn⟩ : ∃ q, Psp.nodes f = q := ⟨_, rfl⟩
  have hq0 : (nn == 0) = false := by rw [← hnn, may_zero, hf]; rfl
  have HN : Hid (∀ W : World, Calls Tryz.prog 30 #[.int .i64 f] W fun e w' => e = .returned (.int .i64 nn) ∧ W = w') := Lib.hid fun W => by rw [← hnn]; exact r_nodes_any f W
  obtain ⟨hn0, hn1⟩ := Psp.nodes_bd f
  rw [hnn] at hn0 hn1
  obtain ⟨g0, hg0⟩ : ∃ x, decide (m.f < 0) = x := ⟨_, rfl⟩
  obtain ⟨g1, hg1⟩ : ∃ x, decide (m.f ≥ nn) = x := ⟨_, rfl⟩
  have hnb : Psp.nodeB m.f f = (!g0 && !g1) := by unfold Psp.nodeB; rw [hnn, ← hg0, ← hg1, Bool.eq_iff_iff, Psp.win_iff]; simp; omega
  obtain ⟨t0, ht0⟩ : ∃ x, blankB true false false false false true true false m.v m.i m.q m.r m.b.length m.o.length m.c.length m.p.length = x := ⟨_, rfl⟩
  obtain ⟨t1, ht1⟩ : ∃ x, Psp.changeB m.v m.o m.c f cl = x := ⟨_, rfl⟩
  have Hres : Hid (Psp.formM m f cl = ((!g0 && !g1) && (t0 && (t1)))) := Lib.hid (by
    unfold Psp.formM
    rw [hf, Bool.true_and, ← hnb, hk]
    simp only [Int.reduceEq, if_false, if_true, true_or, or_true]
    congr 1
    rw [← ht0, ← ht1]
    simp only [Psp.noB, Psp.bareB, blankB, Psp.win, Psp.batchB, List.all_cons, List.all_nil, Bool.false_or, Bool.true_or, Bool.true_and, Bool.and_true]
    first
      | rfl
      | (rw [Bool.eq_iff_iff]; simp [and_assoc]; omega)
      | (rw [Bool.eq_iff_iff]; simp [and_assoc, and_left_comm, and_comm]; try omega))
  have Ht0 := Lib.hid ht0
  have Ht1 := Lib.hid ht1
  clear hx hw hnn hf hnb ht0 ht1
  have Hk := Lib.hid hk
  rw [hk]
  have HL0 := Lib.hid (Mk.new w #[.int .i64 7, .int .i64 m.f, .int .i64 m.v, .int .i64 m.i, .int .i64 m.q, .int .i64 m.r, .slice Ab m.b.length cb, .slice Ao m.o.length co, .slice Ac m.c.length cc, .slice Ap m.p.length cp])
  go_enter Tryz.func64, Tryz.ntmps64
  go_wp2_with fail
  obtain ⟨W0, hW0⟩ : ∃ W, w.alloc (.cells #[.int .i64 7, .int .i64 m.f, .int .i64 m.v, .int .i64 m.i, .int .i64 m.q, .int .i64 m.r, .slice Ab m.b.length cb, .slice Ao m.o.length co, .slice Ac m.c.length cc, .slice Ap m.p.length cp] 41) = W := ⟨_, rfl⟩
  rw [hW0] at HL0 ⊢
  clear hW0 hk
  refine (HN.out _).mono ?_
  rintro e w' ⟨rfl, rfl⟩
  have y0 : W0.cell? ⟨w.heap.size, 0, none⟩ = some (.int .i64 7) := HL0.out.cell (j := 0) rfl
  go_wp2_with fail
  have y1 := later_cell (show W0.cell? ⟨w.heap.size, 1, none⟩ = some (.int .i64 m.f) from HL0.out.cell (j := 1) rfl)
  have HNp : Hid (∀ p : Later W0, Calls Tryz.prog 30 #[.int .i64 f] p.W fun e w' => e = .returned (.int .i64 nn) ∧ p.W = w') := Lib.hid fun p => HN.out _
  cases g0 with
  | true =>
    refine wp_region_later (by kernel_rfl) (by kernel_rfl) ?_
    repeat (first | go_big_quiet_step ((go_at_call 30; exact later_same _ (HNp.out _))) | quiet_step ((go_at_call 30; exact later_same _ (HNp.out _))))
    refine wpQuiet_nil ?_
    intro w2 hw'
    obtain ⟨⟨wq, hbq⟩, hw'⟩ := hw'
    have hb2 : Below W0.heap.size W0 w2 := by rw [hw']; exact hbq
    clear hw' hbq
    have HL1 := Lib.hid (HL0.out.below hb2)
    clear hb2 y0 y1
    have y0 : w2.cell? ⟨w.heap.size, 0, none⟩ = some (.int .i64 7) := HL1.out.cell (j := 0) rfl
    go_wp2_with fail
    go_ret
    exact ⟨by rw [Hres.out]; rfl, HL1.out.be⟩
  | false =>
   cases g1 with
   | true =>
    refine wp_region_later (by kernel_rfl) (by kernel_rfl) ?_
    repeat (first | go_big_quiet_step ((go_at_call 30; exact later_same _ (HNp.out _))) | quiet_step ((go_at_call 30; exact later_same _ (HNp.out _))))
    refine wpQuiet_nil ?_
    intro w2 hw'
    obtain ⟨⟨wq, hbq⟩, hw'⟩ := hw'
    have hb2 : Below W0.heap.size W0 w2 := by rw [hw']; exact hbq
    clear hw' hbq
    have HL1 := Lib.hid (HL0.out.below hb2)
    clear hb2 y0 y1
    have y0 : w2.cell? ⟨w.heap.size, 0, none⟩ = some (.int .i64 7) := HL1.out.cell (j := 0) rfl
    go_wp2_with fail
    go_ret
    exact ⟨by rw [Hres.out]; rfl, HL1.out.be⟩
   | false =>
    refine wp_region_later (by kernel_rfl) (by kernel_rfl) ?_
    repeat (first | go_big_quiet_step ((go_at_call 30; exact later_same _ (HNp.out _))) | quiet_step ((go_at_call 30; exact later_same _ (HNp.out _))))
    refine wpQuiet_nil ?_
    intro w2 hw'
    obtain ⟨⟨wq, hbq⟩, hw'⟩ := hw'
    have hb2 : Below W0.heap.size W0 w2 := by rw [hw']; exact hbq
    clear hw' hbq
    have HL1 := Lib.hid (HL0.out.below hb2)
    clear hb2 y0 y1
    have y0 : w2.cell? ⟨w.heap.size, 0, none⟩ = some (.int .i64 7) := HL1.out.cell (j := 0) rfl
    have y1 : w2.cell? ⟨w.heap.size, 1, none⟩ = some (.int .i64 m.f) := HL1.out.cell (j := 1) rfl
    have y2 : w2.cell? ⟨w.heap.size, 2, none⟩ = some (.int .i64 m.v) := HL1.out.cell (j := 2) rfl
    have y3 : w2.cell? ⟨w.heap.size, 3, none⟩ = some (.int .i64 m.i) := HL1.out.cell (j := 3) rfl
    have y4 : w2.cell? ⟨w.heap.size, 4, none⟩ = some (.int .i64 m.q) := HL1.out.cell (j := 4) rfl
    have y5 : w2.cell? ⟨w.heap.size, 5, none⟩ = some (.int .i64 m.r) := HL1.out.cell (j := 5) rfl
    have y6 : w2.cell? ⟨w.heap.size, 6, none⟩ = some (.slice Ab m.b.length cb) := HL1.out.cell (j := 6) rfl
    have y7 : w2.cell? ⟨w.heap.size, 7, none⟩ = some (.slice Ao m.o.length co) := HL1.out.cell (j := 7) rfl
    have y8 : w2.cell? ⟨w.heap.size, 8, none⟩ = some (.slice Ac m.c.length cc) := HL1.out.cell (j := 8) rfl
    have y9 : w2.cell? ⟨w.heap.size, 9, none⟩ = some (.slice Ap m.p.length cp) := HL1.out.cell (j := 9) rfl
    go_wp2_with fail
    clear y0 y1 y2 y3 y4 y5 y6 y7 y8 y9
    refine (blank_voc _ _ _ _ _ _ _ _ _ _ _ _ _ _ _ _ _ _ w2).mono ?_
    rw [Ht0.out]
    rintro e v0 ⟨rfl, hb⟩
    have HV0 := Lib.hid (HL1.out.below hb)
    clear hb
    have y0 : v0.cell? ⟨w.heap.size, 0, none⟩ = some (.int .i64 7) := HV0.out.cell (j := 0) rfl
    have y1 : v0.cell? ⟨w.heap.size, 1, none⟩ = some (.int .i64 m.f) := HV0.out.cell (j := 1) rfl
    have y2 : v0.cell? ⟨w.heap.size, 2, none⟩ = some (.int .i64 m.v) := HV0.out.cell (j := 2) rfl
    have y3 : v0.cell? ⟨w.heap.size, 3, none⟩ = some (.int .i64 m.i) := HV0.out.cell (j := 3) rfl
    have y4 : v0.cell? ⟨w.heap.size, 4, none⟩ = some (.int .i64 m.q) := HV0.out.cell (j := 4) rfl
    have y5 : v0.cell? ⟨w.heap.size, 5, none⟩ = some (.int .i64 m.r) := HV0.out.cell (j := 5) rfl
    have y6 : v0.cell? ⟨w.heap.size, 6, none⟩ = some (.slice Ab m.b.length cb) := HV0.out.cell (j := 6) rfl
    have y7 : v0.cell? ⟨w.heap.size, 7, none⟩ = some (.slice Ao m.o.length co) := HV0.out.cell (j := 7) rfl
    have y8 : v0.cell? ⟨w.heap.size, 8, none⟩ = some (.slice Ac m.c.length cc) := HV0.out.cell (j := 8) rfl
    have y9 : v0.cell? ⟨w.heap.size, 9, none⟩ = some (.slice Ap m.p.length cp) := HV0.out.cell (j := 9) rfl
    cases t0 with
    | false =>
      go_wp2_with fail
      go_ret
      exact ⟨by rw [Hres.out]; rfl, HV0.out.be⟩
    | true =>
      go_wp2_with fail
      clear y0 y1 y2 y3 y4 y5 y6 y7 y8 y9
      refine (rchange_l m.v m.o m.c _ _ f cl v0 P (RdV.keeps' HX.out.2.1 (Keeps.below HV0.out.be)) (HX.out.2.2.1.keeps (Keeps.below HV0.out.be)) Hw.out.2.2.2.2.2.2.2.1 Hw.out.2.2.2.2.2.2.2.2.1).mono ?_
      rw [Ht1.out]
      rintro e v1 ⟨rfl, hb⟩
      have HV1 := Lib.hid (HV0.out.below hb)
      clear hb
      have y0 : v1.cell? ⟨w.heap.size, 0, none⟩ = some (.int .i64 7) := HV1.out.cell (j := 0) rfl
      have y1 : v1.cell? ⟨w.heap.size, 1, none⟩ = some (.int .i64 m.f) := HV1.out.cell (j := 1) rfl
      have y2 : v1.cell? ⟨w.heap.size, 2, none⟩ = some (.int .i64 m.v) := HV1.out.cell (j := 2) rfl
      have y3 : v1.cell? ⟨w.heap.size, 3, none⟩ = some (.int .i64 m.i) := HV1.out.cell (j := 3) rfl
      have y4 : v1.cell? ⟨w.heap.size, 4, none⟩ = some (.int .i64 m.q) := HV1.out.cell (j := 4) rfl
      have y5 : v1.cell? ⟨w.heap.size, 5, none⟩ = some (.int .i64 m.r) := HV1.out.cell (j := 5) rfl
      have y6 : v1.cell? ⟨w.heap.size, 6, none⟩ = some (.slice Ab m.b.length cb) := HV1.out.cell (j := 6) rfl
      have y7 : v1.cell? ⟨w.heap.size, 7, none⟩ = some (.slice Ao m.o.length co) := HV1.out.cell (j := 7) rfl
      have y8 : v1.cell? ⟨w.heap.size, 8, none⟩ = some (.slice Ac m.c.length cc) := HV1.out.cell (j := 8) rfl
      have y9 : v1.cell? ⟨w.heap.size, 9, none⟩ = some (.slice Ap m.p.length cp) := HV1.out.cell (j := 9) rfl
      cases t1 with
      | false =>
        go_wp2_with fail
        go_ret
        exact ⟨by rw [Hres.out]; rfl, HV1.out.be⟩
      | true =>
        go_wp2_with fail
        go_ret
        exact ⟨by rw [Hres.out]; rfl, HV1.out.be⟩
end Go.Proofs.YtadpkjgjciodnaaGreat
end
