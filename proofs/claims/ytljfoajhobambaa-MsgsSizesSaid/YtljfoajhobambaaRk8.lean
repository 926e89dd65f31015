/- The reference's Form, a message of kind 8. Printed by gen_rk.py. -/
import Derived.Test.YtljfoajhobambaaRf5
import Derived.Test.YtljfoajhobambaaBal
namespace Go.Proofs.Ytljfoajhobambaa
open Go.RowKit
set_option linter.unusedVariables false
set_option linter.unusedSimpArgs false

set_option maxRecDepth 100000 in
set_option maxHeartbeats 16000000 in
theorem rform_8 (m : Psp.Msg) (vb vo vc vp : Value) (f cl : Int) (w : World) (P : Nat → Prop) (hx : MsgOk w P ⟨m, vb, vo, vc, vp⟩) (hw : wfMsg m) (hf : Psp.may f = true) (hk : m.k = 8) :
    Calls Try.prog 23 #[.agg #[.int .i64 m.k, .int .i64 m.f, .int .i64 m.v, .int .i64 m.i, .int .i64 m.q, .int .i64 m.r, vb, vo, vc, vp], .int .i64 f, .int .i64 cl] w fun e w' => e = .returned (.bool (Psp.formM m f cl)) ∧ Below w.heap.size w w' := by
  obtain ⟨Ab, Ao, Ac, Ap, cb, co, cc, cp, rfl, rfl, rfl, rfl⟩ := msg_slices hx
  have HX := Lib.hid hx
  have Hw := Lib.hid hw
  obtain ⟨nn, hnn⟩ : ∃ q, Psp.nodes f = q := ⟨_, rfl⟩
  have hq0 : (nn == 0) = false := by rw [← hnn, may_zero, hf]; rfl
  have HN : Hid (∀ W : World, Calls Try.prog 64 #[.int .i64 f] W fun e w' => e = .returned (.int .i64 nn) ∧ W = w') := Lib.hid fun W => by rw [← hnn]; exact r_nodes_any f W
  obtain ⟨hn0, hn1⟩ := Psp.nodes_bd f
  rw [hnn] at hn0 hn1
  obtain ⟨g0, hg0⟩ : ∃ x, decide (m.f < 0) = x := ⟨_, rfl⟩
  obtain ⟨g1, hg1⟩ : ∃ x, decide (m.f ≥ nn) = x := ⟨_, rfl⟩
  have hnb : Psp.nodeB m.f f = (!g0 && !g1) := by unfold Psp.nodeB; rw [hnn, ← hg0, ← hg1, Bool.eq_iff_iff, Psp.win_iff]; simp; omega
  obtain ⟨t0, ht0⟩ : ∃ x, blankB true true false false false false false true m.v m.i m.q m.r m.b.length m.o.length m.c.length m.p.length = x := ⟨_, rfl⟩
  obtain ⟨t1, ht1⟩ : ∃ x, decide (m.v ≥ 1) = x := ⟨_, rfl⟩
  obtain ⟨t2, ht2⟩ : ∃ x, decide (m.v ≤ 12) = x := ⟨_, rfl⟩
  obtain ⟨t3, ht3⟩ : ∃ x, decide (m.i ≥ 0) = x := ⟨_, rfl⟩
  obtain ⟨t4, ht4⟩ : ∃ x, decide (m.i ≤ f) = x := ⟨_, rfl⟩
  obtain ⟨t5, ht5⟩ : ∃ x, (m.f == Psp.primary f m.v m.i) = x := ⟨_, rfl⟩
  obtain ⟨t6, ht6⟩ : ∃ x, Psp.partsB m.v m.p f cl = x := ⟨_, rfl⟩
  have Hres : Hid (Psp.formM m f cl = ((!g0 && !g1) && (t0 && (t1 && (t2 && (t3 && (t4 && (t5 && (t6))))))))) := Lib.hid (by
    unfold Psp.formM
    rw [hf, Bool.true_and, ← hnb, hk]
    simp only [Int.reduceEq, if_false, if_true, true_or, or_true]
    congr 1
    rw [← ht0, ← ht1, ← ht2, ← ht3, ← ht4, ← ht5, ← ht6]
    simp only [Psp.noB, Psp.bareB, blankB, Psp.win, Psp.batchB, List.all_cons, List.all_nil, Bool.false_or, Bool.true_or, Bool.true_and, Bool.and_true]
    first
      | rfl
      | (rw [Bool.eq_iff_iff]; simp [and_assoc]; omega)
      | (rw [Bool.eq_iff_iff]; simp [and_assoc, and_left_comm, and_comm]; try omega))
  have Ht0 := Lib.hid ht0
  have Ht6 := Lib.hid ht6
  clear hx hw hnn hf hnb ht0 ht6
  obtain ⟨pr, hpr⟩ : ∃ x, Psp.primary f m.v m.i = x := ⟨_, rfl⟩
  have HPr : Hid (∀ W : World, Calls Try.prog 69 #[.int .i64 f, .int .i64 m.v, .int .i64 m.i] W fun e w' => e = .returned (.int .i64 pr) ∧ W = w') := Lib.hid fun W => by rw [← hpr]; exact r_primary_any f m.v m.i W Hw.out.2.2.1.1 Hw.out.2.2.1.2 Hw.out.2.2.2.1.1 Hw.out.2.2.2.1.2
  rw [hpr] at ht5
  clear hpr
  have Hk := Lib.hid hk
  rw [hk]
  have HL0 := Lib.hid (Mk.new w #[.int .i64 8, .int .i64 m.f, .int .i64 m.v, .int .i64 m.i, .int .i64 m.q, .int .i64 m.r, .slice Ab m.b.length cb, .slice Ao m.o.length co, .slice Ac m.c.length cc, .slice Ap m.p.length cp])
  go_enter Try.func23, Try.ntmps23
  go_wp2_with fail
  obtain ⟨W0, hW0⟩ : ∃ W, w.alloc (.cells #[.int .i64 8, .int .i64 m.f, .int .i64 m.v, .int .i64 m.i, .int .i64 m.q, .int .i64 m.r, .slice Ab m.b.length cb, .slice Ao m.o.length co, .slice Ac m.c.length cc, .slice Ap m.p.length cp] 27) = W := ⟨_, rfl⟩
  rw [hW0] at HL0 ⊢
  clear hW0 hk
  refine (HN.out _).mono ?_
  rintro e w' ⟨rfl, rfl⟩
  have y0 : W0.cell? ⟨w.heap.size, 0, none⟩ = some (.int .i64 8) := HL0.out.cell (j := 0) rfl
  go_wp2_with fail
  have y1 := later_cell (show W0.cell? ⟨w.heap.size, 1, none⟩ = some (.int .i64 m.f) from HL0.out.cell (j := 1) rfl)
  have HNp : Hid (∀ p : Later W0, Calls Try.prog 64 #[.int .i64 f] p.W fun e w' => e = .returned (.int .i64 nn) ∧ p.W = w') := Lib.hid fun p => HN.out _
  cases g0 with
  | true =>
    refine wp_region_later (by kernel_rfl) (by kernel_rfl) ?_
    repeat (first | go_big_quiet_step ((go_at_call 64; exact later_same _ (HNp.out _))) | quiet_step ((go_at_call 64; exact later_same _ (HNp.out _))))
    refine wpQuiet_nil ?_
    intro w2 hw'
    obtain ⟨⟨wq, hbq⟩, hw'⟩ := hw'
    have hb2 : Below W0.heap.size W0 w2 := by rw [hw']; exact hbq
    clear hw' hbq
    have HL1 := Lib.hid (HL0.out.below hb2)
    clear hb2 y0 y1
    have y0 : w2.cell? ⟨w.heap.size, 0, none⟩ = some (.int .i64 8) := HL1.out.cell (j := 0) rfl
    go_wp2_with fail
    go_ret
    exact ⟨by rw [Hres.out]; rfl, HL1.out.be⟩
  | false =>
   cases g1 with
   | true =>
    refine wp_region_later (by kernel_rfl) (by kernel_rfl) ?_
    repeat (first | go_big_quiet_step ((go_at_call 64; exact later_same _ (HNp.out _))) | quiet_step ((go_at_call 64; exact later_same _ (HNp.out _))))
    refine wpQuiet_nil ?_
    intro w2 hw'
    obtain ⟨⟨wq, hbq⟩, hw'⟩ := hw'
    have hb2 : Below W0.heap.size W0 w2 := by rw [hw']; exact hbq
    clear hw' hbq
    have HL1 := Lib.hid (HL0.out.below hb2)
    clear hb2 y0 y1
    have y0 : w2.cell? ⟨w.heap.size, 0, none⟩ = some (.int .i64 8) := HL1.out.cell (j := 0) rfl
    go_wp2_with fail
    go_ret
    exact ⟨by rw [Hres.out]; rfl, HL1.out.be⟩
   | false =>
    refine wp_region_later (by kernel_rfl) (by kernel_rfl) ?_
    repeat (first | go_big_quiet_step ((go_at_call 64; exact later_same _ (HNp.out _))) | quiet_step ((go_at_call 64; exact later_same _ (HNp.out _))))
    refine wpQuiet_nil ?_
    intro w2 hw'
    obtain ⟨⟨wq, hbq⟩, hw'⟩ := hw'
    have hb2 : Below W0.heap.size W0 w2 := by rw [hw']; exact hbq
    clear hw' hbq
    have HL1 := Lib.hid (HL0.out.below hb2)
    clear hb2 y0 y1
    have y0 : w2.cell? ⟨w.heap.size, 0, none⟩ = some (.int .i64 8) := HL1.out.cell (j := 0) rfl
    go_wp2_with fail
    clear y0
    have HC0 : Hid (∀ p : Later w2, Calls Try.prog 65 #[.agg #[.int .i64 8, .int .i64 m.f, .int .i64 m.v, .int .i64 m.i, .int .i64 m.q, .int .i64 m.r, .slice Ab m.b.length cb, .slice Ao m.o.length co, .slice Ac m.c.length cc, .slice Ap m.p.length cp], .string { data := #[118, 105, 112] }] p.W fun e w' => e = .returned (.bool t0) ∧ Below p.W.heap.size p.W w') := Lib.hid fun p => by rw [← Ht0.out]; have hhk := Hk.out; rw [← hhk]; exact blank_vip _ _ _ _ _ _ _ _ _ _ _ _ _ _ _ _ _ _ p.W
    have HC6 : Hid (∀ p : Later w2, Calls Try.prog 71 #[.agg #[.int .i64 8, .int .i64 m.f, .int .i64 m.v, .int .i64 m.i, .int .i64 m.q, .int .i64 m.r, .slice Ab m.b.length cb, .slice Ao m.o.length co, .slice Ac m.c.length cc, .slice Ap m.p.length cp], .int .i64 f, .int .i64 cl] p.W fun e w' => e = .returned (.bool t6) ∧ Below p.W.heap.size p.W w') := Lib.hid fun p => by rw [← Ht6.out]; have hhk := Hk.out; rw [← hhk]; exact rparts_l m _ _ _ _ f cl p.W P (HX.out.keeps (Keeps.below (HL1.out.below p.h).be)) Hw.out.2.2.2.2.2.2.2.2.2
    have HCp : Hid (∀ p : Later w2, Calls Try.prog 69 #[.int .i64 f, .int .i64 m.v, .int .i64 m.i] p.W fun e w' => e = .returned (.int .i64 pr) ∧ p.W = w') := Lib.hid fun p => HPr.out _
    have HRM : Hid (∀ w' : World, (∃ p : Later w2, w' = p.W) → w'.rangeAt w.heap.size 0 [.int .i64 8, .int .i64 m.f, .int .i64 m.v, .int .i64 m.i, .int .i64 m.q, .int .i64 m.r, .slice Ab m.b.length cb, .slice Ao m.o.length co, .slice Ac m.c.length cc, .slice Ap m.p.length cp]) := Lib.hid (by rintro w' ⟨p, rfl⟩; exact range_of_row (HL1.out.below p.h).box)
    have y1 := later_cell (show w2.cell? ⟨w.heap.size, 1, none⟩ = some (.int .i64 m.f) from HL1.out.cell (j := 1) rfl)
    have y2 := later_cell (show w2.cell? ⟨w.heap.size, 2, none⟩ = some (.int .i64 m.v) from HL1.out.cell (j := 2) rfl)
    have y3 := later_cell (show w2.cell? ⟨w.heap.size, 3, none⟩ = some (.int .i64 m.i) from HL1.out.cell (j := 3) rfl)
    have y4 := later_cell (show w2.cell? ⟨w.heap.size, 4, none⟩ = some (.int .i64 m.q) from HL1.out.cell (j := 4) rfl)
    have y5 := later_cell (show w2.cell? ⟨w.heap.size, 5, none⟩ = some (.int .i64 m.r) from HL1.out.cell (j := 5) rfl)
    have y6 := later_cell (show w2.cell? ⟨w.heap.size, 6, none⟩ = some (.slice Ab m.b.length cb) from HL1.out.cell (j := 6) rfl)
    have y7 := later_cell (show w2.cell? ⟨w.heap.size, 7, none⟩ = some (.slice Ao m.o.length co) from HL1.out.cell (j := 7) rfl)
    have y8 := later_cell (show w2.cell? ⟨w.heap.size, 8, none⟩ = some (.slice Ac m.c.length cc) from HL1.out.cell (j := 8) rfl)
    have y9 := later_cell (show w2.cell? ⟨w.heap.size, 9, none⟩ = some (.slice Ap m.p.length cp) from HL1.out.cell (j := 9) rfl)
    cases t0 with
    | false =>
      refine wp_region_later (by kernel_rfl) (by kernel_rfl) ?_
      repeat (first | go_big_quiet_step (first | (go_at_call 65; exact later_call _ (HC0.out _)) | (go_at_call 71; exact later_call _ (HC6.out _)) | (go_at_call 69; exact later_same _ (HCp.out _))) | (refine quiet_load (by simp [Region.wanted, yielded]) 27 (.tmp 3) (by rfl) w.heap.size (0) (by rfl) [.int .i64 8, .int .i64 m.f, .int .i64 m.v, .int .i64 m.i, .int .i64 m.q, .int .i64 m.r, .slice Ab m.b.length cb, .slice Ao m.o.length co, .slice Ac m.c.length cc, .slice Ap m.p.length cp] _ HRM.out Try.underlying27 rfl sizeM ?_; intro K hK; go_simp; refine hK _ ?_; clear hK K) | quiet_step (first | (go_at_call 65; exact later_call _ (HC0.out _)) | (go_at_call 71; exact later_call _ (HC6.out _)) | (go_at_call 69; exact later_same _ (HCp.out _))))
      refine wpQuiet_nil ?_
      intro w3 hw'
      obtain ⟨⟨wq, hbq⟩, hw'⟩ := hw'
      have hb2 : Below w2.heap.size w2 w3 := by rw [hw']; exact hbq
      clear hw' hbq
      have HL2 := Lib.hid (HL1.out.below hb2)
      clear hb2
      go_wp2_with fail
      go_ret
      exact ⟨by rw [Hres.out]; rfl, HL2.out.be⟩
    | true =>
      cases t1 with
      | false =>
        refine wp_region_later (by kernel_rfl) (by kernel_rfl) ?_
        repeat (first | go_big_quiet_step (first | (go_at_call 65; exact later_call _ (HC0.out _)) | (go_at_call 71; exact later_call _ (HC6.out _)) | (go_at_call 69; exact later_same _ (HCp.out _))) | (refine quiet_load (by simp [Region.wanted, yielded]) 27 (.tmp 3) (by rfl) w.heap.size (0) (by rfl) [.int .i64 8, .int .i64 m.f, .int .i64 m.v, .int .i64 m.i, .int .i64 m.q, .int .i64 m.r, .slice Ab m.b.length cb, .slice Ao m.o.length co, .slice Ac m.c.length cc, .slice Ap m.p.length cp] _ HRM.out Try.underlying27 rfl sizeM ?_; intro K hK; go_simp; refine hK _ ?_; clear hK K) | quiet_step (first | (go_at_call 65; exact later_call _ (HC0.out _)) | (go_at_call 71; exact later_call _ (HC6.out _)) | (go_at_call 69; exact later_same _ (HCp.out _))))
        refine wpQuiet_nil ?_
        intro w3 hw'
        obtain ⟨⟨wq, hbq⟩, hw'⟩ := hw'
        have hb2 : Below w2.heap.size w2 w3 := by rw [hw']; exact hbq
        clear hw' hbq
        have HL2 := Lib.hid (HL1.out.below hb2)
        clear hb2
        go_wp2_with fail
        go_ret
        exact ⟨by rw [Hres.out]; rfl, HL2.out.be⟩
      | true =>
        cases t2 with
        | false =>
          refine wp_region_later (by kernel_rfl) (by kernel_rfl) ?_
          repeat (first | go_big_quiet_step (first | (go_at_call 65; exact later_call _ (HC0.out _)) | (go_at_call 71; exact later_call _ (HC6.out _)) | (go_at_call 69; exact later_same _ (HCp.out _))) | (refine quiet_load (by simp [Region.wanted, yielded]) 27 (.tmp 3) (by rfl) w.heap.size (0) (by rfl) [.int .i64 8, .int .i64 m.f, .int .i64 m.v, .int .i64 m.i, .int .i64 m.q, .int .i64 m.r, .slice Ab m.b.length cb, .slice Ao m.o.length co, .slice Ac m.c.length cc, .slice Ap m.p.length cp] _ HRM.out Try.underlying27 rfl sizeM ?_; intro K hK; go_simp; refine hK _ ?_; clear hK K) | quiet_step (first | (go_at_call 65; exact later_call _ (HC0.out _)) | (go_at_call 71; exact later_call _ (HC6.out _)) | (go_at_call 69; exact later_same _ (HCp.out _))))
          refine wpQuiet_nil ?_
          intro w3 hw'
          obtain ⟨⟨wq, hbq⟩, hw'⟩ := hw'
          have hb2 : Below w2.heap.size w2 w3 := by rw [hw']; exact hbq
          clear hw' hbq
          have HL2 := Lib.hid (HL1.out.below hb2)
          clear hb2
          go_wp2_with fail
          go_ret
          exact ⟨by rw [Hres.out]; rfl, HL2.out.be⟩
        | true =>
          cases t3 with
          | false =>
            refine wp_region_later (by kernel_rfl) (by kernel_rfl) ?_
            repeat (first | go_big_quiet_step (first | (go_at_call 65; exact later_call _ (HC0.out _)) | (go_at_call 71; exact later_call _ (HC6.out _)) | (go_at_call 69; exact later_same _ (HCp.out _))) | (refine quiet_load (by simp [Region.wanted, yielded]) 27 (.tmp 3) (by rfl) w.heap.size (0) (by rfl) [.int .i64 8, .int .i64 m.f, .int .i64 m.v, .int .i64 m.i, .int .i64 m.q, .int .i64 m.r, .slice Ab m.b.length cb, .slice Ao m.o.length co, .slice Ac m.c.length cc, .slice Ap m.p.length cp] _ HRM.out Try.underlying27 rfl sizeM ?_; intro K hK; go_simp; refine hK _ ?_; clear hK K) | quiet_step (first | (go_at_call 65; exact later_call _ (HC0.out _)) | (go_at_call 71; exact later_call _ (HC6.out _)) | (go_at_call 69; exact later_same _ (HCp.out _))))
            refine wpQuiet_nil ?_
            intro w3 hw'
            obtain ⟨⟨wq, hbq⟩, hw'⟩ := hw'
            have hb2 : Below w2.heap.size w2 w3 := by rw [hw']; exact hbq
            clear hw' hbq
            have HL2 := Lib.hid (HL1.out.below hb2)
            clear hb2
            go_wp2_with fail
            go_ret
            exact ⟨by rw [Hres.out]; rfl, HL2.out.be⟩
          | true =>
            cases t4 with
            | false =>
              refine wp_region_later (by kernel_rfl) (by kernel_rfl) ?_
              repeat (first | go_big_quiet_step (first | (go_at_call 65; exact later_call _ (HC0.out _)) | (go_at_call 71; exact later_call _ (HC6.out _)) | (go_at_call 69; exact later_same _ (HCp.out _))) | (refine quiet_load (by simp [Region.wanted, yielded]) 27 (.tmp 3) (by rfl) w.heap.size (0) (by rfl) [.int .i64 8, .int .i64 m.f, .int .i64 m.v, .int .i64 m.i, .int .i64 m.q, .int .i64 m.r, .slice Ab m.b.length cb, .slice Ao m.o.length co, .slice Ac m.c.length cc, .slice Ap m.p.length cp] _ HRM.out Try.underlying27 rfl sizeM ?_; intro K hK; go_simp; refine hK _ ?_; clear hK K) | quiet_step (first | (go_at_call 65; exact later_call _ (HC0.out _)) | (go_at_call 71; exact later_call _ (HC6.out _)) | (go_at_call 69; exact later_same _ (HCp.out _))))
              refine wpQuiet_nil ?_
              intro w3 hw'
              obtain ⟨⟨wq, hbq⟩, hw'⟩ := hw'
              have hb2 : Below w2.heap.size w2 w3 := by rw [hw']; exact hbq
              clear hw' hbq
              have HL2 := Lib.hid (HL1.out.below hb2)
              clear hb2
              go_wp2_with fail
              go_ret
              exact ⟨by rw [Hres.out]; rfl, HL2.out.be⟩
            | true =>
              cases t5 with
              | false =>
                refine wp_region_later (by kernel_rfl) (by kernel_rfl) ?_
                repeat (first | go_big_quiet_step (first | (go_at_call 65; exact later_call _ (HC0.out _)) | (go_at_call 71; exact later_call _ (HC6.out _)) | (go_at_call 69; exact later_same _ (HCp.out _))) | (refine quiet_load (by simp [Region.wanted, yielded]) 27 (.tmp 3) (by rfl) w.heap.size (0) (by rfl) [.int .i64 8, .int .i64 m.f, .int .i64 m.v, .int .i64 m.i, .int .i64 m.q, .int .i64 m.r, .slice Ab m.b.length cb, .slice Ao m.o.length co, .slice Ac m.c.length cc, .slice Ap m.p.length cp] _ HRM.out Try.underlying27 rfl sizeM ?_; intro K hK; go_simp; refine hK _ ?_; clear hK K) | quiet_step (first | (go_at_call 65; exact later_call _ (HC0.out _)) | (go_at_call 71; exact later_call _ (HC6.out _)) | (go_at_call 69; exact later_same _ (HCp.out _))))
                refine wpQuiet_nil ?_
                intro w3 hw'
                obtain ⟨⟨wq, hbq⟩, hw'⟩ := hw'
                have hb2 : Below w2.heap.size w2 w3 := by rw [hw']; exact hbq
                clear hw' hbq
                have HL2 := Lib.hid (HL1.out.below hb2)
                clear hb2
                go_wp2_with fail
                go_ret
                exact ⟨by rw [Hres.out]; rfl, HL2.out.be⟩
              | true =>
                cases t6 with
                | false =>
                  refine wp_region_later (by kernel_rfl) (by kernel_rfl) ?_
                  repeat (first | go_big_quiet_step (first | (go_at_call 65; exact later_call _ (HC0.out _)) | (go_at_call 71; exact later_call _ (HC6.out _)) | (go_at_call 69; exact later_same _ (HCp.out _))) | (refine quiet_load (by simp [Region.wanted, yielded]) 27 (.tmp 3) (by rfl) w.heap.size (0) (by rfl) [.int .i64 8, .int .i64 m.f, .int .i64 m.v, .int .i64 m.i, .int .i64 m.q, .int .i64 m.r, .slice Ab m.b.length cb, .slice Ao m.o.length co, .slice Ac m.c.length cc, .slice Ap m.p.length cp] _ HRM.out Try.underlying27 rfl sizeM ?_; intro K hK; go_simp; refine hK _ ?_; clear hK K) | quiet_step (first | (go_at_call 65; exact later_call _ (HC0.out _)) | (go_at_call 71; exact later_call _ (HC6.out _)) | (go_at_call 69; exact later_same _ (HCp.out _))))
                  refine wpQuiet_nil ?_
                  intro w3 hw'
                  obtain ⟨⟨wq, hbq⟩, hw'⟩ := hw'
                  have hb2 : Below w2.heap.size w2 w3 := by rw [hw']; exact hbq
                  clear hw' hbq
                  have HL2 := Lib.hid (HL1.out.below hb2)
                  clear hb2
                  go_wp2_with fail
                  go_ret
                  exact ⟨by rw [Hres.out]; rfl, HL2.out.be⟩
                | true =>
                  refine wp_region_later (by kernel_rfl) (by kernel_rfl) ?_
                  repeat (first | go_big_quiet_step (first | (go_at_call 65; exact later_call _ (HC0.out _)) | (go_at_call 71; exact later_call _ (HC6.out _)) | (go_at_call 69; exact later_same _ (HCp.out _))) | (refine quiet_load (by simp [Region.wanted, yielded]) 27 (.tmp 3) (by rfl) w.heap.size (0) (by rfl) [.int .i64 8, .int .i64 m.f, .int .i64 m.v, .int .i64 m.i, .int .i64 m.q, .int .i64 m.r, .slice Ab m.b.length cb, .slice Ao m.o.length co, .slice Ac m.c.length cc, .slice Ap m.p.length cp] _ HRM.out Try.underlying27 rfl sizeM ?_; intro K hK; go_simp; refine hK _ ?_; clear hK K) | quiet_step (first | (go_at_call 65; exact later_call _ (HC0.out _)) | (go_at_call 71; exact later_call _ (HC6.out _)) | (go_at_call 69; exact later_same _ (HCp.out _))))
                  refine wpQuiet_nil ?_
                  intro w3 hw'
                  obtain ⟨⟨wq, hbq⟩, hw'⟩ := hw'
                  have hb2 : Below w2.heap.size w2 w3 := by rw [hw']; exact hbq
                  clear hw' hbq
                  have HL2 := Lib.hid (HL1.out.below hb2)
                  clear hb2
                  go_wp2_with fail
                  go_ret
                  exact ⟨by rw [Hres.out]; rfl, HL2.out.be⟩
end Go.Proofs.Ytljfoajhobambaa
