/- The reference's Form, a message of kind 1. Printed by gen_rk1.py. -/
import Derived.Test.YtljfoajhobambaaRk2
namespace Go.Proofs.Ytljfoajhobambaa
open Go.RowKit
set_option linter.unusedVariables false
set_option linter.unusedSimpArgs false

theorem firstC_of {l : List Psp.Req} {y : Psp.Req} (h : l[0]? = some y) : Psp.firstC l = y.c := by
  cases l with
  | nil => cases h
  | cons a l => injection h with h; subst h; rfl
set_option maxRecDepth 100000 in
set_option maxHeartbeats 16000000 in
theorem rform_1 (m : Psp.Msg) (vb vo vc vp : Value) (f cl : Int) (w : World) (P : Nat → Prop) (hx : MsgOk w P ⟨m, vb, vo, vc, vp⟩) (hw : wfMsg m) (hf : Psp.may f = true) (hk : m.k = 1) :
    Calls Try.prog 23 #[.agg #[.int .i64 m.k, .int .i64 m.f, .int .i64 m.v, .int .i64 m.i, .int .i64 m.q, .int .i64 m.r, vb, vo, vc, vp], .int .i64 f, .int .i64 cl] w fun e w' => e = .returned (.bool (Psp.formM m f cl)) ∧ Below w.heap.size w w' := by
  obtain ⟨Ab, Ao, Ac, Ap, cb, co, cc, cp, rfl, rfl, rfl, rfl⟩ := msg_slices hx
  obtain ⟨lb, hlb⟩ : ∃ n, m.b.length = n := ⟨_, rfl⟩
  rw [hlb] at hx ⊢
  have Hlb := Lib.hid hlb
  have HB1 : Hid (RdP w P 6 (.slice Ab lb cb) lb (m.b.flatMap rq)) := Lib.hid (by have h := hx.1; unfold RdR at h; rw [hlb] at h; exact h)
  have Hw := Lib.hid hw
  have mf1 : m.f ≤ 9223372036854775807 := hw.2.1.2
  obtain ⟨nn, hnn⟩ : ∃ q, Psp.nodes f = q := ⟨_, rfl⟩
  have hq0 : (nn == 0) = false := by rw [← hnn, may_zero, hf]; rfl
  have HN : Hid (∀ W : World, Calls Try.prog 64 #[.int .i64 f] W fun e w' => e = .returned (.int .i64 nn) ∧ W = w') := Lib.hid fun W => by rw [← hnn]; exact r_nodes_any f W
  obtain ⟨t0, ht0⟩ : ∃ x, blankB false false false false true false false false m.v m.i m.q m.r lb m.o.length m.c.length m.p.length = x := ⟨_, rfl⟩
  obtain ⟨t1, ht1⟩ : ∃ x, ((lb : Int) == 1) = x := ⟨_, rfl⟩
  obtain ⟨t2, ht2⟩ : ∃ x, firstV m.b cl = x := ⟨_, rfl⟩
  obtain ⟨t3, ht3⟩ : ∃ x, decide (m.f ≥ 100) = x := ⟨_, rfl⟩
  obtain ⟨t4, ht4⟩ : ∃ x, (m.f - 100 == Psp.firstC m.b) = x := ⟨_, rfl⟩
  have Hres : Hid (Psp.formM m f cl = (t0 && (t1 && (t2 && (t3 && t4))))) := Lib.hid (by
    unfold Psp.formM
    rw [hf, Bool.true_and, hk]
    simp only [if_true]
    rw [← ht0, ← ht1, ← ht2, ← ht3, ← ht4, ← hlb, batch_one]
    simp only [Psp.noB, Psp.bareB, blankB, List.all_cons, List.all_nil, Bool.false_or, Bool.true_or, Bool.true_and, Bool.and_true]
    rw [Bool.eq_iff_iff]; simp [and_assoc])
  have Ht0 := Lib.hid ht0
  have Ht2 := Lib.hid ht2
  have Ht4 := Lib.hid ht4
  clear hlb hx hw hnn hf ht0 ht2 ht4
  rw [hk]
  have HL0 := Lib.hid (Mk.new w #[.int .i64 1, .int .i64 m.f, .int .i64 m.v, .int .i64 m.i, .int .i64 m.q, .int .i64 m.r, .slice Ab lb cb, .slice Ao m.o.length co, .slice Ac m.c.length cc, .slice Ap m.p.length cp])
  go_enter Try.func23, Try.ntmps23
  go_wp2_with fail
  obtain ⟨W0, hW0⟩ : ∃ W, w.alloc (.cells #[.int .i64 1, .int .i64 m.f, .int .i64 m.v, .int .i64 m.i, .int .i64 m.q, .int .i64 m.r, .slice Ab lb cb, .slice Ao m.o.length co, .slice Ac m.c.length cc, .slice Ap m.p.length cp] 27) = W := ⟨_, rfl⟩
  rw [hW0] at HL0 ⊢
  clear hW0 hk
  refine (HN.out _).mono ?_
  rintro e w' ⟨rfl, rfl⟩
  have y0 : W0.cell? ⟨w.heap.size, 0, none⟩ = some (.int .i64 1) := HL0.out.cell (j := 0) rfl
  go_wp2_with fail
  clear y0
  have HC0 : Hid (∀ p : Later W0, Calls Try.prog 65 #[.agg #[.int .i64 1, .int .i64 m.f, .int .i64 m.v, .int .i64 m.i, .int .i64 m.q, .int .i64 m.r, .slice Ab lb cb, .slice Ao m.o.length co, .slice Ac m.c.length cc, .slice Ap m.p.length cp], .string { data := #[98] }] p.W fun e w' => e = .returned (.bool t0) ∧ Below p.W.heap.size p.W w') := Lib.hid fun p => by rw [← Ht0.out]; exact blank_b _ _ _ _ _ _ _ _ _ _ _ _ _ _ _ _ _ _ p.W
  have HRM : Hid (∀ w' : World, (∃ p : Later W0, w' = p.W) → w'.rangeAt w.heap.size 0 [.int .i64 1, .int .i64 m.f, .int .i64 m.v, .int .i64 m.i, .int .i64 m.q, .int .i64 m.r, .slice Ab lb cb, .slice Ao m.o.length co, .slice Ac m.c.length cc, .slice Ap m.p.length cp]) := Lib.hid (by rintro w' ⟨p, rfl⟩; exact range_of_row (HL0.out.below p.h).box)
  have y1 := later_cell (show W0.cell? ⟨w.heap.size, 1, none⟩ = some (.int .i64 m.f) from HL0.out.cell (j := 1) rfl)
  have y2 := later_cell (show W0.cell? ⟨w.heap.size, 2, none⟩ = some (.int .i64 m.v) from HL0.out.cell (j := 2) rfl)
  have y3 := later_cell (show W0.cell? ⟨w.heap.size, 3, none⟩ = some (.int .i64 m.i) from HL0.out.cell (j := 3) rfl)
  have y4 := later_cell (show W0.cell? ⟨w.heap.size, 4, none⟩ = some (.int .i64 m.q) from HL0.out.cell (j := 4) rfl)
  have y5 := later_cell (show W0.cell? ⟨w.heap.size, 5, none⟩ = some (.int .i64 m.r) from HL0.out.cell (j := 5) rfl)
  have y6 := later_cell (show W0.cell? ⟨w.heap.size, 6, none⟩ = some (.slice Ab lb cb) from HL0.out.cell (j := 6) rfl)
  have y7 := later_cell (show W0.cell? ⟨w.heap.size, 7, none⟩ = some (.slice Ao m.o.length co) from HL0.out.cell (j := 7) rfl)
  have y8 := later_cell (show W0.cell? ⟨w.heap.size, 8, none⟩ = some (.slice Ac m.c.length cc) from HL0.out.cell (j := 8) rfl)
  have y9 := later_cell (show W0.cell? ⟨w.heap.size, 9, none⟩ = some (.slice Ap m.p.length cp) from HL0.out.cell (j := 9) rfl)
  cases t0 with
  | false =>
    refine wp_region_later (by kernel_rfl) (by kernel_rfl) ?_
    repeat (first | go_big_quiet_step (first | (go_at_call 65; exact later_call _ (HC0.out _))) | (refine quiet_load (by simp [Region.wanted, yielded]) 27 (.tmp 3) (by rfl) w.heap.size (0) (by rfl) [.int .i64 1, .int .i64 m.f, .int .i64 m.v, .int .i64 m.i, .int .i64 m.q, .int .i64 m.r, .slice Ab lb cb, .slice Ao m.o.length co, .slice Ac m.c.length cc, .slice Ap m.p.length cp] _ HRM.out Try.underlying27 rfl sizeM ?_; intro K hK; go_simp; refine hK _ ?_; clear hK K) | quiet_step (first | (go_at_call 65; exact later_call _ (HC0.out _))))
    refine wpQuiet_nil ?_
    intro w3 hw'
    obtain ⟨⟨wq, hbq⟩, hw'⟩ := hw'
    have hb2 : Below W0.heap.size W0 w3 := by rw [hw']; exact hbq
    clear hw' hbq
    have HL2 := Lib.hid (HL0.out.below hb2)
    clear hb2
    go_wp2_with fail
    go_ret
    exact ⟨by rw [Hres.out]; rfl, HL2.out.be⟩
  | true =>
   cases t1 with
   | false =>
    refine wp_region_later (by kernel_rfl) (by kernel_rfl) ?_
    repeat (first | go_big_quiet_step (first | (go_at_call 65; exact later_call _ (HC0.out _))) | (refine quiet_load (by simp [Region.wanted, yielded]) 27 (.tmp 3) (by rfl) w.heap.size (0) (by rfl) [.int .i64 1, .int .i64 m.f, .int .i64 m.v, .int .i64 m.i, .int .i64 m.q, .int .i64 m.r, .slice Ab lb cb, .slice Ao m.o.length co, .slice Ac m.c.length cc, .slice Ap m.p.length cp] _ HRM.out Try.underlying27 rfl sizeM ?_; intro K hK; go_simp; refine hK _ ?_; clear hK K) | quiet_step (first | (go_at_call 65; exact later_call _ (HC0.out _))))
    refine wpQuiet_nil ?_
    intro w3 hw'
    obtain ⟨⟨wq, hbq⟩, hw'⟩ := hw'
    have hb2 : Below W0.heap.size W0 w3 := by rw [hw']; exact hbq
    clear hw' hbq
    have HL2 := Lib.hid (HL0.out.below hb2)
    clear hb2
    go_wp2_with fail
    go_ret
    exact ⟨by rw [Hres.out]; rfl, HL2.out.be⟩
   | true =>
    have hlo : 1 ≤ lb := by have h := ht1; simp at h; omega
    obtain ⟨b0, o0, c0, y, he, hb0, hb1, hy, hel⟩ := rd_elem (f := rq) (k := 6) (fun _ => rfl) (by omega) HB1.out Hlb.out (show 0 < lb by omega)
    injection he with he1 _ he2
    subst he1 he2
    have hq := hel W0 (HL0.out.be.block b0 hb1)
    have hlt0 : b0 < W0.heap.size := Nat.lt_of_lt_of_le hb1 HL0.out.be.size
    have e0 := later_cell (show W0.cell? ⟨b0, o0, none⟩ = some (.int .i64 y.c) by have := hq 0 _ rfl; simpa [iv] using this)
    have e1 := later_cell (show W0.cell? ⟨b0, o0 + 1, none⟩ = some (.int .i64 y.t) by have := hq 1 _ rfl; simpa [iv] using this)
    have e2 := later_cell (show W0.cell? ⟨b0, o0 + 2, none⟩ = some (.int .i64 y.k) by have := hq 2 _ rfl; simpa [iv] using this)
    have e3 := later_cell (show W0.cell? ⟨b0, o0 + 3, none⟩ = some (.int .i64 y.y) by have := hq 3 _ rfl; simpa [iv] using this)
    have e4 := later_cell (show W0.cell? ⟨b0, o0 + 4, none⟩ = some (.int .i64 y.v) by have := hq 4 _ rfl; simpa [iv] using this)
    have e5 := later_cell (show W0.cell? ⟨b0, o0 + 5, none⟩ = some (.int .i64 y.s) by have := hq 5 _ rfl; simpa [iv] using this)
    have Hev : Hid (Psp.valid y cl = t2) := Lib.hid (by rw [← Ht2.out]; exact (firstV_of hy).symm)
    have HC2 : Hid (∀ p : Later W0, Calls Try.prog 66 #[.agg #[.int .i64 y.c, .int .i64 y.t, .int .i64 y.k, .int .i64 y.y, .int .i64 y.v, .int .i64 y.s], .int .i64 cl] p.W fun e w' => e = .returned (.bool t2) ∧ Below p.W.heap.size p.W w') := Lib.hid fun p => by rw [← Hev.out]; exact rvalid_any y cl p.W
    have ht4 : (m.f - 100 == y.c) = t4 := by rw [← Ht4.out, firstC_of hy]
    clear hq hel hy hb0 hlt0
    cases t2 with
    | false =>
      refine wp_region_later (by kernel_rfl) (by kernel_rfl) ?_
      repeat (first | go_big_quiet_step (first | (go_at_call 65; exact later_call _ (HC0.out _)) | (go_at_call 66; exact later_call _ (HC2.out _))) | (refine quiet_load (by simp [Region.wanted, yielded]) 27 (.tmp 3) (by rfl) w.heap.size (0) (by rfl) [.int .i64 1, .int .i64 m.f, .int .i64 m.v, .int .i64 m.i, .int .i64 m.q, .int .i64 m.r, .slice (some ⟨b0, o0, none⟩) lb cb, .slice Ao m.o.length co, .slice Ac m.c.length cc, .slice Ap m.p.length cp] _ HRM.out Try.underlying27 rfl sizeM ?_; intro K hK; go_simp; refine hK _ ?_; clear hK K) | quiet_step (first | (go_at_call 65; exact later_call _ (HC0.out _)) | (go_at_call 66; exact later_call _ (HC2.out _))))
      refine wpQuiet_nil ?_
      intro w3 hw'
      obtain ⟨⟨wq, hbq⟩, hw'⟩ := hw'
      have hb2 : Below W0.heap.size W0 w3 := by rw [hw']; exact hbq
      clear hw' hbq
      have HL2 := Lib.hid (HL0.out.below hb2)
      clear hb2
      go_wp2_with fail
      go_ret
      exact ⟨by rw [Hres.out]; rfl, HL2.out.be⟩
    | true =>
      cases t3 with
      | false =>
        refine wp_region_later (by kernel_rfl) (by kernel_rfl) ?_
        repeat (first | go_big_quiet_step (first | (go_at_call 65; exact later_call _ (HC0.out _)) | (go_at_call 66; exact later_call _ (HC2.out _))) | (refine quiet_load (by simp [Region.wanted, yielded]) 27 (.tmp 3) (by rfl) w.heap.size (0) (by rfl) [.int .i64 1, .int .i64 m.f, .int .i64 m.v, .int .i64 m.i, .int .i64 m.q, .int .i64 m.r, .slice (some ⟨b0, o0, none⟩) lb cb, .slice Ao m.o.length co, .slice Ac m.c.length cc, .slice Ap m.p.length cp] _ HRM.out Try.underlying27 rfl sizeM ?_; intro K hK; go_simp; refine hK _ ?_; clear hK K) | quiet_step (first | (go_at_call 65; exact later_call _ (HC0.out _)) | (go_at_call 66; exact later_call _ (HC2.out _))))
        refine wpQuiet_nil ?_
        intro w3 hw'
        obtain ⟨⟨wq, hbq⟩, hw'⟩ := hw'
        have hb2 : Below W0.heap.size W0 w3 := by rw [hw']; exact hbq
        clear hw' hbq
        have HL2 := Lib.hid (HL0.out.below hb2)
        clear hb2
        go_wp2_with fail
        go_ret
        exact ⟨by rw [Hres.out]; rfl, HL2.out.be⟩
      | true =>
        have hge : 100 ≤ m.f := of_decide_eq_true ht3
        cases t4 with
        | false =>
          refine wp_region_later (by kernel_rfl) (by kernel_rfl) ?_
          repeat (first | go_big_quiet_step (first | (go_at_call 65; exact later_call _ (HC0.out _)) | (go_at_call 66; exact later_call _ (HC2.out _))) | (refine quiet_load (by simp [Region.wanted, yielded]) 27 (.tmp 3) (by rfl) w.heap.size (0) (by rfl) [.int .i64 1, .int .i64 m.f, .int .i64 m.v, .int .i64 m.i, .int .i64 m.q, .int .i64 m.r, .slice (some ⟨b0, o0, none⟩) lb cb, .slice Ao m.o.length co, .slice Ac m.c.length cc, .slice Ap m.p.length cp] _ HRM.out Try.underlying27 rfl sizeM ?_; intro K hK; go_simp; refine hK _ ?_; clear hK K) | quiet_step (first | (go_at_call 65; exact later_call _ (HC0.out _)) | (go_at_call 66; exact later_call _ (HC2.out _))))
          refine wpQuiet_nil ?_
          intro w3 hw'
          obtain ⟨⟨wq, hbq⟩, hw'⟩ := hw'
          have hb2 : Below W0.heap.size W0 w3 := by rw [hw']; exact hbq
          clear hw' hbq
          have HL2 := Lib.hid (HL0.out.below hb2)
          clear hb2
          go_wp2_with fail
          go_ret
          exact ⟨by rw [Hres.out]; rfl, HL2.out.be⟩
        | true =>
          refine wp_region_later (by kernel_rfl) (by kernel_rfl) ?_
          repeat (first | go_big_quiet_step (first | (go_at_call 65; exact later_call _ (HC0.out _)) | (go_at_call 66; exact later_call _ (HC2.out _))) | (refine quiet_load (by simp [Region.wanted, yielded]) 27 (.tmp 3) (by rfl) w.heap.size (0) (by rfl) [.int .i64 1, .int .i64 m.f, .int .i64 m.v, .int .i64 m.i, .int .i64 m.q, .int .i64 m.r, .slice (some ⟨b0, o0, none⟩) lb cb, .slice Ao m.o.length co, .slice Ac m.c.length cc, .slice Ap m.p.length cp] _ HRM.out Try.underlying27 rfl sizeM ?_; intro K hK; go_simp; refine hK _ ?_; clear hK K) | quiet_step (first | (go_at_call 65; exact later_call _ (HC0.out _)) | (go_at_call 66; exact later_call _ (HC2.out _))))
          refine wpQuiet_nil ?_
          intro w3 hw'
          obtain ⟨⟨wq, hbq⟩, hw'⟩ := hw'
          have hb2 : Below W0.heap.size W0 w3 := by rw [hw']; exact hbq
          clear hw' hbq
          have HL2 := Lib.hid (HL0.out.below hb2)
          clear hb2
          go_wp2_with fail
          go_ret
          exact ⟨by rw [Hres.out]; rfl, HL2.out.be⟩
end Go.Proofs.Ytljfoajhobambaa
