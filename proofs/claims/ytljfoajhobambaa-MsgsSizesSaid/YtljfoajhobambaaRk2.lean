/- The reference's Form, a message of kind 2. Printed by gen_rk.py. -/
import Derived.Test.YtljfoajhobambaaRf5
import Derived.Test.YtljfoajhobambaaBal
namespace Go.Proofs.Ytljfoajhobambaa
open Go.RowKit
set_option linter.unusedVariables false
set_option linter.unusedSimpArgs false

/-- Is the first one valid? -/
def firstV (l : List Psp.Req) (cl : Int) : Bool := match l with | [] => false | r :: _ => Psp.valid r cl
theorem firstV_of {l : List Psp.Req} {cl : Int} {y : Psp.Req} (h : l[0]? = some y) : firstV l cl = Psp.valid y cl := by
  cases l with
  | nil => cases h
  | cons a l => injection h with h; subst h; rfl
theorem batch_one (l : List Psp.Req) (cl : Int) : Psp.batchB l cl 1 1 = (((l.length : Int) == 1) && firstV l cl) := by
  unfold Psp.batchB Psp.validsB
  rcases l with _ | ⟨a, _ | ⟨b, l⟩⟩
  · rfl
  · simp [firstV, Psp.win]
  · have h1 : Psp.win ((a :: b :: l).length : Int) 1 1 = false := (Psp.win_no _ _ _).2 (by simp; omega)
    have h2 : (((a :: b :: l).length : Int) == 1) = false := by rw [beq_eq_false_iff_ne]; simp; omega
    rw [h1, h2, Bool.and_false, Bool.false_and]

set_option maxRecDepth 100000 in
set_option maxHeartbeats 16000000 in
theorem rform_2 (m : Psp.Msg) (vb vo vc vp : Value) (f cl : Int) (w : World) (P : Nat → Prop) (hx : MsgOk w P ⟨m, vb, vo, vc, vp⟩) (hw : wfMsg m) (hf : Psp.may f = true) (hk : m.k = 2) :
    Calls Try.prog 23 #[.agg #[.int .i64 m.k, .int .i64 m.f, .int .i64 m.v, .int .i64 m.i, .int .i64 m.q, .int .i64 m.r, vb, vo, vc, vp], .int .i64 f, .int .i64 cl] w fun e w' => e = .returned (.bool (Psp.formM m f cl)) ∧ Below w.heap.size w w' := by
  obtain ⟨Ab, Ao, Ac, Ap, cb, co, cc, cp, rfl, rfl, rfl, rfl⟩ := msg_slices hx
  obtain ⟨lb, hlb⟩ : ∃ n, m.b.length = n := ⟨_, rfl⟩
  rw [hlb] at hx ⊢
  have Hlb := Lib.hid hlb
  have HB1 : Hid (RdP w P 6 (.slice Ab lb cb) lb (m.b.flatMap rq)) := Lib.hid (by have h := hx.1; unfold RdR at h; rw [hlb] at h; exact h)
  have HX := Lib.hid hx
  have Hw := Lib.hid hw
  obtain ⟨nn, hnn⟩ : ∃ q, Psp.nodes f = q := ⟨_, rfl⟩
  have hq0 : (nn == 0) = false := by rw [← hnn, may_zero, hf]; rfl
  have HN : Hid (∀ W : World, Calls Try.prog 64 #[.int .i64 f] W fun e w' => e = .returned (.int .i64 nn) ∧ W = w') := Lib.hid fun W => by rw [← hnn]; exact r_nodes_any f W
  obtain ⟨hn0, hn1⟩ := Psp.nodes_bd f
  rw [hnn] at hn0 hn1
  obtain ⟨g0, hg0⟩ : ∃ x, decide (m.f < 0) = x := ⟨_, rfl⟩
  obtain ⟨g1, hg1⟩ : ∃ x, decide (m.f ≥ nn) = x := ⟨_, rfl⟩
  have hnb : Psp.nodeB m.f f = (!g0 && !g1) := by unfold Psp.nodeB; rw [hnn, ← hg0, ← hg1, Bool.eq_iff_iff, Psp.win_iff]; simp; omega
  obtain ⟨t0, ht0⟩ : ∃ x, blankB false false false false true false false false m.v m.i m.q m.r lb m.o.length m.c.length m.p.length = x := ⟨_, rfl⟩
  obtain ⟨t1, ht1⟩ : ∃ x, ((lb : Int) == 1) = x := ⟨_, rfl⟩
  obtain ⟨t2, ht2⟩ : ∃ x, firstV m.b cl = x := ⟨_, rfl⟩
  have Hres : Hid (Psp.formM m f cl = ((!g0 && !g1) && (t0 && (t1 && (t2))))) := Lib.hid (by
    unfold Psp.formM
    rw [hf, Bool.true_and, ← hnb, hk]
    simp only [Int.reduceEq, if_false, if_true, true_or, or_true]
    congr 1
    rw [← ht0, ← ht1, ← ht2]
    rw [← hlb]
    simp only [Psp.noB, Psp.bareB, blankB, List.all_cons, List.all_nil, Bool.false_or, Bool.true_or, Bool.true_and, Bool.and_true]
    first
      | rfl
      | (rw [batch_one]; simp [and_assoc, Bool.and_assoc])
      | (rw [Bool.eq_iff_iff]; simp [and_assoc]; omega)
      | (rw [Bool.eq_iff_iff]; simp [and_assoc, and_left_comm, and_comm]; try omega))
  have Ht0 := Lib.hid ht0
  have Ht2 := Lib.hid ht2
  clear hlb hx hw hnn hf hnb ht0 ht2
  have Hk := Lib.hid hk
  rw [hk]
  have HL0 := Lib.hid (Mk.new w #[.int .i64 2, .int .i64 m.f, .int .i64 m.v, .int .i64 m.i, .int .i64 m.q, .int .i64 m.r, .slice Ab lb cb, .slice Ao m.o.length co, .slice Ac m.c.length cc, .slice Ap m.p.length cp])
  go_enter Try.func23, Try.ntmps23
  go_wp2_with fail
  obtain ⟨W0, hW0⟩ : ∃ W, w.alloc (.cells #[.int .i64 2, .int .i64 m.f, .int .i64 m.v, .int .i64 m.i, .int .i64 m.q, .int .i64 m.r, .slice Ab lb cb, .slice Ao m.o.length co, .slice Ac m.c.length cc, .slice Ap m.p.length cp] 27) = W := ⟨_, rfl⟩
  rw [hW0] at HL0 ⊢
  clear hW0 hk
  refine (HN.out _).mono ?_
  rintro e w' ⟨rfl, rfl⟩
  have y0 : W0.cell? ⟨w.heap.size, 0, none⟩ = some (.int .i64 2) := HL0.out.cell (j := 0) rfl
  go_wp2_with fail
  have y1 := later_cell (show W0.cell? ⟨w.heap.size, 1, none⟩ = some (.int .i64 m.f) from HL0.out.cell (j := 1) rfl)
  have HNp : Hid (∀ p : Later W0, Calls Try.prog 64 #[.int .i64 f] p.W fun e w' => e = .returned (.int .i64 nn) ∧ p.W = w') := Lib.hid fun p => HN.out _
  cases g0 with
  | true =>
    refine wp_region_later (by kernel_rfl) (by kernel_rfl) ?_
    repeat (first | go_big_quiet_step ((go_at_call 64; exact later_same _ (HNp.out _))) | quiet_step ((go_at_call 64; exact later_same _ (HNp.out _))))
    refine wpQuiet_nil ?_
    intro w2 hw'
    obtain ⟨⟨wq, hbq⟩, hw'⟩ := hw'
    have hb2 : Below W0.heap.size W0 w2 := by rw [hw']; exact hbq
    clear hw' hbq
    have HL1 := Lib.hid (HL0.out.below hb2)
    clear hb2 y0 y1
    have y0 : w2.cell? ⟨w.heap.size, 0, none⟩ = some (.int .i64 2) := HL1.out.cell (j := 0) rfl
    go_wp2_with fail
    go_ret
    exact ⟨by rw [Hres.out]; rfl, HL1.out.be⟩
  | false =>
   cases g1 with
   | true =>
    refine wp_region_later (by kernel_rfl) (by kernel_rfl) ?_
    repeat (first | go_big_quiet_step ((go_at_call 64; exact later_same _ (HNp.out _))) | quiet_step ((go_at_call 64; exact later_same _ (HNp.out _))))
    refine wpQuiet_nil ?_
    intro w2 hw'
    obtain ⟨⟨wq, hbq⟩, hw'⟩ := hw'
    have hb2 : Below W0.heap.size W0 w2 := by rw [hw']; exact hbq
    clear hw' hbq
    have HL1 := Lib.hid (HL0.out.below hb2)
    clear hb2 y0 y1
    have y0 : w2.cell? ⟨w.heap.size, 0, none⟩ = some (.int .i64 2) := HL1.out.cell (j := 0) rfl
    go_wp2_with fail
    go_ret
    exact ⟨by rw [Hres.out]; rfl, HL1.out.be⟩
   | false =>
    refine wp_region_later (by kernel_rfl) (by kernel_rfl) ?_
    repeat (first | go_big_quiet_step ((go_at_call 64; exact later_same _ (HNp.out _))) | quiet_step ((go_at_call 64; exact later_same _ (HNp.out _))))
    refine wpQuiet_nil ?_
    intro w2 hw'
    obtain ⟨⟨wq, hbq⟩, hw'⟩ := hw'
    have hb2 : Below W0.heap.size W0 w2 := by rw [hw']; exact hbq
    clear hw' hbq
    have HL1 := Lib.hid (HL0.out.below hb2)
    clear hb2 y0 y1
    have y0 : w2.cell? ⟨w.heap.size, 0, none⟩ = some (.int .i64 2) := HL1.out.cell (j := 0) rfl
    have y1 : w2.cell? ⟨w.heap.size, 1, none⟩ = some (.int .i64 m.f) := HL1.out.cell (j := 1) rfl
    have y2 : w2.cell? ⟨w.heap.size, 2, none⟩ = some (.int .i64 m.v) := HL1.out.cell (j := 2) rfl
    have y3 : w2.cell? ⟨w.heap.size, 3, none⟩ = some (.int .i64 m.i) := HL1.out.cell (j := 3) rfl
    have y4 : w2.cell? ⟨w.heap.size, 4, none⟩ = some (.int .i64 m.q) := HL1.out.cell (j := 4) rfl
    have y5 : w2.cell? ⟨w.heap.size, 5, none⟩ = some (.int .i64 m.r) := HL1.out.cell (j := 5) rfl
    have y6 : w2.cell? ⟨w.heap.size, 6, none⟩ = some (.slice Ab lb cb) := HL1.out.cell (j := 6) rfl
    have y7 : w2.cell? ⟨w.heap.size, 7, none⟩ = some (.slice Ao m.o.length co) := HL1.out.cell (j := 7) rfl
    have y8 : w2.cell? ⟨w.heap.size, 8, none⟩ = some (.slice Ac m.c.length cc) := HL1.out.cell (j := 8) rfl
    have y9 : w2.cell? ⟨w.heap.size, 9, none⟩ = some (.slice Ap m.p.length cp) := HL1.out.cell (j := 9) rfl
    go_wp2_with fail
    clear y0 y1 y2 y3 y4 y5 y6 y7 y8 y9
    refine (blank_b _ _ _ _ _ _ _ _ _ _ _ _ _ _ _ _ _ _ w2).mono ?_
    rw [Ht0.out]
    rintro e v0 ⟨rfl, hb⟩
    have HV0 := Lib.hid (HL1.out.below hb)
    clear hb
    have y0 : v0.cell? ⟨w.heap.size, 0, none⟩ = some (.int .i64 2) := HV0.out.cell (j := 0) rfl
    have y1 : v0.cell? ⟨w.heap.size, 1, none⟩ = some (.int .i64 m.f) := HV0.out.cell (j := 1) rfl
    have y2 : v0.cell? ⟨w.heap.size, 2, none⟩ = some (.int .i64 m.v) := HV0.out.cell (j := 2) rfl
    have y3 : v0.cell? ⟨w.heap.size, 3, none⟩ = some (.int .i64 m.i) := HV0.out.cell (j := 3) rfl
    have y4 : v0.cell? ⟨w.heap.size, 4, none⟩ = some (.int .i64 m.q) := HV0.out.cell (j := 4) rfl
    have y5 : v0.cell? ⟨w.heap.size, 5, none⟩ = some (.int .i64 m.r) := HV0.out.cell (j := 5) rfl
    have y6 : v0.cell? ⟨w.heap.size, 6, none⟩ = some (.slice Ab lb cb) := HV0.out.cell (j := 6) rfl
    have y7 : v0.cell? ⟨w.heap.size, 7, none⟩ = some (.slice Ao m.o.length co) := HV0.out.cell (j := 7) rfl
    have y8 : v0.cell? ⟨w.heap.size, 8, none⟩ = some (.slice Ac m.c.length cc) := HV0.out.cell (j := 8) rfl
    have y9 : v0.cell? ⟨w.heap.size, 9, none⟩ = some (.slice Ap m.p.length cp) := HV0.out.cell (j := 9) rfl
    cases t0 with
    | false =>
      go_wp2_with fail
      go_ret
      exact ⟨by rw [Hres.out]; rfl, HV0.out.be⟩
    | true =>
      cases t1 with
      | false =>
        go_wp2_with fail
        go_ret
        exact ⟨by rw [Hres.out]; rfl, HV0.out.be⟩
      | true =>
        have hlo : 1 ≤ lb := by have h := ht1; simp at h; omega
        obtain ⟨b0, o0, c0, y, he, hb0, hb1, hy, hel⟩ := rd_elem (f := rq) (k := 6) (fun _ => rfl) (by omega) HB1.out Hlb.out (show 0 < lb by omega)
        injection he with he1 _ he2
        subst he1 he2
        have hq := hel v0 (HV0.out.be.block b0 hb1)
        have e0 : v0.cell? ⟨b0, o0, none⟩ = some (.int .i64 y.c) := by have := hq 0 _ rfl; simpa [iv] using this
        have e1 : v0.cell? ⟨b0, o0 + 1, none⟩ = some (.int .i64 y.t) := by have := hq 1 _ rfl; simpa [iv] using this
        have e2 : v0.cell? ⟨b0, o0 + 2, none⟩ = some (.int .i64 y.k) := by have := hq 2 _ rfl; simpa [iv] using this
        have e3 : v0.cell? ⟨b0, o0 + 3, none⟩ = some (.int .i64 y.y) := by have := hq 3 _ rfl; simpa [iv] using this
        have e4 : v0.cell? ⟨b0, o0 + 4, none⟩ = some (.int .i64 y.v) := by have := hq 4 _ rfl; simpa [iv] using this
        have e5 : v0.cell? ⟨b0, o0 + 5, none⟩ = some (.int .i64 y.s) := by have := hq 5 _ rfl; simpa [iv] using this
        have Hev : Hid (Psp.valid y cl = t2) := Lib.hid (by rw [← Ht2.out]; exact (firstV_of hy).symm)
        clear hq hel hy hb0
        go_wp2_with fail
        clear y0 y1 y2 y3 y4 y5 y6 y7 y8 y9 ht1 e0 e1 e2 e3 e4 e5
        refine (rvalid_any y cl v0).mono ?_
        rw [Hev.out]
        rintro e v2 ⟨rfl, hb⟩
        have HV2 := Lib.hid (HV0.out.below hb)
        clear hb
        have y0 : v2.cell? ⟨w.heap.size, 0, none⟩ = some (.int .i64 2) := HV2.out.cell (j := 0) rfl
        have y1 : v2.cell? ⟨w.heap.size, 1, none⟩ = some (.int .i64 m.f) := HV2.out.cell (j := 1) rfl
        have y2 : v2.cell? ⟨w.heap.size, 2, none⟩ = some (.int .i64 m.v) := HV2.out.cell (j := 2) rfl
        have y3 : v2.cell? ⟨w.heap.size, 3, none⟩ = some (.int .i64 m.i) := HV2.out.cell (j := 3) rfl
        have y4 : v2.cell? ⟨w.heap.size, 4, none⟩ = some (.int .i64 m.q) := HV2.out.cell (j := 4) rfl
        have y5 : v2.cell? ⟨w.heap.size, 5, none⟩ = some (.int .i64 m.r) := HV2.out.cell (j := 5) rfl
        have y6 : v2.cell? ⟨w.heap.size, 6, none⟩ = some (.slice (some ⟨b0, o0, none⟩) lb cb) := HV2.out.cell (j := 6) rfl
        have y7 : v2.cell? ⟨w.heap.size, 7, none⟩ = some (.slice Ao m.o.length co) := HV2.out.cell (j := 7) rfl
        have y8 : v2.cell? ⟨w.heap.size, 8, none⟩ = some (.slice Ac m.c.length cc) := HV2.out.cell (j := 8) rfl
        have y9 : v2.cell? ⟨w.heap.size, 9, none⟩ = some (.slice Ap m.p.length cp) := HV2.out.cell (j := 9) rfl
        cases t2 with
        | false =>
          go_wp2_with fail
          go_ret
          exact ⟨by rw [Hres.out]; rfl, HV2.out.be⟩
        | true =>
          go_wp2_with fail
          go_ret
          exact ⟨by rw [Hres.out]; rfl, HV2.out.be⟩
end Go.Proofs.Ytljfoajhobambaa
