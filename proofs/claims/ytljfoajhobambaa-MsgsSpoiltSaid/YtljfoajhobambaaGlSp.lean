/- Joined texts: Rk2 Rk1 Rk3 Rk4 Rk5 Rk6 Rk7 Rk8 Rk9 Rk10 Rk11 Rk. -/
import Derived.Test.YtljfoajhobambaaGkSp
import Derived.Test.YtljfoajhobambaaBalSp
section
/- The reference's Form, a message of kind 2. Printed by gen_rk.py. -/
namespace Go.Proofs.Ytljfoajhobambaa
open Go.RowKit
set_option linter.unusedVariables false
set_option linter.unusedSimpArgs false

/-- Is the first one valid? -/
def firstV (l : List Psp.Req) (cl : Int) : Bool := match l with | [] => false | r :: _ => Psp.valid r cl
theorem firstV_of {l : List Psp.Req} {cl : Int} {y : Psp.Req} (h : l[0]? = some y) : firstV l cl = Psp.valid y cl := by
  cases l with
  | nil => cases h
  | cons a l => injection h with h; subst h; rfl
theorem batch_one (l : List Psp.Req) (cl : Int) : Psp.batchB l cl 1 1 = (((l.length : Int) == 1) && firstV l cl) := by
  unfold Psp.batchB Psp.validsB
  rcases l with _ | ⟨a, _ | ⟨b, l⟩⟩
  · rfl
  · simp [firstV, Psp.win]
  · have h1 : Psp.win ((a :: b :: l).length : Int) 1 1 = false := (Psp.win_no _ _ _).2 (by simp; omega)
    have h2 : (((a :: b :: l).length : Int) == 1) = false := by rw [beq_eq_false_iff_ne]; simp; omega
    rw [h1, h2, Bool.and_false, Bool.false_and]

set_option maxRecDepth 100000 in
set_option maxHeartbeats 16000000 in
theorem rform_2 (m : Psp.Msg) (vb vo vc vp : Value) (f cl : Int) (w : World) (P : Nat → Prop) (hx : MsgOk w P ⟨m, vb, vo, vc, vp⟩) (hw : wfMsg m) (hf : Psp.may f = true) (hk : m.k = 2) :
    Calls Try.prog 23 #[.agg #[.int .i64 m.k, .int .i64 m.f, .int .i64 m.v, .int .i64 m.i, .int .i64 m.q, .int .i64 m.r, vb, vo, vc, vp], .int .i64 f, .int .i64 cl] w fun e w' => e = .returned (.bool (Psp.formM m f cl)) ∧ Below w.heap.size w w' := by
  obtain ⟨Ab, Ao, Ac, Ap, cb, co, cc, cp, rfl, rfl, rfl, rfl⟩ := msg_slices hx
  obtain ⟨lb, hlb⟩ : ∃ n, m.b.length = n := ⟨_, rfl⟩
  rw [hlb] at hx ⊢
  have Hlb := Lib.hid hlb
  have HB1 : Hid (RdP w P 6 (.slice Ab lb cb) lb (m.b.flatMap rq)) := Lib.hid (by have h := hx.1; unfold RdR at h; rw [hlb] at h; exact h)
  have HX := Lib.hid hx
  have Hw := Lib.hid hw
  obtain ⟨nn, hnn⟩ : ∃ q, Psp.nodes f = q := ⟨_, rfl⟩
  have hq0 : (nn == 0) = false := by rw [← hnn, may_zero, hf]; rfl
  have HN : Hid (∀ W : World, Calls Try.prog 64 #[.int .i64 f] W fun e w' => e = .returned (.int .i64 nn) ∧ W = w') := Lib.hid fun W => by rw [← hnn]; exact r_nodes_any f W
  obtain ⟨hn0, hn1⟩ := Psp.nodes_bd f
  rw [hnn] at hn0 hn1
  obtain ⟨g0, hg0⟩ : ∃ x, decide (m.f < 0) = x := ⟨_, rfl⟩
  obtain ⟨g1, hg1⟩ : ∃ x, decide (m.f ≥ nn) = x := ⟨_, rfl⟩
  have hnb : Psp.nodeB m.f f = (!g0 && !g1) := by unfold Psp.nodeB; rw [hnn, ← hg0, ← hg1, Bool.eq_iff_iff, Psp.win_iff]; simp; omega
  obtain ⟨t0, ht0⟩ : ∃ x, blankB false false false false true false false false m.v m.i m.q m.r lb m.o.length m.c.length m.p.length = x := ⟨_, rfl⟩
  obtain ⟨t1, ht1⟩ : ∃ x, ((lb : Int) == 1) = x := ⟨_, rfl⟩
  obtain ⟨t2, ht2⟩ : ∃ x, firstV m.b cl = x := ⟨_, rfl⟩
  have Hres : Hid (Psp.formM m f cl = ((!g0 && !g1) && (t0 && (t1 && (t2))))) := Lib.hid (by
    unfold Psp.formM
    rw [hf, Bool.true_and, ← hnb, hk]
    simp only [Int.reduceEq, if_false, if_true, true_or, or_true]
    congr 1
    rw [← ht0, ← ht1, ← ht2]
    rw [← hlb]
    simp only [Psp.noB, Psp.bareB, blankB, List.all_cons, List.all_nil, Bool.false_or, Bool.true_or, Bool.true_and, Bool.and_true]
    first
      | rfl
      | (rw [batch_one]; simp [and_assoc, Bool.and_assoc])
      | (rw [Bool.eq_iff_iff]; simp [and_assoc]; omega)
      | (rw [Bool.eq_iff_iff]; simp [and_assoc, and_left_comm, and_comm]; try omega))
  have Ht0 := Lib.hid ht0
  have Ht2 := Lib.hid ht2
  clear hlb hx hw hnn hf hnb ht0 ht2
  have Hk := Lib.hid hk
  rw [hk]
  have HL0 := Lib.hid (Mk.new w #[.int .i64 2, .int .i64 m.f, .int .i64 m.v, .int .i64 m.i, .int .i64 m.q, .int .i64 m.r, .slice Ab lb cb, .slice Ao m.o.length co, .slice Ac m.c.length cc, .slice Ap m.p.length cp])
  go_enter Try.func23, Try.ntmps23
  go_wp2_with fail
  obtain ⟨W0, hW0⟩ : ∃ W, w.alloc (.cells #[.int .i64 2, .int .i64 m.f, .int .i64 m.v, .int .i64 m.i, .int .i64 m.q, .int .i64 m.r, .slice Ab lb cb, .slice Ao m.o.length co, .slice Ac m.c.length cc, .slice Ap m.p.length cp] 27) = W := ⟨_, rfl⟩
  rw [hW0] at HL0 ⊢
  clear hW0 hk
  refine (HN.out _).mono ?_
  rintro e w' ⟨rfl, rfl⟩
  have y0 : W0.cell? ⟨w.heap.size, 0, none⟩ = some (.int .i64 2) := HL0.out.cell (j := 0) rfl
  go_wp2_with fail
  have y1 := later_cell (show W0.cell? ⟨w.heap.size, 1, none⟩ = some (.int .i64 m.f) from HL0.out.cell (j := 1) rfl)
  have HNp : Hid (∀ p : Later W0, Calls Try.prog 64 #[.int .i64 f] p.W fun e w' => e = .returned (.int .i64 nn) ∧ p.W = w') := Lib.hid fun p => HN.out _
  cases g0 with
  | true =>
    refine wp_region_later (by kernel_rfl) (by kernel_rfl) ?_
    repeat (first | go_big_quiet_step ((go_at_call 64; exact later_same _ (HNp.out _))) | quiet_step ((go_at_call 64; exact later_same _ (HNp.out _))))
    refine wpQuiet_nil ?_
    intro w2 hw'
    obtain ⟨⟨wq, hbq⟩, hw'⟩ := hw'
    have hb2 : Below W0.heap.size W0 w2 := by rw [hw']; exact hbq
    clear hw' hbq
    have HL1 := Lib.hid (HL0.out.below hb2)
    clear hb2 y0 y1
    have y0 : w2.cell? ⟨w.heap.size, 0, none⟩ = some (.int .i64 2) := HL1.out.cell (j := 0) rfl
    go_wp2_with fail
    go_ret
    exact ⟨by rw [Hres.out]; rfl, HL1.out.be⟩
  | false =>
   cases g1 with
   | true =>
    refine wp_region_later (by kernel_rfl) (by kernel_rfl) ?_
    repeat (first | go_big_quiet_step ((go_at_call 64; exact later_same _ (HNp.out _))) | quiet_step ((go_at_call 64; exact later_same _ (HNp.out _))))
    refine wpQuiet_nil ?_
    intro w2 hw'
    obtain ⟨⟨wq, hbq⟩, hw'⟩ := hw'
    have hb2 : Below W0.heap.size W0 w2 := by rw [hw']; exact hbq
    clear hw' hbq
    have HL1 := Lib.hid (HL0.out.below hb2)
    clear hb2 y0 y1
    have y0 : w2.cell? ⟨w.heap.size, 0, none⟩ = some (.int .i64 2) := HL1.out.cell (j := 0) rfl
    go_wp2_with fail
    go_ret
    exact ⟨by rw [Hres.out]; rfl, HL1.out.be⟩
   | false =>
    refine wp_region_later (by kernel_rfl) (by kernel_rfl) ?_
    repeat (first | go_big_quiet_step ((go_at_call 64; exact later_same _ (HNp.out _))) | quiet_step ((go_at_call 64; exact later_same _ (HNp.out _))))
    refine wpQuiet_nil ?_
    intro w2 hw'
    obtain ⟨⟨wq, hbq⟩, hw'⟩ := hw'
    have hb2 : Below W0.heap.size W0 w2 := by rw [hw']; exact hbq
    clear hw' hbq
    have HL1 := Lib.hid (HL0.out.below hb2)
    clear hb2 y0 y1
    have y0 : w2.cell? ⟨w.heap.size, 0, none⟩ = some (.int .i64 2) := HL1.out.cell (j := 0) rfl
    have y1 : w2.cell? ⟨w.heap.size, 1, none⟩ = some (.int .i64 m.f) := HL1.out.cell (j := 1) rfl
    have y2 : w2.cell? ⟨w.heap.size, 2, none⟩ = some (.int .i64 m.v) := HL1.out.cell (j := 2) rfl
    have y3 : w2.cell? ⟨w.heap.size, 3, none⟩ = some (.int .i64 m.i) := HL1.out.cell (j := 3) rfl
    have y4 : w2.cell? ⟨w.heap.size, 4, none⟩ = some (.int .i64 m.q) := HL1.out.cell (j := 4) rfl
    have y5 : w2.cell? ⟨w.heap.size, 5, none⟩ = some (.int .i64 m.r) := HL1.out.cell (j := 5) rfl
    have y6 : w2.cell? ⟨w.heap.size, 6, none⟩ = some (.slice Ab lb cb) := HL1.out.cell (j := 6) rfl
    have y7 : w2.cell? ⟨w.heap.size, 7, none⟩ = some (.slice Ao m.o.length co) := HL1.out.cell (j := 7) rfl
    have y8 : w2.cell? ⟨w.heap.size, 8, none⟩ = some (.slice Ac m.c.length cc) := HL1.out.cell (j := 8) rfl
    have y9 : w2.cell? ⟨w.heap.size, 9, none⟩ = some (.slice Ap m.p.length cp) := HL1.out.cell (j := 9) rfl
    go_wp2_with fail
    clear y0 y1 y2 y3 y4 y5 y6 y7 y8 y9
    refine (blank_b _ _ _ _ _ _ _ _ _ _ _ _ _ _ _ _ _ _ w2).mono ?_
    rw [Ht0.out]
    rintro e v0 ⟨rfl, hb⟩
    have HV0 := Lib.hid (HL1.out.below hb)
    clear hb
    have y0 : v0.cell? ⟨w.heap.size, 0, none⟩ = some (.int .i64 2) := HV0.out.cell (j := 0) rfl
    have y1 : v0.cell? ⟨w.heap.size, 1, none⟩ = some (.int .i64 m.f) := HV0.out.cell (j := 1) rfl
    have y2 : v0.cell? ⟨w.heap.size, 2, none⟩ = some (.int .i64 m.v) := HV0.out.cell (j := 2) rfl
    have y3 : v0.cell? ⟨w.heap.size, 3, none⟩ = some (.int .i64 m.i) := HV0.out.cell (j := 3) rfl
    have y4 : v0.cell? ⟨w.heap.size, 4, none⟩ = some (.int .i64 m.q) := HV0.out.cell (j := 4) rfl
    have y5 : v0.cell? ⟨w.heap.size, 5, none⟩ = some (.int .i64 m.r) := HV0.out.cell (j := 5) rfl
    have y6 : v0.cell? ⟨w.heap.size, 6, none⟩ = some (.slice Ab lb cb) := HV0.out.cell (j := 6) rfl
    have y7 : v0.cell? ⟨w.heap.size, 7, none⟩ = some (.slice Ao m.o.length co) := HV0.out.cell (j := 7) rfl
    have y8 : v0.cell? ⟨w.heap.size, 8, none⟩ = some (.slice Ac m.c.length cc) := HV0.out.cell (j := 8) rfl
    have y9 : v0.cell? ⟨w.heap.size, 9, none⟩ = some (.slice Ap m.p.length cp) := HV0.out.cell (j := 9) rfl
    cases t0 with
    | false =>
      go_wp2_with fail
      go_ret
      exact ⟨by rw [Hres.out]; rfl, HV0.out.be⟩
    | true =>
      cases t1 with
      | false =>
        go_wp2_with fail
        go_ret
        exact ⟨by rw [Hres.out]; rfl, HV0.out.be⟩
      | true =>
        have hlo : 1 ≤ lb := by have h := ht1; simp at h; omega
        obtain ⟨b0, o0, c0, y, he, hb0, hb1, hy, hel⟩ := rd_elem (f := rq) (k := 6) (fun _ => rfl) (by omega) HB1.out Hlb.out (show 0 < lb by omega)
        injection he with he1 _ he2
        subst he1 he2
        have hq := hel v0 (HV0.out.be.block b0 hb1)
        have e0 : v0.cell? ⟨b0, o0, none⟩ = some (.int .i64 y.c) := by have := hq 0 _ rfl; simpa [iv] using this
        have e1 : v0.cell? ⟨b0, o0 + 1, none⟩ = some (.int .i64 y.t) := by have := hq 1 _ rfl; simpa [iv] using this
        have e2 : v0.cell? ⟨b0, o0 + 2, none⟩ = some (.int .i64 y.k) := by have := hq 2 _ rfl; simpa [iv] using this
        have e3 : v0.cell? ⟨b0, o0 + 3, none⟩ = some (.int .i64 y.y) := by have := hq 3 _ rfl; simpa [iv] using this
        have e4 : v0.cell? ⟨b0, o0 + 4, none⟩ = some (.int .i64 y.v) := by have := hq 4 _ rfl; simpa [iv] using this
        have e5 : v0.cell? ⟨b0, o0 + 5, none⟩ = some (.int .i64 y.s) := by have := hq 5 _ rfl; simpa [iv] using this
        have Hev : Hid (Psp.valid y cl = t2) := Lib.hid (by rw [← Ht2.out]; exact (firstV_of hy).symm)
        clear hq hel hy hb0
        go_wp2_with fail
        clear y0 y1 y2 y3 y4 y5 y6 y7 y8 y9 ht1 e0 e1 e2 e3 e4 e5
        refine (rvalid_any y cl v0).mono ?_
        rw [Hev.out]
        rintro e v2 ⟨rfl, hb⟩
        have HV2 := Lib.hid (HV0.out.below hb)
        clear hb
        have y0 : v2.cell? ⟨w.heap.size, 0, none⟩ = some (.int .i64 2) := HV2.out.cell (j := 0) rfl
        have y1 : v2.cell? ⟨w.heap.size, 1, none⟩ = some (.int .i64 m.f) := HV2.out.cell (j := 1) rfl
        have y2 : v2.cell? ⟨w.heap.size, 2, none⟩ = some (.int .i64 m.v) := HV2.out.cell (j := 2) rfl
        have y3 : v2.cell? ⟨w.heap.size, 3, none⟩ = some (.int .i64 m.i) := HV2.out.cell (j := 3) rfl
        have y4 : v2.cell? ⟨w.heap.size, 4, none⟩ = some (.int .i64 m.q) := HV2.out.cell (j := 4) rfl
        have y5 : v2.cell? ⟨w.heap.size, 5, none⟩ = some (.int .i64 m.r) := HV2.out.cell (j := 5) rfl
        have y6 : v2.cell? ⟨w.heap.size, 6, none⟩ = some (.slice (some ⟨b0, o0, none⟩) lb cb) := HV2.out.cell (j := 6) rfl
        have y7 : v2.cell? ⟨w.heap.size, 7, none⟩ = some (.slice Ao m.o.length co) := HV2.out.cell (j := 7) rfl
        have y8 : v2.cell? ⟨w.heap.size, 8, none⟩ = some (.slice Ac m.c.length cc) := HV2.out.cell (j := 8) rfl
        have y9 : v2.cell? ⟨w.heap.size, 9, none⟩ = some (.slice Ap m.p.length cp) := HV2.out.cell (j := 9) rfl
        cases t2 with
        | false =>
          go_wp2_with fail
          go_ret
          exact ⟨by rw [Hres.out]; rfl, HV2.out.be⟩
        | true =>
          go_wp2_with fail
          go_ret
          exact ⟨by rw [Hres.out]; rfl, HV2.out.be⟩
end Go.Proofs.Ytljfoajhobambaa

end

section
/- The reference's Form, a message of kind 1. Printed by gen_rk1.py. -/
namespace Go.Proofs.Ytljfoajhobambaa
open Go.RowKit
set_option linter.unusedVariables false
set_option linter.unusedSimpArgs false

theorem firstC_of {l : List Psp.Req} {y : Psp.Req} (h : l[0]? = some y) : Psp.firstC l = y.c := by
  cases l with
  | nil => cases h
  | cons a l => injection h with h; subst h; rfl
set_option maxRecDepth 100000 in
set_option maxHeartbeats 16000000 in
theorem rform_1 (m : Psp.Msg) (vb vo vc vp : Value) (f cl : Int) (w : World) (P : Nat → Prop) (hx : MsgOk w P ⟨m, vb, vo, vc, vp⟩) (hw : wfMsg m) (hf : Psp.may f = true) (hk : m.k = 1) :
    Calls Try.prog 23 #[.agg #[.int .i64 m.k, .int .i64 m.f, .int .i64 m.v, .int .i64 m.i, .int .i64 m.q, .int .i64 m.r, vb, vo, vc, vp], .int .i64 f, .int .i64 cl] w fun e w' => e = .returned (.bool (Psp.formM m f cl)) ∧ Below w.heap.size w w' := by
  obtain ⟨Ab, Ao, Ac, Ap, cb, co, cc, cp, rfl, rfl, rfl, rfl⟩ := msg_slices hx
  obtain ⟨lb, hlb⟩ : ∃ n, m.b.length = n := ⟨_, rfl⟩
  rw [hlb] at hx ⊢
  have Hlb := Lib.hid hlb
  have HB1 : Hid (RdP w P 6 (.slice Ab lb cb) lb (m.b.flatMap rq)) := Lib.hid (by have h := hx.1; unfold RdR at h; rw [hlb] at h; exact h)
  have Hw := Lib.hid hw
  have mf1 : m.f ≤ 9223372036854775807 := hw.2.1.2
  obtain ⟨nn, hnn⟩ : ∃ q, Psp.nodes f = q := ⟨_, rfl⟩
  have hq0 : (nn == 0) = false := by rw [← hnn, may_zero, hf]; rfl
  have HN : Hid (∀ W : World, Calls Try.prog 64 #[.int .i64 f] W fun e w' => e = .returned (.int .i64 nn) ∧ W = w') := Lib.hid fun W => by rw [← hnn]; exact r_nodes_any f W
  obtain ⟨t0, ht0⟩ : ∃ x, blankB false false false false true false false false m.v m.i m.q m.r lb m.o.length m.c.length m.p.length = x := ⟨_, rfl⟩
  obtain ⟨t1, ht1⟩ : ∃ x, ((lb : Int) == 1) = x := ⟨_, rfl⟩
  obtain ⟨t2, ht2⟩ : ∃ x, firstV m.b cl = x := ⟨_, rfl⟩
  obtain ⟨t3, ht3⟩ : ∃ x, decide (m.f ≥ 100) = x := ⟨_, rfl⟩
  obtain ⟨t4, ht4⟩ : ∃ x, (m.f - 100 == Psp.firstC m.b) = x := ⟨_, rfl⟩
  have Hres : Hid (Psp.formM m f cl = (t0 && (t1 && (t2 && (t3 && t4))))) := Lib.hid (by
    unfold Psp.formM
    rw [hf, Bool.true_and, hk]
    simp only [if_true]
    rw [← ht0, ← ht1, ← ht2, ← ht3, ← ht4, ← hlb, batch_one]
    simp only [Psp.noB, Psp.bareB, blankB, List.all_cons, List.all_nil, Bool.false_or, Bool.true_or, Bool.true_and, Bool.and_true]
    rw [Bool.eq_iff_iff]; simp [and_assoc])
  have Ht0 := Lib.hid ht0
  have Ht2 := Lib.hid ht2
  have Ht4 := Lib.hid ht4
  clear hlb hx hw hnn hf ht0 ht2 ht4
  rw [hk]
  have HL0 := Lib.hid (Mk.new w #[.int .i64 1, .int .i64 m.f, .int .i64 m.v, .int .i64 m.i, .int .i64 m.q, .int .i64 m.r, .slice Ab lb cb, .slice Ao m.o.length co, .slice Ac m.c.length cc, .slice Ap m.p.length cp])
  go_enter Try.func23, Try.ntmps23
  go_wp2_with fail
  obtain ⟨W0, hW0⟩ : ∃ W, w.alloc (.cells #[.int .i64 1, .int .i64 m.f, .int .i64 m.v, .int .i64 m.i, .int .i64 m.q, .int .i64 m.r, .slice Ab lb cb, .slice Ao m.o.length co, .slice Ac m.c.length cc, .slice Ap m.p.length cp] 27) = W := ⟨_, rfl⟩
  rw [hW0] at HL0 ⊢
  clear hW0 hk
  refine (HN.out _).mono ?_
  rintro e w' ⟨rfl, rfl⟩
  have y0 : W0.cell? ⟨w.heap.size, 0, none⟩ = some (.int .i64 1) := HL0.out.cell (j := 0) rfl
  go_wp2_with fail
  clear y0
  have HC0 : Hid (∀ p : Later W0, Calls Try.prog 65 #[.agg #[.int .i64 1, .int .i64 m.f, .int .i64 m.v, .int .i64 m.i, .int .i64 m.q, .int .i64 m.r, .slice Ab lb cb, .slice Ao m.o.length co, .slice Ac m.c.length cc, .slice Ap m.p.length cp], .string { data := #[98] }] p.W fun e w' => e = .returned (.bool t0) ∧ Below p.W.heap.size p.W w') := Lib.hid fun p => by rw [← Ht0.out]; exact blank_b _ _ _ _ _ _ _ _ _ _ _ _ _ _ _ _ _ _ p.W
  have HRM : Hid (∀ w' : World, (∃ p : Later W0, w' = p.W) → w'.rangeAt w.heap.size 0 [.int .i64 1, .int .i64 m.f, .int .i64 m.v, .int .i64 m.i, .int .i64 m.q, .int .i64 m.r, .slice Ab lb cb, .slice Ao m.o.length co, .slice Ac m.c.length cc, .slice Ap m.p.length cp]) := Lib.hid (by rintro w' ⟨p, rfl⟩; exact range_of_row (HL0.out.below p.h).box)
  have y1 := later_cell (show W0.cell? ⟨w.heap.size, 1, none⟩ = some (.int .i64 m.f) from HL0.out.cell (j := 1) rfl)
  have y2 := later_cell (show W0.cell? ⟨w.heap.size, 2, none⟩ = some (.int .i64 m.v) from HL0.out.cell (j := 2) rfl)
  have y3 := later_cell (show W0.cell? ⟨w.heap.size, 3, none⟩ = some (.int .i64 m.i) from HL0.out.cell (j := 3) rfl)
  have y4 := later_cell (show W0.cell? ⟨w.heap.size, 4, none⟩ = some (.int .i64 m.q) from HL0.out.cell (j := 4) rfl)
  have y5 := later_cell (show W0.cell? ⟨w.heap.size, 5, none⟩ = some (.int .i64 m.r) from HL0.out.cell (j := 5) rfl)
  have y6 := later_cell (show W0.cell? ⟨w.heap.size, 6, none⟩ = some (.slice Ab lb cb) from HL0.out.cell (j := 6) rfl)
  have y7 := later_cell (show W0.cell? ⟨w.heap.size, 7, none⟩ = some (.slice Ao m.o.length co) from HL0.out.cell (j := 7) rfl)
  have y8 := later_cell (show W0.cell? ⟨w.heap.size, 8, none⟩ = some (.slice Ac m.c.length cc) from HL0.out.cell (j := 8) rfl)
  have y9 := later_cell (show W0.cell? ⟨w.heap.size, 9, none⟩ = some (.slice Ap m.p.length cp) from HL0.out.cell (j := 9) rfl)
  cases t0 with
  | false =>
    refine wp_region_later (by kernel_rfl) (by kernel_rfl) ?_
    repeat (first | go_big_quiet_step (first | (go_at_call 65; exact later_call _ (HC0.out _))) | (refine quiet_load (by simp [Region.wanted, yielded]) 27 (.tmp 3) (by rfl) w.heap.size (0) (by rfl) [.int .i64 1, .int .i64 m.f, .int .i64 m.v, .int .i64 m.i, .int .i64 m.q, .int .i64 m.r, .slice Ab lb cb, .slice Ao m.o.length co, .slice Ac m.c.length cc, .slice Ap m.p.length cp] _ HRM.out Try.underlying27 rfl sizeM ?_; intro K hK; go_simp; refine hK _ ?_; clear hK K) | quiet_step (first | (go_at_call 65; exact later_call _ (HC0.out _))))
    refine wpQuiet_nil ?_
    intro w3 hw'
    obtain ⟨⟨wq, hbq⟩, hw'⟩ := hw'
    have hb2 : Below W0.heap.size W0 w3 := by rw [hw']; exact hbq
    clear hw' hbq
    have HL2 := Lib.hid (HL0.out.below hb2)
    clear hb2
    go_wp2_with fail
    go_ret
    exact ⟨by rw [Hres.out]; rfl, HL2.out.be⟩
  | true =>
   cases t1 with
   | false =>
    refine wp_region_later (by kernel_rfl) (by kernel_rfl) ?_
    repeat (first | go_big_quiet_step (first | (go_at_call 65; exact later_call _ (HC0.out _))) | (refine quiet_load (by simp [Region.wanted, yielded]) 27 (.tmp 3) (by rfl) w.heap.size (0) (by rfl) [.int .i64 1, .int .i64 m.f, .int .i64 m.v, .int .i64 m.i, .int .i64 m.q, .int .i64 m.r, .slice Ab lb cb, .slice Ao m.o.length co, .slice Ac m.c.length cc, .slice Ap m.p.length cp] _ HRM.out Try.underlying27 rfl sizeM ?_; intro K hK; go_simp; refine hK _ ?_; clear hK K) | quiet_step (first | (go_at_call 65; exact later_call _ (HC0.out _))))
    refine wpQuiet_nil ?_
    intro w3 hw'
    obtain ⟨⟨wq, hbq⟩, hw'⟩ := hw'
    have hb2 : Below W0.heap.size W0 w3 := by rw [hw']; exact hbq
    clear hw' hbq
    have HL2 := Lib.hid (HL0.out.below hb2)
    clear hb2
    go_wp2_with fail
    go_ret
    exact ⟨by rw [Hres.out]; rfl, HL2.out.be⟩
   | true =>
    have hlo : 1 ≤ lb := by have h := ht1; simp at h; omega
    obtain ⟨b0, o0, c0, y, he, hb0, hb1, hy, hel⟩ := rd_elem (f := rq) (k := 6) (fun _ => rfl) (by omega) HB1.out Hlb.out (show 0 < lb by omega)
    injection he with he1 _ he2
    subst he1 he2
    have hq := hel W0 (HL0.out.be.block b0 hb1)
    have hlt0 : b0 < W0.heap.size := Nat.lt_of_lt_of_le hb1 HL0.out.be.size
    have e0 := later_cell (show W0.cell? ⟨b0, o0, none⟩ = some (.int .i64 y.c) by have := hq 0 _ rfl; simpa [iv] using this)
    have e1 := later_cell (show W0.cell? ⟨b0, o0 + 1, none⟩ = some (.int .i64 y.t) by have := hq 1 _ rfl; simpa [iv] using this)
    have e2 := later_cell (show W0.cell? ⟨b0, o0 + 2, none⟩ = some (.int .i64 y.k) by have := hq 2 _ rfl; simpa [iv] using this)
    have e3 := later_cell (show W0.cell? ⟨b0, o0 + 3, none⟩ = some (.int .i64 y.y) by have := hq 3 _ rfl; simpa [iv] using this)
    have e4 := later_cell (show W0.cell? ⟨b0, o0 + 4, none⟩ = some (.int .i64 y.v) by have := hq 4 _ rfl; simpa [iv] using this)
    have e5 := later_cell (show W0.cell? ⟨b0, o0 + 5, none⟩ = some (.int .i64 y.s) by have := hq 5 _ rfl; simpa [iv] using this)
    have Hev : Hid (Psp.valid y cl = t2) := Lib.hid (by rw [← Ht2.out]; exact (firstV_of hy).symm)
    have HC2 : Hid (∀ p : Later W0, Calls Try.prog 66 #[.agg #[.int .i64 y.c, .int .i64 y.t, .int .i64 y.k, .int .i64 y.y, .int .i64 y.v, .int .i64 y.s], .int .i64 cl] p.W fun e w' => e = .returned (.bool t2) ∧ Below p.W.heap.size p.W w') := Lib.hid fun p => by rw [← Hev.out]; exact rvalid_any y cl p.W
    have ht4 : (m.f - 100 == y.c) = t4 := by rw [← Ht4.out, firstC_of hy]
    clear hq hel hy hb0 hlt0
    cases t2 with
    | false =>
      refine wp_region_later (by kernel_rfl) (by kernel_rfl) ?_
      repeat (first | go_big_quiet_step (first | (go_at_call 65; exact later_call _ (HC0.out _)) | (go_at_call 66; exact later_call _ (HC2.out _))) | (refine quiet_load (by simp [Region.wanted, yielded]) 27 (.tmp 3) (by rfl) w.heap.size (0) (by rfl) [.int .i64 1, .int .i64 m.f, .int .i64 m.v, .int .i64 m.i, .int .i64 m.q, .int .i64 m.r, .slice (some ⟨b0, o0, none⟩) lb cb, .slice Ao m.o.length co, .slice Ac m.c.length cc, .slice Ap m.p.length cp] _ HRM.out Try.underlying27 rfl sizeM ?_; intro K hK; go_simp; refine hK _ ?_; clear hK K) | quiet_step (first | (go_at_call 65; exact later_call _ (HC0.out _)) | (go_at_call 66; exact later_call _ (HC2.out _))))
      refine wpQuiet_nil ?_
      intro w3 hw'
      obtain ⟨⟨wq, hbq⟩, hw'⟩ := hw'
      have hb2 : Below W0.heap.size W0 w3 := by rw [hw']; exact hbq
      clear hw' hbq
      have HL2 := Lib.hid (HL0.out.below hb2)
      clear hb2
      go_wp2_with fail
      go_ret
      exact ⟨by rw [Hres.out]; rfl, HL2.out.be⟩
    | true =>
      cases t3 with
      | false =>
        refine wp_region_later (by kernel_rfl) (by kernel_rfl) ?_
        repeat (first | go_big_quiet_step (first | (go_at_call 65; exact later_call _ (HC0.out _)) | (go_at_call 66; exact later_call _ (HC2.out _))) | (refine quiet_load (by simp [Region.wanted, yielded]) 27 (.tmp 3) (by rfl) w.heap.size (0) (by rfl) [.int .i64 1, .int .i64 m.f, .int .i64 m.v, .int .i64 m.i, .int .i64 m.q, .int .i64 m.r, .slice (some ⟨b0, o0, none⟩) lb cb, .slice Ao m.o.length co, .slice Ac m.c.length cc, .slice Ap m.p.length cp] _ HRM.out Try.underlying27 rfl sizeM ?_; intro K hK; go_simp; refine hK _ ?_; clear hK K) | quiet_step (first | (go_at_call 65; exact later_call _ (HC0.out _)) | (go_at_call 66; exact later_call _ (HC2.out _))))
        refine wpQuiet_nil ?_
        intro w3 hw'
        obtain ⟨⟨wq, hbq⟩, hw'⟩ := hw'
        have hb2 : Below W0.heap.size W0 w3 := by rw [hw']; exact hbq
        clear hw' hbq
        have HL2 := Lib.hid (HL0.out.below hb2)
        clear hb2
        go_wp2_with fail
        go_ret
        exact ⟨by rw [Hres.out]; rfl, HL2.out.be⟩
      | true =>
        have hge : 100 ≤ m.f := of_decide_eq_true ht3
        cases t4 with
        | false =>
          refine wp_region_later (by kernel_rfl) (by kernel_rfl) ?_
          repeat (first | go_big_quiet_step (first | (go_at_call 65; exact later_call _ (HC0.out _)) | (go_at_call 66; exact later_call _ (HC2.out _))) | (refine quiet_load (by simp [Region.wanted, yielded]) 27 (.tmp 3) (by rfl) w.heap.size (0) (by rfl) [.int .i64 1, .int .i64 m.f, .int .i64 m.v, .int .i64 m.i, .int .i64 m.q, .int .i64 m.r, .slice (some ⟨b0, o0, none⟩) lb cb, .slice Ao m.o.length co, .slice Ac m.c.length cc, .slice Ap m.p.length cp] _ HRM.out Try.underlying27 rfl sizeM ?_; intro K hK; go_simp; refine hK _ ?_; clear hK K) | quiet_step (first | (go_at_call 65; exact later_call _ (HC0.out _)) | (go_at_call 66; exact later_call _ (HC2.out _))))
          refine wpQuiet_nil ?_
          intro w3 hw'
          obtain ⟨⟨wq, hbq⟩, hw'⟩ := hw'
          have hb2 : Below W0.heap.size W0 w3 := by rw [hw']; exact hbq
          clear hw' hbq
          have HL2 := Lib.hid (HL0.out.below hb2)
          clear hb2
          go_wp2_with fail
          go_ret
          exact ⟨by rw [Hres.out]; rfl, HL2.out.be⟩
        | true =>
          refine wp_region_later (by kernel_rfl) (by kernel_rfl) ?_
          repeat (first | go_big_quiet_step (first | (go_at_call 65; exact later_call _ (HC0.out _)) | (go_at_call 66; exact later_call _ (HC2.out _))) | (refine quiet_load (by simp [Region.wanted, yielded]) 27 (.tmp 3) (by rfl) w.heap.size (0) (by rfl) [.int .i64 1, .int .i64 m.f, .int .i64 m.v, .int .i64 m.i, .int .i64 m.q, .int .i64 m.r, .slice (some ⟨b0, o0, none⟩) lb cb, .slice Ao m.o.length co, .slice Ac m.c.length cc, .slice Ap m.p.length cp] _ HRM.out Try.underlying27 rfl sizeM ?_; intro K hK; go_simp; refine hK _ ?_; clear hK K) | quiet_step (first | (go_at_call 65; exact later_call _ (HC0.out _)) | (go_at_call 66; exact later_call _ (HC2.out _))))
          refine wpQuiet_nil ?_
          intro w3 hw'
          obtain ⟨⟨wq, hbq⟩, hw'⟩ := hw'
          have hb2 : Below W0.heap.size W0 w3 := by rw [hw']; exact hbq
          clear hw' hbq
          have HL2 := Lib.hid (HL0.out.below hb2)
          clear hb2
          go_wp2_with fail
          go_ret
          exact ⟨by rw [Hres.out]; rfl, HL2.out.be⟩
end Go.Proofs.Ytljfoajhobambaa

end

section
/- The reference's Form, a message of kind 3. Printed by gen_rk.py. -/
namespace Go.Proofs.Ytljfoajhobambaa
open Go.RowKit
set_option linter.unusedVariables false
set_option linter.unusedSimpArgs false

set_option maxRecDepth 100000 in
set_option maxHeartbeats 16000000 in
theorem rform_3 (m : Psp.Msg) (vb vo vc vp : Value) (f cl : Int) (w : World) (P : Nat → Prop) (hx : MsgOk w P ⟨m, vb, vo, vc, vp⟩) (hw : wfMsg m) (hf : Psp.may f = true) (hk : m.k = 3) :
    Calls Try.prog 23 #[.agg #[.int .i64 m.k, .int .i64 m.f, .int .i64 m.v, .int .i64 m.i, .int .i64 m.q, .int .i64 m.r, vb, vo, vc, vp], .int .i64 f, .int .i64 cl] w fun e w' => e = .returned (.bool (Psp.formM m f cl)) ∧ Below w.heap.size w w' := by
  obtain ⟨Ab, Ao, Ac, Ap, cb, co, cc, cp, rfl, rfl, rfl, rfl⟩ := msg_slices hx
  obtain ⟨lb, hlb⟩ : ∃ n, m.b.length = n := ⟨_, rfl⟩
  rw [hlb] at hx ⊢
  have Hlb := Lib.hid hlb
  have HX := Lib.hid hx
  have Hw := Lib.hid hw
  obtain ⟨nn, hnn⟩ : ∃ q, Psp.nodes f = q := ⟨_, rfl⟩
  have hq0 : (nn == 0) = false := by rw [← hnn, may_zero, hf]; rfl
  have HN : Hid (∀ W : World, Calls Try.prog 64 #[.int .i64 f] W fun e w' => e = .returned (.int .i64 nn) ∧ W = w') := Lib.hid fun W => by rw [← hnn]; exact r_nodes_any f W
  obtain ⟨hn0, hn1⟩ := Psp.nodes_bd f
  rw [hnn] at hn0 hn1
  obtain ⟨g0, hg0⟩ : ∃ x, decide (m.f < 0) = x := ⟨_, rfl⟩
  obtain ⟨g1, hg1⟩ : ∃ x, decide (m.f ≥ nn) = x := ⟨_, rfl⟩
  have hnb : Psp.nodeB m.f f = (!g0 && !g1) := by unfold Psp.nodeB; rw [hnn, ← hg0, ← hg1, Bool.eq_iff_iff, Psp.win_iff]; simp; omega
  obtain ⟨t0, ht0⟩ : ∃ x, blankB true true true false true false false false m.v m.i m.q m.r lb m.o.length m.c.length m.p.length = x := ⟨_, rfl⟩
  obtain ⟨t1, ht1⟩ : ∃ x, Psp.placeB m.v m.i m.q f = x := ⟨_, rfl⟩
  obtain ⟨t2, ht2⟩ : ∃ x, Psp.batchB m.b cl 0 4 = x := ⟨_, rfl⟩
  obtain ⟨t3, ht3⟩ : ∃ x, decide ((lb : Int) > 0) = x := ⟨_, rfl⟩
  obtain ⟨t4, ht4⟩ : ∃ x, (m.f == Psp.primary f m.v m.i) = x := ⟨_, rfl⟩
  have Hres : Hid (Psp.formM m f cl = ((!g0 && !g1) && (t0 && (t1 && (t2 && (t3 && (t4))))))) := Lib.hid (by
    unfold Psp.formM
    rw [hf, Bool.true_and, ← hnb, hk]
    simp only [Int.reduceEq, if_false, if_true, true_or, or_true]
    congr 1
    rw [← ht0, ← ht1, ← ht2, ← ht3, ← ht4]
    rw [← hlb]
    simp only [Psp.noB, Psp.bareB, blankB, Psp.win, Psp.batchB, List.all_cons, List.all_nil, Bool.false_or, Bool.true_or, Bool.true_and, Bool.and_true]
    first
      | rfl
      | (rw [Bool.eq_iff_iff]; simp [and_assoc]; omega)
      | (rw [Bool.eq_iff_iff]; simp [and_assoc, and_left_comm, and_comm]; try omega))
  have Ht0 := Lib.hid ht0
  have Ht1 := Lib.hid ht1
  have Ht2 := Lib.hid ht2
  have hu3_0 : decide (0 < lb) = t3 := by simp [← ht3]
  have hu3_1 : decide ((0 : Int) < (lb : Int)) = t3 := by simp [← ht3]
  clear hlb hx hw hnn hf hnb ht0 ht1 ht2
  obtain ⟨pr, hpr⟩ : ∃ x, Psp.primary f m.v m.i = x := ⟨_, rfl⟩
  have HPr : Hid (∀ W : World, Calls Try.prog 69 #[.int .i64 f, .int .i64 m.v, .int .i64 m.i] W fun e w' => e = .returned (.int .i64 pr) ∧ W = w') := Lib.hid fun W => by rw [← hpr]; exact r_primary_any f m.v m.i W Hw.out.2.2.1.1 Hw.out.2.2.1.2 Hw.out.2.2.2.1.1 Hw.out.2.2.2.1.2
  rw [hpr] at ht4
  clear hpr
  have Hk := Lib.hid hk
  rw [hk]
  have HL0 := Lib.hid (Mk.new w #[.int .i64 3, .int .i64 m.f, .int .i64 m.v, .int .i64 m.i, .int .i64 m.q, .int .i64 m.r, .slice Ab lb cb, .slice Ao m.o.length co, .slice Ac m.c.length cc, .slice Ap m.p.length cp])
  go_enter Try.func23, Try.ntmps23
  go_wp2_with fail
  obtain ⟨W0, hW0⟩ : ∃ W, w.alloc (.cells #[.int .i64 3, .int .i64 m.f, .int .i64 m.v, .int .i64 m.i, .int .i64 m.q, .int .i64 m.r, .slice Ab lb cb, .slice Ao m.o.length co, .slice Ac m.c.length cc, .slice Ap m.p.length cp] 27) = W := ⟨_, rfl⟩
  rw [hW0] at HL0 ⊢
  clear hW0 hk
  refine (HN.out _).mono ?_
  rintro e w' ⟨rfl, rfl⟩
  have y0 : W0.cell? ⟨w.heap.size, 0, none⟩ = some (.int .i64 3) := HL0.out.cell (j := 0) rfl
  go_wp2_with fail
  have y1 := later_cell (show W0.cell? ⟨w.heap.size, 1, none⟩ = some (.int .i64 m.f) from HL0.out.cell (j := 1) rfl)
  have HNp : Hid (∀ p : Later W0, Calls Try.prog 64 #[.int .i64 f] p.W fun e w' => e = .returned (.int .i64 nn) ∧ p.W = w') := Lib.hid fun p => HN.out _
  cases g0 with
  | true =>
    refine wp_region_later (by kernel_rfl) (by kernel_rfl) ?_
    repeat (first | go_big_quiet_step ((go_at_call 64; exact later_same _ (HNp.out _))) | quiet_step ((go_at_call 64; exact later_same _ (HNp.out _))))
    refine wpQuiet_nil ?_
    intro w2 hw'
    obtain ⟨⟨wq, hbq⟩, hw'⟩ := hw'
    have hb2 : Below W0.heap.size W0 w2 := by rw [hw']; exact hbq
    clear hw' hbq
    have HL1 := Lib.hid (HL0.out.below hb2)
    clear hb2 y0 y1
    have y0 : w2.cell? ⟨w.heap.size, 0, none⟩ = some (.int .i64 3) := HL1.out.cell (j := 0) rfl
    go_wp2_with fail
    go_ret
    exact ⟨by rw [Hres.out]; rfl, HL1.out.be⟩
  | false =>
   cases g1 with
   | true =>
    refine wp_region_later (by kernel_rfl) (by kernel_rfl) ?_
    repeat (first | go_big_quiet_step ((go_at_call 64; exact later_same _ (HNp.out _))) | quiet_step ((go_at_call 64; exact later_same _ (HNp.out _))))
    refine wpQuiet_nil ?_
    intro w2 hw'
    obtain ⟨⟨wq, hbq⟩, hw'⟩ := hw'
    have hb2 : Below W0.heap.size W0 w2 := by rw [hw']; exact hbq
    clear hw' hbq
    have HL1 := Lib.hid (HL0.out.below hb2)
    clear hb2 y0 y1
    have y0 : w2.cell? ⟨w.heap.size, 0, none⟩ = some (.int .i64 3) := HL1.out.cell (j := 0) rfl
    go_wp2_with fail
    go_ret
    exact ⟨by rw [Hres.out]; rfl, HL1.out.be⟩
   | false =>
    refine wp_region_later (by kernel_rfl) (by kernel_rfl) ?_
    repeat (first | go_big_quiet_step ((go_at_call 64; exact later_same _ (HNp.out _))) | quiet_step ((go_at_call 64; exact later_same _ (HNp.out _))))
    refine wpQuiet_nil ?_
    intro w2 hw'
    obtain ⟨⟨wq, hbq⟩, hw'⟩ := hw'
    have hb2 : Below W0.heap.size W0 w2 := by rw [hw']; exact hbq
    clear hw' hbq
    have HL1 := Lib.hid (HL0.out.below hb2)
    clear hb2 y0 y1
    have y0 : w2.cell? ⟨w.heap.size, 0, none⟩ = some (.int .i64 3) := HL1.out.cell (j := 0) rfl
    go_wp2_with fail
    clear y0
    have HC0 : Hid (∀ p : Later w2, Calls Try.prog 65 #[.agg #[.int .i64 3, .int .i64 m.f, .int .i64 m.v, .int .i64 m.i, .int .i64 m.q, .int .i64 m.r, .slice Ab lb cb, .slice Ao m.o.length co, .slice Ac m.c.length cc, .slice Ap m.p.length cp], .string { data := #[118, 105, 115, 98] }] p.W fun e w' => e = .returned (.bool t0) ∧ Below p.W.heap.size p.W w') := Lib.hid fun p => by rw [← Ht0.out]; have hhk := Hk.out; rw [← hhk]; exact blank_visb _ _ _ _ _ _ _ _ _ _ _ _ _ _ _ _ _ _ p.W
    have HC1 : Hid (∀ p : Later w2, Calls Try.prog 67 #[.int .i64 m.v, .int .i64 m.i, .int .i64 m.q, .int .i64 f] p.W fun e w' => e = .returned (.bool t1) ∧ p.W = w') := Lib.hid fun p => by rw [← Ht1.out]; exact rplace_any m.v m.i m.q f p.W
    have HC2 : Hid (∀ p : Later w2, Calls Try.prog 68 #[.slice Ab lb cb, .int .i64 cl] p.W fun e w' => e = .returned (.bool t2) ∧ Below p.W.heap.size p.W w') := Lib.hid fun p => by rw [← Ht2.out]; exact rbatch_l m.b lb (.slice Ab lb cb) cl p.W _ (by have h := (HX.out.keeps (Keeps.below (HL1.out.below p.h).be)).1; unfold RdR at h; rw [Hlb.out] at h; exact h) Hlb.out
    have HCp : Hid (∀ p : Later w2, Calls Try.prog 69 #[.int .i64 f, .int .i64 m.v, .int .i64 m.i] p.W fun e w' => e = .returned (.int .i64 pr) ∧ p.W = w') := Lib.hid fun p => HPr.out _
    have HRM : Hid (∀ w' : World, (∃ p : Later w2, w' = p.W) → w'.rangeAt w.heap.size 0 [.int .i64 3, .int .i64 m.f, .int .i64 m.v, .int .i64 m.i, .int .i64 m.q, .int .i64 m.r, .slice Ab lb cb, .slice Ao m.o.length co, .slice Ac m.c.length cc, .slice Ap m.p.length cp]) := Lib.hid (by rintro w' ⟨p, rfl⟩; exact range_of_row (HL1.out.below p.h).box)
    have y1 := later_cell (show w2.cell? ⟨w.heap.size, 1, none⟩ = some (.int .i64 m.f) from HL1.out.cell (j := 1) rfl)
    have y2 := later_cell (show w2.cell? ⟨w.heap.size, 2, none⟩ = some (.int .i64 m.v) from HL1.out.cell (j := 2) rfl)
    have y3 := later_cell (show w2.cell? ⟨w.heap.size, 3, none⟩ = some (.int .i64 m.i) from HL1.out.cell (j := 3) rfl)
    have y4 := later_cell (show w2.cell? ⟨w.heap.size, 4, none⟩ = some (.int .i64 m.q) from HL1.out.cell (j := 4) rfl)
    have y5 := later_cell (show w2.cell? ⟨w.heap.size, 5, none⟩ = some (.int .i64 m.r) from HL1.out.cell (j := 5) rfl)
    have y6 := later_cell (show w2.cell? ⟨w.heap.size, 6, none⟩ = some (.slice Ab lb cb) from HL1.out.cell (j := 6) rfl)
    have y7 := later_cell (show w2.cell? ⟨w.heap.size, 7, none⟩ = some (.slice Ao m.o.length co) from HL1.out.cell (j := 7) rfl)
    have y8 := later_cell (show w2.cell? ⟨w.heap.size, 8, none⟩ = some (.slice Ac m.c.length cc) from HL1.out.cell (j := 8) rfl)
    have y9 := later_cell (show w2.cell? ⟨w.heap.size, 9, none⟩ = some (.slice Ap m.p.length cp) from HL1.out.cell (j := 9) rfl)
    cases t0 with
    | false =>
      refine wp_region_later (by kernel_rfl) (by kernel_rfl) ?_
      repeat (first | go_big_quiet_step (first | (go_at_call 65; exact later_call _ (HC0.out _)) | (go_at_call 67; exact later_same _ (HC1.out _)) | (go_at_call 68; exact later_call _ (HC2.out _)) | (go_at_call 69; exact later_same _ (HCp.out _))) | (refine quiet_load (by simp [Region.wanted, yielded]) 27 (.tmp 3) (by rfl) w.heap.size (0) (by rfl) [.int .i64 3, .int .i64 m.f, .int .i64 m.v, .int .i64 m.i, .int .i64 m.q, .int .i64 m.r, .slice Ab lb cb, .slice Ao m.o.length co, .slice Ac m.c.length cc, .slice Ap m.p.length cp] _ HRM.out Try.underlying27 rfl sizeM ?_; intro K hK; go_simp; refine hK _ ?_; clear hK K) | quiet_step (first | (go_at_call 65; exact later_call _ (HC0.out _)) | (go_at_call 67; exact later_same _ (HC1.out _)) | (go_at_call 68; exact later_call _ (HC2.out _)) | (go_at_call 69; exact later_same _ (HCp.out _))))
      refine wpQuiet_nil ?_
      intro w3 hw'
      obtain ⟨⟨wq, hbq⟩, hw'⟩ := hw'
      have hb2 : Below w2.heap.size w2 w3 := by rw [hw']; exact hbq
      clear hw' hbq
      have HL2 := Lib.hid (HL1.out.below hb2)
      clear hb2
      go_wp2_with fail
      go_ret
      exact ⟨by rw [Hres.out]; rfl, HL2.out.be⟩
    | true =>
      cases t1 with
      | false =>
        refine wp_region_later (by kernel_rfl) (by kernel_rfl) ?_
        repeat (first | go_big_quiet_step (first | (go_at_call 65; exact later_call _ (HC0.out _)) | (go_at_call 67; exact later_same _ (HC1.out _)) | (go_at_call 68; exact later_call _ (HC2.out _)) | (go_at_call 69; exact later_same _ (HCp.out _))) | (refine quiet_load (by simp [Region.wanted, yielded]) 27 (.tmp 3) (by rfl) w.heap.size (0) (by rfl) [.int .i64 3, .int .i64 m.f, .int .i64 m.v, .int .i64 m.i, .int .i64 m.q, .int .i64 m.r, .slice Ab lb cb, .slice Ao m.o.length co, .slice Ac m.c.length cc, .slice Ap m.p.length cp] _ HRM.out Try.underlying27 rfl sizeM ?_; intro K hK; go_simp; refine hK _ ?_; clear hK K) | quiet_step (first | (go_at_call 65; exact later_call _ (HC0.out _)) | (go_at_call 67; exact later_same _ (HC1.out _)) | (go_at_call 68; exact later_call _ (HC2.out _)) | (go_at_call 69; exact later_same _ (HCp.out _))))
        refine wpQuiet_nil ?_
        intro w3 hw'
        obtain ⟨⟨wq, hbq⟩, hw'⟩ := hw'
        have hb2 : Below w2.heap.size w2 w3 := by rw [hw']; exact hbq
        clear hw' hbq
        have HL2 := Lib.hid (HL1.out.below hb2)
        clear hb2
        go_wp2_with fail
        go_ret
        exact ⟨by rw [Hres.out]; rfl, HL2.out.be⟩
      | true =>
        cases t2 with
        | false =>
          refine wp_region_later (by kernel_rfl) (by kernel_rfl) ?_
          repeat (first | go_big_quiet_step (first | (go_at_call 65; exact later_call _ (HC0.out _)) | (go_at_call 67; exact later_same _ (HC1.out _)) | (go_at_call 68; exact later_call _ (HC2.out _)) | (go_at_call 69; exact later_same _ (HCp.out _))) | (refine quiet_load (by simp [Region.wanted, yielded]) 27 (.tmp 3) (by rfl) w.heap.size (0) (by rfl) [.int .i64 3, .int .i64 m.f, .int .i64 m.v, .int .i64 m.i, .int .i64 m.q, .int .i64 m.r, .slice Ab lb cb, .slice Ao m.o.length co, .slice Ac m.c.length cc, .slice Ap m.p.length cp] _ HRM.out Try.underlying27 rfl sizeM ?_; intro K hK; go_simp; refine hK _ ?_; clear hK K) | quiet_step (first | (go_at_call 65; exact later_call _ (HC0.out _)) | (go_at_call 67; exact later_same _ (HC1.out _)) | (go_at_call 68; exact later_call _ (HC2.out _)) | (go_at_call 69; exact later_same _ (HCp.out _))))
          refine wpQuiet_nil ?_
          intro w3 hw'
          obtain ⟨⟨wq, hbq⟩, hw'⟩ := hw'
          have hb2 : Below w2.heap.size w2 w3 := by rw [hw']; exact hbq
          clear hw' hbq
          have HL2 := Lib.hid (HL1.out.below hb2)
          clear hb2
          go_wp2_with fail
          go_ret
          exact ⟨by rw [Hres.out]; rfl, HL2.out.be⟩
        | true =>
          cases t3 with
          | false =>
            refine wp_region_later (by kernel_rfl) (by kernel_rfl) ?_
            repeat (first | go_big_quiet_step (first | (go_at_call 65; exact later_call _ (HC0.out _)) | (go_at_call 67; exact later_same _ (HC1.out _)) | (go_at_call 68; exact later_call _ (HC2.out _)) | (go_at_call 69; exact later_same _ (HCp.out _))) | (refine quiet_load (by simp [Region.wanted, yielded]) 27 (.tmp 3) (by rfl) w.heap.size (0) (by rfl) [.int .i64 3, .int .i64 m.f, .int .i64 m.v, .int .i64 m.i, .int .i64 m.q, .int .i64 m.r, .slice Ab lb cb, .slice Ao m.o.length co, .slice Ac m.c.length cc, .slice Ap m.p.length cp] _ HRM.out Try.underlying27 rfl sizeM ?_; intro K hK; go_simp; refine hK _ ?_; clear hK K) | quiet_step (first | (go_at_call 65; exact later_call _ (HC0.out _)) | (go_at_call 67; exact later_same _ (HC1.out _)) | (go_at_call 68; exact later_call _ (HC2.out _)) | (go_at_call 69; exact later_same _ (HCp.out _))))
            refine wpQuiet_nil ?_
            intro w3 hw'
            obtain ⟨⟨wq, hbq⟩, hw'⟩ := hw'
            have hb2 : Below w2.heap.size w2 w3 := by rw [hw']; exact hbq
            clear hw' hbq
            have HL2 := Lib.hid (HL1.out.below hb2)
            clear hb2
            go_wp2_with fail
            go_ret
            exact ⟨by rw [Hres.out]; rfl, HL2.out.be⟩
          | true =>
            cases t4 with
            | false =>
              refine wp_region_later (by kernel_rfl) (by kernel_rfl) ?_
              repeat (first | go_big_quiet_step (first | (go_at_call 65; exact later_call _ (HC0.out _)) | (go_at_call 67; exact later_same _ (HC1.out _)) | (go_at_call 68; exact later_call _ (HC2.out _)) | (go_at_call 69; exact later_same _ (HCp.out _))) | (refine quiet_load (by simp [Region.wanted, yielded]) 27 (.tmp 3) (by rfl) w.heap.size (0) (by rfl) [.int .i64 3, .int .i64 m.f, .int .i64 m.v, .int .i64 m.i, .int .i64 m.q, .int .i64 m.r, .slice Ab lb cb, .slice Ao m.o.length co, .slice Ac m.c.length cc, .slice Ap m.p.length cp] _ HRM.out Try.underlying27 rfl sizeM ?_; intro K hK; go_simp; refine hK _ ?_; clear hK K) | quiet_step (first | (go_at_call 65; exact later_call _ (HC0.out _)) | (go_at_call 67; exact later_same _ (HC1.out _)) | (go_at_call 68; exact later_call _ (HC2.out _)) | (go_at_call 69; exact later_same _ (HCp.out _))))
              refine wpQuiet_nil ?_
              intro w3 hw'
              obtain ⟨⟨wq, hbq⟩, hw'⟩ := hw'
              have hb2 : Below w2.heap.size w2 w3 := by rw [hw']; exact hbq
              clear hw' hbq
              have HL2 := Lib.hid (HL1.out.below hb2)
              clear hb2
              go_wp2_with fail
              go_ret
              exact ⟨by rw [Hres.out]; rfl, HL2.out.be⟩
            | true =>
              refine wp_region_later (by kernel_rfl) (by kernel_rfl) ?_
              repeat (first | go_big_quiet_step (first | (go_at_call 65; exact later_call _ (HC0.out _)) | (go_at_call 67; exact later_same _ (HC1.out _)) | (go_at_call 68; exact later_call _ (HC2.out _)) | (go_at_call 69; exact later_same _ (HCp.out _))) | (refine quiet_load (by simp [Region.wanted, yielded]) 27 (.tmp 3) (by rfl) w.heap.size (0) (by rfl) [.int .i64 3, .int .i64 m.f, .int .i64 m.v, .int .i64 m.i, .int .i64 m.q, .int .i64 m.r, .slice Ab lb cb, .slice Ao m.o.length co, .slice Ac m.c.length cc, .slice Ap m.p.length cp] _ HRM.out Try.underlying27 rfl sizeM ?_; intro K hK; go_simp; refine hK _ ?_; clear hK K) | quiet_step (first | (go_at_call 65; exact later_call _ (HC0.out _)) | (go_at_call 67; exact later_same _ (HC1.out _)) | (go_at_call 68; exact later_call _ (HC2.out _)) | (go_at_call 69; exact later_same _ (HCp.out _))))
              refine wpQuiet_nil ?_
              intro w3 hw'
              obtain ⟨⟨wq, hbq⟩, hw'⟩ := hw'
              have hb2 : Below w2.heap.size w2 w3 := by rw [hw']; exact hbq
              clear hw' hbq
              have HL2 := Lib.hid (HL1.out.below hb2)
              clear hb2
              go_wp2_with fail
              go_ret
              exact ⟨by rw [Hres.out]; rfl, HL2.out.be⟩
end Go.Proofs.Ytljfoajhobambaa

end

section
/- The reference's Form, a message of kind 4. Printed by gen_rk.py. -/
namespace Go.Proofs.Ytljfoajhobambaa
open Go.RowKit
set_option linter.unusedVariables false
set_option linter.unusedSimpArgs false

set_option maxRecDepth 100000 in
set_option maxHeartbeats 16000000 in
theorem rform_4 (m : Psp.Msg) (vb vo vc vp : Value) (f cl : Int) (w : World) (P : Nat → Prop) (hx : MsgOk w P ⟨m, vb, vo, vc, vp⟩) (hw : wfMsg m) (hf : Psp.may f = true) (hk : m.k = 4) :
    Calls Try.prog 23 #[.agg #[.int .i64 m.k, .int .i64 m.f, .int .i64 m.v, .int .i64 m.i, .int .i64 m.q, .int .i64 m.r, vb, vo, vc, vp], .int .i64 f, .int .i64 cl] w fun e w' => e = .returned (.bool (Psp.formM m f cl)) ∧ Below w.heap.size w w' := by
  obtain ⟨Ab, Ao, Ac, Ap, cb, co, cc, cp, rfl, rfl, rfl, rfl⟩ := msg_slices hx
  have HX := Lib.hid hx
  have Hw := Lib.hid hw
  obtain ⟨nn, hnn⟩ : ∃ q, Psp.nodes f = q := ⟨_, rfl⟩
  have hq0 : (nn == 0) = false := by rw [← hnn, may_zero, hf]; rfl
  have HN : Hid (∀ W : World, Calls Try.prog 64 #[.int .i64 f] W fun e w' => e = .returned (.int .i64 nn) ∧ W = w') := Lib.hid fun W => by rw [← hnn]; exact r_nodes_any f W
  obtain ⟨hn0, hn1⟩ := Psp.nodes_bd f
  rw [hnn] at hn0 hn1
  obtain ⟨g0, hg0⟩ : ∃ x, decide (m.f < 0) = x := ⟨_, rfl⟩
  obtain ⟨g1, hg1⟩ : ∃ x, decide (m.f ≥ nn) = x := ⟨_, rfl⟩
  have hnb : Psp.nodeB m.f f = (!g0 && !g1) := by unfold Psp.nodeB; rw [hnn, ← hg0, ← hg1, Bool.eq_iff_iff, Psp.win_iff]; simp; omega
  obtain ⟨t0, ht0⟩ : ∃ x, blankB true true true false true false false false m.v m.i m.q m.r m.b.length m.o.length m.c.length m.p.length = x := ⟨_, rfl⟩
  obtain ⟨t1, ht1⟩ : ∃ x, Psp.placeB m.v m.i m.q f = x := ⟨_, rfl⟩
  obtain ⟨t2, ht2⟩ : ∃ x, Psp.batchB m.b cl 0 4 = x := ⟨_, rfl⟩
  have Hres : Hid (Psp.formM m f cl = ((!g0 && !g1) && (t0 && (t1 && (t2))))) := Lib.hid (by
    unfold Psp.formM
    rw [hf, Bool.true_and, ← hnb, hk]
    simp only [Int.reduceEq, if_false, if_true, true_or, or_true]
    congr 1
    rw [← ht0, ← ht1, ← ht2]
    simp only [Psp.noB, Psp.bareB, blankB, Psp.win, Psp.batchB, List.all_cons, List.all_nil, Bool.false_or, Bool.true_or, Bool.true_and, Bool.and_true]
    first
      | rfl
      | (rw [Bool.eq_iff_iff]; simp [and_assoc]; omega)
      | (rw [Bool.eq_iff_iff]; simp [and_assoc, and_left_comm, and_comm]; try omega))
  have Ht0 := Lib.hid ht0
  have Ht1 := Lib.hid ht1
  have Ht2 := Lib.hid ht2
  clear hx hw hnn hf hnb ht0 ht1 ht2
  have Hk := Lib.hid hk
  rw [hk]
  have HL0 := Lib.hid (Mk.new w #[.int .i64 4, .int .i64 m.f, .int .i64 m.v, .int .i64 m.i, .int .i64 m.q, .int .i64 m.r, .slice Ab m.b.length cb, .slice Ao m.o.length co, .slice Ac m.c.length cc, .slice Ap m.p.length cp])
  go_enter Try.func23, Try.ntmps23
  go_wp2_with fail
  obtain ⟨W0, hW0⟩ : ∃ W, w.alloc (.cells #[.int .i64 4, .int .i64 m.f, .int .i64 m.v, .int .i64 m.i, .int .i64 m.q, .int .i64 m.r, .slice Ab m.b.length cb, .slice Ao m.o.length co, .slice Ac m.c.length cc, .slice Ap m.p.length cp] 27) = W := ⟨_, rfl⟩
  rw [hW0] at HL0 ⊢
  clear hW0 hk
  refine (HN.out _).mono ?_
  rintro e w' ⟨rfl, rfl⟩
  have y0 : W0.cell? ⟨w.heap.size, 0, none⟩ = some (.int .i64 4) := HL0.out.cell (j := 0) rfl
  go_wp2_with fail
  have y1 := later_cell (show W0.cell? ⟨w.heap.size, 1, none⟩ = some (.int .i64 m.f) from HL0.out.cell (j := 1) rfl)
  have HNp : Hid (∀ p : Later W0, Calls Try.prog 64 #[.int .i64 f] p.W fun e w' => e = .returned (.int .i64 nn) ∧ p.W = w') := Lib.hid fun p => HN.out _
  cases g0 with
  | true =>
    refine wp_region_later (by kernel_rfl) (by kernel_rfl) ?_
    repeat (first | go_big_quiet_step ((go_at_call 64; exact later_same _ (HNp.out _))) | quiet_step ((go_at_call 64; exact later_same _ (HNp.out _))))
    refine wpQuiet_nil ?_
    intro w2 hw'
    obtain ⟨⟨wq, hbq⟩, hw'⟩ := hw'
    have hb2 : Below W0.heap.size W0 w2 := by rw [hw']; exact hbq
    clear hw' hbq
    have HL1 := Lib.hid (HL0.out.below hb2)
    clear hb2 y0 y1
    have y0 : w2.cell? ⟨w.heap.size, 0, none⟩ = some (.int .i64 4) := HL1.out.cell (j := 0) rfl
    go_wp2_with fail
    go_ret
    exact ⟨by rw [Hres.out]; rfl, HL1.out.be⟩
  | false =>
   cases g1 with
   | true =>
    refine wp_region_later (by kernel_rfl) (by kernel_rfl) ?_
    repeat (first | go_big_quiet_step ((go_at_call 64; exact later_same _ (HNp.out _))) | quiet_step ((go_at_call 64; exact later_same _ (HNp.out _))))
    refine wpQuiet_nil ?_
    intro w2 hw'
    obtain ⟨⟨wq, hbq⟩, hw'⟩ := hw'
    have hb2 : Below W0.heap.size W0 w2 := by rw [hw']; exact hbq
    clear hw' hbq
    have HL1 := Lib.hid (HL0.out.below hb2)
    clear hb2 y0 y1
    have y0 : w2.cell? ⟨w.heap.size, 0, none⟩ = some (.int .i64 4) := HL1.out.cell (j := 0) rfl
    go_wp2_with fail
    go_ret
    exact ⟨by rw [Hres.out]; rfl, HL1.out.be⟩
   | false =>
    refine wp_region_later (by kernel_rfl) (by kernel_rfl) ?_
    repeat (first | go_big_quiet_step ((go_at_call 64; exact later_same _ (HNp.out _))) | quiet_step ((go_at_call 64; exact later_same _ (HNp.out _))))
    refine wpQuiet_nil ?_
    intro w2 hw'
    obtain ⟨⟨wq, hbq⟩, hw'⟩ := hw'
    have hb2 : Below W0.heap.size W0 w2 := by rw [hw']; exact hbq
    clear hw' hbq
    have HL1 := Lib.hid (HL0.out.below hb2)
    clear hb2 y0 y1
    have y0 : w2.cell? ⟨w.heap.size, 0, none⟩ = some (.int .i64 4) := HL1.out.cell (j := 0) rfl
    have y1 : w2.cell? ⟨w.heap.size, 1, none⟩ = some (.int .i64 m.f) := HL1.out.cell (j := 1) rfl
    have y2 : w2.cell? ⟨w.heap.size, 2, none⟩ = some (.int .i64 m.v) := HL1.out.cell (j := 2) rfl
    have y3 : w2.cell? ⟨w.heap.size, 3, none⟩ = some (.int .i64 m.i) := HL1.out.cell (j := 3) rfl
    have y4 : w2.cell? ⟨w.heap.size, 4, none⟩ = some (.int .i64 m.q) := HL1.out.cell (j := 4) rfl
    have y5 : w2.cell? ⟨w.heap.size, 5, none⟩ = some (.int .i64 m.r) := HL1.out.cell (j := 5) rfl
    have y6 : w2.cell? ⟨w.heap.size, 6, none⟩ = some (.slice Ab m.b.length cb) := HL1.out.cell (j := 6) rfl
    have y7 : w2.cell? ⟨w.heap.size, 7, none⟩ = some (.slice Ao m.o.length co) := HL1.out.cell (j := 7) rfl
    have y8 : w2.cell? ⟨w.heap.size, 8, none⟩ = some (.slice Ac m.c.length cc) := HL1.out.cell (j := 8) rfl
    have y9 : w2.cell? ⟨w.heap.size, 9, none⟩ = some (.slice Ap m.p.length cp) := HL1.out.cell (j := 9) rfl
    go_wp2_with fail
    clear y0 y1 y2 y3 y4 y5 y6 y7 y8 y9
    refine (blank_visb _ _ _ _ _ _ _ _ _ _ _ _ _ _ _ _ _ _ w2).mono ?_
    rw [Ht0.out]
    rintro e v0 ⟨rfl, hb⟩
    have HV0 := Lib.hid (HL1.out.below hb)
    clear hb
    have y0 : v0.cell? ⟨w.heap.size, 0, none⟩ = some (.int .i64 4) := HV0.out.cell (j := 0) rfl
    have y1 : v0.cell? ⟨w.heap.size, 1, none⟩ = some (.int .i64 m.f) := HV0.out.cell (j := 1) rfl
    have y2 : v0.cell? ⟨w.heap.size, 2, none⟩ = some (.int .i64 m.v) := HV0.out.cell (j := 2) rfl
    have y3 : v0.cell? ⟨w.heap.size, 3, none⟩ = some (.int .i64 m.i) := HV0.out.cell (j := 3) rfl
    have y4 : v0.cell? ⟨w.heap.size, 4, none⟩ = some (.int .i64 m.q) := HV0.out.cell (j := 4) rfl
    have y5 : v0.cell? ⟨w.heap.size, 5, none⟩ = some (.int .i64 m.r) := HV0.out.cell (j := 5) rfl
    have y6 : v0.cell? ⟨w.heap.size, 6, none⟩ = some (.slice Ab m.b.length cb) := HV0.out.cell (j := 6) rfl
    have y7 : v0.cell? ⟨w.heap.size, 7, none⟩ = some (.slice Ao m.o.length co) := HV0.out.cell (j := 7) rfl
    have y8 : v0.cell? ⟨w.heap.size, 8, none⟩ = some (.slice Ac m.c.length cc) := HV0.out.cell (j := 8) rfl
    have y9 : v0.cell? ⟨w.heap.size, 9, none⟩ = some (.slice Ap m.p.length cp) := HV0.out.cell (j := 9) rfl
    cases t0 with
    | false =>
      go_wp2_with fail
      go_ret
      exact ⟨by rw [Hres.out]; rfl, HV0.out.be⟩
    | true =>
      go_wp2_with fail
      clear y0 y1 y2 y3 y4 y5 y6 y7 y8 y9
      refine (rplace_any m.v m.i m.q f v0).mono ?_
      rw [Ht1.out]
      rintro e w' ⟨rfl, rfl⟩
      have y0 : v0.cell? ⟨w.heap.size, 0, none⟩ = some (.int .i64 4) := HV0.out.cell (j := 0) rfl
      have y1 : v0.cell? ⟨w.heap.size, 1, none⟩ = some (.int .i64 m.f) := HV0.out.cell (j := 1) rfl
      have y2 : v0.cell? ⟨w.heap.size, 2, none⟩ = some (.int .i64 m.v) := HV0.out.cell (j := 2) rfl
      have y3 : v0.cell? ⟨w.heap.size, 3, none⟩ = some (.int .i64 m.i) := HV0.out.cell (j := 3) rfl
      have y4 : v0.cell? ⟨w.heap.size, 4, none⟩ = some (.int .i64 m.q) := HV0.out.cell (j := 4) rfl
      have y5 : v0.cell? ⟨w.heap.size, 5, none⟩ = some (.int .i64 m.r) := HV0.out.cell (j := 5) rfl
      have y6 : v0.cell? ⟨w.heap.size, 6, none⟩ = some (.slice Ab m.b.length cb) := HV0.out.cell (j := 6) rfl
      have y7 : v0.cell? ⟨w.heap.size, 7, none⟩ = some (.slice Ao m.o.length co) := HV0.out.cell (j := 7) rfl
      have y8 : v0.cell? ⟨w.heap.size, 8, none⟩ = some (.slice Ac m.c.length cc) := HV0.out.cell (j := 8) rfl
      have y9 : v0.cell? ⟨w.heap.size, 9, none⟩ = some (.slice Ap m.p.length cp) := HV0.out.cell (j := 9) rfl
      cases t1 with
      | false =>
        go_wp2_with fail
        go_ret
        exact ⟨by rw [Hres.out]; rfl, HV0.out.be⟩
      | true =>
        go_wp2_with fail
        clear y0 y1 y2 y3 y4 y5 y6 y7 y8 y9
        refine (rbatch_l m.b m.b.length (.slice Ab m.b.length cb) cl v0 _ (RdP.keeps HX.out.1 (Keeps.below HV0.out.be)) rfl).mono ?_
        rw [Ht2.out]
        rintro e v2 ⟨rfl, hb⟩
        have HV2 := Lib.hid (HV0.out.below hb)
        clear hb
        have y0 : v2.cell? ⟨w.heap.size, 0, none⟩ = some (.int .i64 4) := HV2.out.cell (j := 0) rfl
        have y1 : v2.cell? ⟨w.heap.size, 1, none⟩ = some (.int .i64 m.f) := HV2.out.cell (j := 1) rfl
        have y2 : v2.cell? ⟨w.heap.size, 2, none⟩ = some (.int .i64 m.v) := HV2.out.cell (j := 2) rfl
        have y3 : v2.cell? ⟨w.heap.size, 3, none⟩ = some (.int .i64 m.i) := HV2.out.cell (j := 3) rfl
        have y4 : v2.cell? ⟨w.heap.size, 4, none⟩ = some (.int .i64 m.q) := HV2.out.cell (j := 4) rfl
        have y5 : v2.cell? ⟨w.heap.size, 5, none⟩ = some (.int .i64 m.r) := HV2.out.cell (j := 5) rfl
        have y6 : v2.cell? ⟨w.heap.size, 6, none⟩ = some (.slice Ab m.b.length cb) := HV2.out.cell (j := 6) rfl
        have y7 : v2.cell? ⟨w.heap.size, 7, none⟩ = some (.slice Ao m.o.length co) := HV2.out.cell (j := 7) rfl
        have y8 : v2.cell? ⟨w.heap.size, 8, none⟩ = some (.slice Ac m.c.length cc) := HV2.out.cell (j := 8) rfl
        have y9 : v2.cell? ⟨w.heap.size, 9, none⟩ = some (.slice Ap m.p.length cp) := HV2.out.cell (j := 9) rfl
        cases t2 with
        | false =>
          go_wp2_with fail
          go_ret
          exact ⟨by rw [Hres.out]; rfl, HV2.out.be⟩
        | true =>
          go_wp2_with fail
          go_ret
          exact ⟨by rw [Hres.out]; rfl, HV2.out.be⟩
end Go.Proofs.Ytljfoajhobambaa

end

section
/- The reference's Form, a message of kind 5. Printed by gen_rk.py. -/
namespace Go.Proofs.Ytljfoajhobambaa
open Go.RowKit
set_option linter.unusedVariables false
set_option linter.unusedSimpArgs false

set_option maxRecDepth 100000 in
set_option maxHeartbeats 16000000 in
theorem rform_5 (m : Psp.Msg) (vb vo vc vp : Value) (f cl : Int) (w : World) (P : Nat → Prop) (hx : MsgOk w P ⟨m, vb, vo, vc, vp⟩) (hw : wfMsg m) (hf : Psp.may f = true) (hk : m.k = 5) :
    Calls Try.prog 23 #[.agg #[.int .i64 m.k, .int .i64 m.f, .int .i64 m.v, .int .i64 m.i, .int .i64 m.q, .int .i64 m.r, vb, vo, vc, vp], .int .i64 f, .int .i64 cl] w fun e w' => e = .returned (.bool (Psp.formM m f cl)) ∧ Below w.heap.size w w' := by
  obtain ⟨Ab, Ao, Ac, Ap, cb, co, cc, cp, rfl, rfl, rfl, rfl⟩ := msg_slices hx
  have HX := Lib.hid hx
  have Hw := Lib.hid hw
  obtain ⟨nn, hnn⟩ : ∃ q, Psp.nodes f = q := ⟨_, rfl⟩
  have hq0 : (nn == 0) = false := by rw [← hnn, may_zero, hf]; rfl
  have HN : Hid (∀ W : World, Calls Try.prog 64 #[.int .i64 f] W fun e w' => e = .returned (.int .i64 nn) ∧ W = w') := Lib.hid fun W => by rw [← hnn]; exact r_nodes_any f W
  obtain ⟨hn0, hn1⟩ := Psp.nodes_bd f
  rw [hnn] at hn0 hn1
  obtain ⟨g0, hg0⟩ : ∃ x, decide (m.f < 0) = x := ⟨_, rfl⟩
  obtain ⟨g1, hg1⟩ : ∃ x, decide (m.f ≥ nn) = x := ⟨_, rfl⟩
  have hnb : Psp.nodeB m.f f = (!g0 && !g1) := by unfold Psp.nodeB; rw [hnn, ← hg0, ← hg1, Bool.eq_iff_iff, Psp.win_iff]; simp; omega
  obtain ⟨t0, ht0⟩ : ∃ x, blankB true true true false true false false false m.v m.i m.q m.r m.b.length m.o.length m.c.length m.p.length = x := ⟨_, rfl⟩
  obtain ⟨t1, ht1⟩ : ∃ x, Psp.placeB m.v m.i m.q f = x := ⟨_, rfl⟩
  obtain ⟨t2, ht2⟩ : ∃ x, Psp.batchB m.b cl 0 4 = x := ⟨_, rfl⟩
  have Hres : Hid (Psp.formM m f cl = ((!g0 && !g1) && (t0 && (t1 && (t2))))) := Lib.hid (by
    unfold Psp.formM
    rw [hf, Bool.true_and, ← hnb, hk]
    simp only [Int.reduceEq, if_false, if_true, true_or, or_true]
    congr 1
    rw [← ht0, ← ht1, ← ht2]
    simp only [Psp.noB, Psp.bareB, blankB, Psp.win, Psp.batchB, List.all_cons, List.all_nil, Bool.false_or, Bool.true_or, Bool.true_and, Bool.and_true]
    first
      | rfl
      | (rw [Bool.eq_iff_iff]; simp [and_assoc]; omega)
      | (rw [Bool.eq_iff_iff]; simp [and_assoc, and_left_comm, and_comm]; try omega))
  have Ht0 := Lib.hid ht0
  have Ht1 := Lib.hid ht1
  have Ht2 := Lib.hid ht2
  clear hx hw hnn hf hnb ht0 ht1 ht2
  have Hk := Lib.hid hk
  rw [hk]
  have HL0 := Lib.hid (Mk.new w #[.int .i64 5, .int .i64 m.f, .int .i64 m.v, .int .i64 m.i, .int .i64 m.q, .int .i64 m.r, .slice Ab m.b.length cb, .slice Ao m.o.length co, .slice Ac m.c.length cc, .slice Ap m.p.length cp])
  go_enter Try.func23, Try.ntmps23
  go_wp2_with fail
  obtain ⟨W0, hW0⟩ : ∃ W, w.alloc (.cells #[.int .i64 5, .int .i64 m.f, .int .i64 m.v, .int .i64 m.i, .int .i64 m.q, .int .i64 m.r, .slice Ab m.b.length cb, .slice Ao m.o.length co, .slice Ac m.c.length cc, .slice Ap m.p.length cp] 27) = W := ⟨_, rfl⟩
  rw [hW0] at HL0 ⊢
  clear hW0 hk
  refine (HN.out _).mono ?_
  rintro e w' ⟨rfl, rfl⟩
  have y0 : W0.cell? ⟨w.heap.size, 0, none⟩ = some (.int .i64 5) := HL0.out.cell (j := 0) rfl
  go_wp2_with fail
  have y1 := later_cell (show W0.cell? ⟨w.heap.size, 1, none⟩ = some (.int .i64 m.f) from HL0.out.cell (j := 1) rfl)
  have HNp : Hid (∀ p : Later W0, Calls Try.prog 64 #[.int .i64 f] p.W fun e w' => e = .returned (.int .i64 nn) ∧ p.W = w') := Lib.hid fun p => HN.out _
  cases g0 with
  | true =>
    refine wp_region_later (by kernel_rfl) (by kernel_rfl) ?_
    repeat (first | go_big_quiet_step ((go_at_call 64; exact later_same _ (HNp.out _))) | quiet_step ((go_at_call 64; exact later_same _ (HNp.out _))))
    refine wpQuiet_nil ?_
    intro w2 hw'
    obtain ⟨⟨wq, hbq⟩, hw'⟩ := hw'
    have hb2 : Below W0.heap.size W0 w2 := by rw [hw']; exact hbq
    clear hw' hbq
    have HL1 := Lib.hid (HL0.out.below hb2)
    clear hb2 y0 y1
    have y0 : w2.cell? ⟨w.heap.size, 0, none⟩ = some (.int .i64 5) := HL1.out.cell (j := 0) rfl
    go_wp2_with fail
    go_ret
    exact ⟨by rw [Hres.out]; rfl, HL1.out.be⟩
  | false =>
   cases g1 with
   | true =>
    refine wp_region_later (by kernel_rfl) (by kernel_rfl) ?_
    repeat (first | go_big_quiet_step ((go_at_call 64; exact later_same _ (HNp.out _))) | quiet_step ((go_at_call 64; exact later_same _ (HNp.out _))))
    refine wpQuiet_nil ?_
    intro w2 hw'
    obtain ⟨⟨wq, hbq⟩, hw'⟩ := hw'
    have hb2 : Below W0.heap.size W0 w2 := by rw [hw']; exact hbq
    clear hw' hbq
    have HL1 := Lib.hid (HL0.out.below hb2)
    clear hb2 y0 y1
    have y0 : w2.cell? ⟨w.heap.size, 0, none⟩ = some (.int .i64 5) := HL1.out.cell (j := 0) rfl
    go_wp2_with fail
    go_ret
    exact ⟨by rw [Hres.out]; rfl, HL1.out.be⟩
   | false =>
    refine wp_region_later (by kernel_rfl) (by kernel_rfl) ?_
    repeat (first | go_big_quiet_step ((go_at_call 64; exact later_same _ (HNp.out _))) | quiet_step ((go_at_call 64; exact later_same _ (HNp.out _))))
    refine wpQuiet_nil ?_
    intro w2 hw'
    obtain ⟨⟨wq, hbq⟩, hw'⟩ := hw'
    have hb2 : Below W0.heap.size W0 w2 := by rw [hw']; exact hbq
    clear hw' hbq
    have HL1 := Lib.hid (HL0.out.below hb2)
    clear hb2 y0 y1
    have y0 : w2.cell? ⟨w.heap.size, 0, none⟩ = some (.int .i64 5) := HL1.out.cell (j := 0) rfl
    have y1 : w2.cell? ⟨w.heap.size, 1, none⟩ = some (.int .i64 m.f) := HL1.out.cell (j := 1) rfl
    have y2 : w2.cell? ⟨w.heap.size, 2, none⟩ = some (.int .i64 m.v) := HL1.out.cell (j := 2) rfl
    have y3 : w2.cell? ⟨w.heap.size, 3, none⟩ = some (.int .i64 m.i) := HL1.out.cell (j := 3) rfl
    have y4 : w2.cell? ⟨w.heap.size, 4, none⟩ = some (.int .i64 m.q) := HL1.out.cell (j := 4) rfl
    have y5 : w2.cell? ⟨w.heap.size, 5, none⟩ = some (.int .i64 m.r) := HL1.out.cell (j := 5) rfl
    have y6 : w2.cell? ⟨w.heap.size, 6, none⟩ = some (.slice Ab m.b.length cb) := HL1.out.cell (j := 6) rfl
    have y7 : w2.cell? ⟨w.heap.size, 7, none⟩ = some (.slice Ao m.o.length co) := HL1.out.cell (j := 7) rfl
    have y8 : w2.cell? ⟨w.heap.size, 8, none⟩ = some (.slice Ac m.c.length cc) := HL1.out.cell (j := 8) rfl
    have y9 : w2.cell? ⟨w.heap.size, 9, none⟩ = some (.slice Ap m.p.length cp) := HL1.out.cell (j := 9) rfl
    go_wp2_with fail
    clear y0 y1 y2 y3 y4 y5 y6 y7 y8 y9
    refine (blank_visb _ _ _ _ _ _ _ _ _ _ _ _ _ _ _ _ _ _ w2).mono ?_
    rw [Ht0.out]
    rintro e v0 ⟨rfl, hb⟩
    have HV0 := Lib.hid (HL1.out.below hb)
    clear hb
    have y0 : v0.cell? ⟨w.heap.size, 0, none⟩ = some (.int .i64 5) := HV0.out.cell (j := 0) rfl
    have y1 : v0.cell? ⟨w.heap.size, 1, none⟩ = some (.int .i64 m.f) := HV0.out.cell (j := 1) rfl
    have y2 : v0.cell? ⟨w.heap.size, 2, none⟩ = some (.int .i64 m.v) := HV0.out.cell (j := 2) rfl
    have y3 : v0.cell? ⟨w.heap.size, 3, none⟩ = some (.int .i64 m.i) := HV0.out.cell (j := 3) rfl
    have y4 : v0.cell? ⟨w.heap.size, 4, none⟩ = some (.int .i64 m.q) := HV0.out.cell (j := 4) rfl
    have y5 : v0.cell? ⟨w.heap.size, 5, none⟩ = some (.int .i64 m.r) := HV0.out.cell (j := 5) rfl
    have y6 : v0.cell? ⟨w.heap.size, 6, none⟩ = some (.slice Ab m.b.length cb) := HV0.out.cell (j := 6) rfl
    have y7 : v0.cell? ⟨w.heap.size, 7, none⟩ = some (.slice Ao m.o.length co) := HV0.out.cell (j := 7) rfl
    have y8 : v0.cell? ⟨w.heap.size, 8, none⟩ = some (.slice Ac m.c.length cc) := HV0.out.cell (j := 8) rfl
    have y9 : v0.cell? ⟨w.heap.size, 9, none⟩ = some (.slice Ap m.p.length cp) := HV0.out.cell (j := 9) rfl
    cases t0 with
    | false =>
      go_wp2_with fail
      go_ret
      exact ⟨by rw [Hres.out]; rfl, HV0.out.be⟩
    | true =>
      go_wp2_with fail
      clear y0 y1 y2 y3 y4 y5 y6 y7 y8 y9
      refine (rplace_any m.v m.i m.q f v0).mono ?_
      rw [Ht1.out]
      rintro e w' ⟨rfl, rfl⟩
      have y0 : v0.cell? ⟨w.heap.size, 0, none⟩ = some (.int .i64 5) := HV0.out.cell (j := 0) rfl
      have y1 : v0.cell? ⟨w.heap.size, 1, none⟩ = some (.int .i64 m.f) := HV0.out.cell (j := 1) rfl
      have y2 : v0.cell? ⟨w.heap.size, 2, none⟩ = some (.int .i64 m.v) := HV0.out.cell (j := 2) rfl
      have y3 : v0.cell? ⟨w.heap.size, 3, none⟩ = some (.int .i64 m.i) := HV0.out.cell (j := 3) rfl
      have y4 : v0.cell? ⟨w.heap.size, 4, none⟩ = some (.int .i64 m.q) := HV0.out.cell (j := 4) rfl
      have y5 : v0.cell? ⟨w.heap.size, 5, none⟩ = some (.int .i64 m.r) := HV0.out.cell (j := 5) rfl
      have y6 : v0.cell? ⟨w.heap.size, 6, none⟩ = some (.slice Ab m.b.length cb) := HV0.out.cell (j := 6) rfl
      have y7 : v0.cell? ⟨w.heap.size, 7, none⟩ = some (.slice Ao m.o.length co) := HV0.out.cell (j := 7) rfl
      have y8 : v0.cell? ⟨w.heap.size, 8, none⟩ = some (.slice Ac m.c.length cc) := HV0.out.cell (j := 8) rfl
      have y9 : v0.cell? ⟨w.heap.size, 9, none⟩ = some (.slice Ap m.p.length cp) := HV0.out.cell (j := 9) rfl
      cases t1 with
      | false =>
        go_wp2_with fail
        go_ret
        exact ⟨by rw [Hres.out]; rfl, HV0.out.be⟩
      | true =>
        go_wp2_with fail
        clear y0 y1 y2 y3 y4 y5 y6 y7 y8 y9
        refine (rbatch_l m.b m.b.length (.slice Ab m.b.length cb) cl v0 _ (RdP.keeps HX.out.1 (Keeps.below HV0.out.be)) rfl).mono ?_
        rw [Ht2.out]
        rintro e v2 ⟨rfl, hb⟩
        have HV2 := Lib.hid (HV0.out.below hb)
        clear hb
        have y0 : v2.cell? ⟨w.heap.size, 0, none⟩ = some (.int .i64 5) := HV2.out.cell (j := 0) rfl
        have y1 : v2.cell? ⟨w.heap.size, 1, none⟩ = some (.int .i64 m.f) := HV2.out.cell (j := 1) rfl
        have y2 : v2.cell? ⟨w.heap.size, 2, none⟩ = some (.int .i64 m.v) := HV2.out.cell (j := 2) rfl
        have y3 : v2.cell? ⟨w.heap.size, 3, none⟩ = some (.int .i64 m.i) := HV2.out.cell (j := 3) rfl
        have y4 : v2.cell? ⟨w.heap.size, 4, none⟩ = some (.int .i64 m.q) := HV2.out.cell (j := 4) rfl
        have y5 : v2.cell? ⟨w.heap.size, 5, none⟩ = some (.int .i64 m.r) := HV2.out.cell (j := 5) rfl
        have y6 : v2.cell? ⟨w.heap.size, 6, none⟩ = some (.slice Ab m.b.length cb) := HV2.out.cell (j := 6) rfl
        have y7 : v2.cell? ⟨w.heap.size, 7, none⟩ = some (.slice Ao m.o.length co) := HV2.out.cell (j := 7) rfl
        have y8 : v2.cell? ⟨w.heap.size, 8, none⟩ = some (.slice Ac m.c.length cc) := HV2.out.cell (j := 8) rfl
        have y9 : v2.cell? ⟨w.heap.size, 9, none⟩ = some (.slice Ap m.p.length cp) := HV2.out.cell (j := 9) rfl
        cases t2 with
        | false =>
          go_wp2_with fail
          go_ret
          exact ⟨by rw [Hres.out]; rfl, HV2.out.be⟩
        | true =>
          go_wp2_with fail
          go_ret
          exact ⟨by rw [Hres.out]; rfl, HV2.out.be⟩
end Go.Proofs.Ytljfoajhobambaa

end

section
/- The reference's Form, a message of kind 6. Printed by gen_rk.py. -/
namespace Go.Proofs.Ytljfoajhobambaa
open Go.RowKit
set_option linter.unusedVariables false
set_option linter.unusedSimpArgs false

set_option maxRecDepth 100000 in
set_option maxHeartbeats 16000000 in
theorem rform_6 (m : Psp.Msg) (vb vo vc vp : Value) (f cl : Int) (w : World) (P : Nat → Prop) (hx : MsgOk w P ⟨m, vb, vo, vc, vp⟩) (hw : wfMsg m) (hf : Psp.may f = true) (hk : m.k = 6) :
    Calls Try.prog 23 #[.agg #[.int .i64 m.k, .int .i64 m.f, .int .i64 m.v, .int .i64 m.i, .int .i64 m.q, .int .i64 m.r, vb, vo, vc, vp], .int .i64 f, .int .i64 cl] w fun e w' => e = .returned (.bool (Psp.formM m f cl)) ∧ Below w.heap.size w w' := by
  obtain ⟨Ab, Ao, Ac, Ap, cb, co, cc, cp, rfl, rfl, rfl, rfl⟩ := msg_slices hx
  have HX := Lib.hid hx
  have Hw := Lib.hid hw
  obtain ⟨nn, hnn⟩ : ∃ q, Psp.nodes f = q := ⟨_, rfl⟩
  have hq0 : (nn == 0) = false := by rw [← hnn, may_zero, hf]; rfl
  have HN : Hid (∀ W : World, Calls Try.prog 64 #[.int .i64 f] W fun e w' => e = .returned (.int .i64 nn) ∧ W = w') := Lib.hid fun W => by rw [← hnn]; exact r_nodes_any f W
  obtain ⟨hn0, hn1⟩ := Psp.nodes_bd f
  rw [hnn] at hn0 hn1
  obtain ⟨g0, hg0⟩ : ∃ x, decide (m.f < 0) = x := ⟨_, rfl⟩
  obtain ⟨g1, hg1⟩ : ∃ x, decide (m.f ≥ nn) = x := ⟨_, rfl⟩
  have hnb : Psp.nodeB m.f f = (!g0 && !g1) := by unfold Psp.nodeB; rw [hnn, ← hg0, ← hg1, Bool.eq_iff_iff, Psp.win_iff]; simp; omega
  obtain ⟨t0, ht0⟩ : ∃ x, blankB true false false false false false false false m.v m.i m.q m.r m.b.length m.o.length m.c.length m.p.length = x := ⟨_, rfl⟩
  obtain ⟨t1, ht1⟩ : ∃ x, decide (m.v ≥ 0) = x := ⟨_, rfl⟩
  obtain ⟨t2, ht2⟩ : ∃ x, decide (m.v < 12) = x := ⟨_, rfl⟩
  have Hres : Hid (Psp.formM m f cl = ((!g0 && !g1) && (t0 && (t1 && (t2))))) := Lib.hid (by
    unfold Psp.formM
    rw [hf, Bool.true_and, ← hnb, hk]
    simp only [Int.reduceEq, if_false, if_true, true_or, or_true]
    congr 1
    rw [← ht0, ← ht1, ← ht2]
    simp only [Psp.noB, Psp.bareB, blankB, Psp.win, Psp.batchB, List.all_cons, List.all_nil, Bool.false_or, Bool.true_or, Bool.true_and, Bool.and_true]
    first
      | rfl
      | (rw [Bool.eq_iff_iff]; simp [and_assoc]; omega)
      | (rw [Bool.eq_iff_iff]; simp [and_assoc, and_left_comm, and_comm]; try omega))
  have Ht0 := Lib.hid ht0
  clear hx hw hnn hf hnb ht0
  have Hk := Lib.hid hk
  rw [hk]
  have HL0 := Lib.hid (Mk.new w #[.int .i64 6, .int .i64 m.f, .int .i64 m.v, .int .i64 m.i, .int .i64 m.q, .int .i64 m.r, .slice Ab m.b.length cb, .slice Ao m.o.length co, .slice Ac m.c.length cc, .slice Ap m.p.length cp])
  go_enter Try.func23, Try.ntmps23
  go_wp2_with fail
  obtain ⟨W0, hW0⟩ : ∃ W, w.alloc (.cells #[.int .i64 6, .int .i64 m.f, .int .i64 m.v, .int .i64 m.i, .int .i64 m.q, .int .i64 m.r, .slice Ab m.b.length cb, .slice Ao m.o.length co, .slice Ac m.c.length cc, .slice Ap m.p.length cp] 27) = W := ⟨_, rfl⟩
  rw [hW0] at HL0 ⊢
  clear hW0 hk
  refine (HN.out _).mono ?_
  rintro e w' ⟨rfl, rfl⟩
  have y0 : W0.cell? ⟨w.heap.size, 0, none⟩ = some (.int .i64 6) := HL0.out.cell (j := 0) rfl
  go_wp2_with fail
  have y1 := later_cell (show W0.cell? ⟨w.heap.size, 1, none⟩ = some (.int .i64 m.f) from HL0.out.cell (j := 1) rfl)
  have HNp : Hid (∀ p : Later W0, Calls Try.prog 64 #[.int .i64 f] p.W fun e w' => e = .returned (.int .i64 nn) ∧ p.W = w') := Lib.hid fun p => HN.out _
  cases g0 with
  | true =>
    refine wp_region_later (by kernel_rfl) (by kernel_rfl) ?_
    repeat (first | go_big_quiet_step ((go_at_call 64; exact later_same _ (HNp.out _))) | quiet_step ((go_at_call 64; exact later_same _ (HNp.out _))))
    refine wpQuiet_nil ?_
    intro w2 hw'
    obtain ⟨⟨wq, hbq⟩, hw'⟩ := hw'
    have hb2 : Below W0.heap.size W0 w2 := by rw [hw']; exact hbq
    clear hw' hbq
    have HL1 := Lib.hid (HL0.out.below hb2)
    clear hb2 y0 y1
    have y0 : w2.cell? ⟨w.heap.size, 0, none⟩ = some (.int .i64 6) := HL1.out.cell (j := 0) rfl
    go_wp2_with fail
    go_ret
    exact ⟨by rw [Hres.out]; rfl, HL1.out.be⟩
  | false =>
   cases g1 with
   | true =>
    refine wp_region_later (by kernel_rfl) (by kernel_rfl) ?_
    repeat (first | go_big_quiet_step ((go_at_call 64; exact later_same _ (HNp.out _))) | quiet_step ((go_at_call 64; exact later_same _ (HNp.out _))))
    refine wpQuiet_nil ?_
    intro w2 hw'
    obtain ⟨⟨wq, hbq⟩, hw'⟩ := hw'
    have hb2 : Below W0.heap.size W0 w2 := by rw [hw']; exact hbq
    clear hw' hbq
    have HL1 := Lib.hid (HL0.out.below hb2)
    clear hb2 y0 y1
    have y0 : w2.cell? ⟨w.heap.size, 0, none⟩ = some (.int .i64 6) := HL1.out.cell (j := 0) rfl
    go_wp2_with fail
    go_ret
    exact ⟨by rw [Hres.out]; rfl, HL1.out.be⟩
   | false =>
    refine wp_region_later (by kernel_rfl) (by kernel_rfl) ?_
    repeat (first | go_big_quiet_step ((go_at_call 64; exact later_same _ (HNp.out _))) | quiet_step ((go_at_call 64; exact later_same _ (HNp.out _))))
    refine wpQuiet_nil ?_
    intro w2 hw'
    obtain ⟨⟨wq, hbq⟩, hw'⟩ := hw'
    have hb2 : Below W0.heap.size W0 w2 := by rw [hw']; exact hbq
    clear hw' hbq
    have HL1 := Lib.hid (HL0.out.below hb2)
    clear hb2 y0 y1
    have y0 : w2.cell? ⟨w.heap.size, 0, none⟩ = some (.int .i64 6) := HL1.out.cell (j := 0) rfl
    have y1 : w2.cell? ⟨w.heap.size, 1, none⟩ = some (.int .i64 m.f) := HL1.out.cell (j := 1) rfl
    have y2 : w2.cell? ⟨w.heap.size, 2, none⟩ = some (.int .i64 m.v) := HL1.out.cell (j := 2) rfl
    have y3 : w2.cell? ⟨w.heap.size, 3, none⟩ = some (.int .i64 m.i) := HL1.out.cell (j := 3) rfl
    have y4 : w2.cell? ⟨w.heap.size, 4, none⟩ = some (.int .i64 m.q) := HL1.out.cell (j := 4) rfl
    have y5 : w2.cell? ⟨w.heap.size, 5, none⟩ = some (.int .i64 m.r) := HL1.out.cell (j := 5) rfl
    have y6 : w2.cell? ⟨w.heap.size, 6, none⟩ = some (.slice Ab m.b.length cb) := HL1.out.cell (j := 6) rfl
    have y7 : w2.cell? ⟨w.heap.size, 7, none⟩ = some (.slice Ao m.o.length co) := HL1.out.cell (j := 7) rfl
    have y8 : w2.cell? ⟨w.heap.size, 8, none⟩ = some (.slice Ac m.c.length cc) := HL1.out.cell (j := 8) rfl
    have y9 : w2.cell? ⟨w.heap.size, 9, none⟩ = some (.slice Ap m.p.length cp) := HL1.out.cell (j := 9) rfl
    go_wp2_with fail
    clear y0 y1 y2 y3 y4 y5 y6 y7 y8 y9
    refine (blank_v _ _ _ _ _ _ _ _ _ _ _ _ _ _ _ _ _ _ w2).mono ?_
    rw [Ht0.out]
    rintro e v0 ⟨rfl, hb⟩
    have HV0 := Lib.hid (HL1.out.below hb)
    clear hb
    have y0 : v0.cell? ⟨w.heap.size, 0, none⟩ = some (.int .i64 6) := HV0.out.cell (j := 0) rfl
    have y1 : v0.cell? ⟨w.heap.size, 1, none⟩ = some (.int .i64 m.f) := HV0.out.cell (j := 1) rfl
    have y2 : v0.cell? ⟨w.heap.size, 2, none⟩ = some (.int .i64 m.v) := HV0.out.cell (j := 2) rfl
    have y3 : v0.cell? ⟨w.heap.size, 3, none⟩ = some (.int .i64 m.i) := HV0.out.cell (j := 3) rfl
    have y4 : v0.cell? ⟨w.heap.size, 4, none⟩ = some (.int .i64 m.q) := HV0.out.cell (j := 4) rfl
    have y5 : v0.cell? ⟨w.heap.size, 5, none⟩ = some (.int .i64 m.r) := HV0.out.cell (j := 5) rfl
    have y6 : v0.cell? ⟨w.heap.size, 6, none⟩ = some (.slice Ab m.b.length cb) := HV0.out.cell (j := 6) rfl
    have y7 : v0.cell? ⟨w.heap.size, 7, none⟩ = some (.slice Ao m.o.length co) := HV0.out.cell (j := 7) rfl
    have y8 : v0.cell? ⟨w.heap.size, 8, none⟩ = some (.slice Ac m.c.length cc) := HV0.out.cell (j := 8) rfl
    have y9 : v0.cell? ⟨w.heap.size, 9, none⟩ = some (.slice Ap m.p.length cp) := HV0.out.cell (j := 9) rfl
    cases t0 with
    | false =>
      go_wp2_with fail
      go_ret
      exact ⟨by rw [Hres.out]; rfl, HV0.out.be⟩
    | true =>
      cases t1 with
      | false =>
        go_wp2_with fail
        go_ret
        exact ⟨by rw [Hres.out]; rfl, HV0.out.be⟩
      | true =>
        cases t2 with
        | false =>
          go_wp2_with fail
          go_ret
          exact ⟨by rw [Hres.out]; rfl, HV0.out.be⟩
        | true =>
          go_wp2_with fail
          go_ret
          exact ⟨by rw [Hres.out]; rfl, HV0.out.be⟩
end Go.Proofs.Ytljfoajhobambaa

end

section
/- The reference's Form, a message of kind 7. Printed by gen_rk.py. -/
namespace Go.Proofs.Ytljfoajhobambaa
open Go.RowKit
set_option linter.unusedVariables false
set_option linter.unusedSimpArgs false

set_option maxRecDepth 100000 in
set_option maxHeartbeats 16000000 in
theorem rform_7 (m : Psp.Msg) (vb vo vc vp : Value) (f cl : Int) (w : World) (P : Nat → Prop) (hx : MsgOk w P ⟨m, vb, vo, vc, vp⟩) (hw : wfMsg m) (hf : Psp.may f = true) (hk : m.k = 7) :
    Calls Try.prog 23 #[.agg #[.int .i64 m.k, .int .i64 m.f, .int .i64 m.v, .int .i64 m.i, .int .i64 m.q, .int .i64 m.r, vb, vo, vc, vp], .int .i64 f, .int .i64 cl] w fun e w' => e = .returned (.bool (Psp.formM m f cl)) ∧ Below w.heap.size w w' := by
  obtain ⟨Ab, Ao, Ac, Ap, cb, co, cc, cp, rfl, rfl, rfl, rfl⟩ := msg_slices hx
  have HX := Lib.hid hx
  have Hw := Lib.hid hw
  obtain ⟨nn, hnn⟩ : ∃ q, Psp.nodes f = q := ⟨_, rfl⟩
  have hq0 : (nn == 0) = false := by rw [← hnn, may_zero, hf]; rfl
  have HN : Hid (∀ W : World, Calls Try.prog 64 #[.int .i64 f] W fun e w' => e = .returned (.int .i64 nn) ∧ W = w') := Lib.hid fun W => by rw [← hnn]; exact r_nodes_any f W
  obtain ⟨hn0, hn1⟩ := Psp.nodes_bd f
  rw [hnn] at hn0 hn1
  obtain ⟨g0, hg0⟩ : ∃ x, decide (m.f < 0) = x := ⟨_, rfl⟩
  obtain ⟨g1, hg1⟩ : ∃ x, decide (m.f ≥ nn) = x := ⟨_, rfl⟩
  have hnb : Psp.nodeB m.f f = (!g0 && !g1) := by unfold Psp.nodeB; rw [hnn, ← hg0, ← hg1, Bool.eq_iff_iff, Psp.win_iff]; simp; omega
  obtain ⟨t0, ht0⟩ : ∃ x, blankB true false false false false true true false m.v m.i m.q m.r m.b.length m.o.length m.c.length m.p.length = x := ⟨_, rfl⟩
  obtain ⟨t1, ht1⟩ : ∃ x, Psp.changeB m.v m.o m.c f cl = x := ⟨_, rfl⟩
  have Hres : Hid (Psp.formM m f cl = ((!g0 && !g1) && (t0 && (t1)))) := Lib.hid (by
    unfold Psp.formM
    rw [hf, Bool.true_and, ← hnb, hk]
    simp only [Int.reduceEq, if_false, if_true, true_or, or_true]
    congr 1
    rw [← ht0, ← ht1]
    simp only [Psp.noB, Psp.bareB, blankB, Psp.win, Psp.batchB, List.all_cons, List.all_nil, Bool.false_or, Bool.true_or, Bool.true_and, Bool.and_true]
    first
      | rfl
      | (rw [Bool.eq_iff_iff]; simp [and_assoc]; omega)
      | (rw [Bool.eq_iff_iff]; simp [and_assoc, and_left_comm, and_comm]; try omega))
  have Ht0 := Lib.hid ht0
  have Ht1 := Lib.hid ht1
  clear hx hw hnn hf hnb ht0 ht1
  have Hk := Lib.hid hk
  rw [hk]
  have HL0 := Lib.hid (Mk.new w #[.int .i64 7, .int .i64 m.f, .int .i64 m.v, .int .i64 m.i, .int .i64 m.q, .int .i64 m.r, .slice Ab m.b.length cb, .slice Ao m.o.length co, .slice Ac m.c.length cc, .slice Ap m.p.length cp])
  go_enter Try.func23, Try.ntmps23
  go_wp2_with fail
  obtain ⟨W0, hW0⟩ : ∃ W, w.alloc (.cells #[.int .i64 7, .int .i64 m.f, .int .i64 m.v, .int .i64 m.i, .int .i64 m.q, .int .i64 m.r, .slice Ab m.b.length cb, .slice Ao m.o.length co, .slice Ac m.c.length cc, .slice Ap m.p.length cp] 27) = W := ⟨_, rfl⟩
  rw [hW0] at HL0 ⊢
  clear hW0 hk
  refine (HN.out _).mono ?_
  rintro e w' ⟨rfl, rfl⟩
  have y0 : W0.cell? ⟨w.heap.size, 0, none⟩ = some (.int .i64 7) := HL0.out.cell (j := 0) rfl
  go_wp2_with fail
  have y1 := later_cell (show W0.cell? ⟨w.heap.size, 1, none⟩ = some (.int .i64 m.f) from HL0.out.cell (j := 1) rfl)
  have HNp : Hid (∀ p : Later W0, Calls Try.prog 64 #[.int .i64 f] p.W fun e w' => e = .returned (.int .i64 nn) ∧ p.W = w') := Lib.hid fun p => HN.out _
  cases g0 with
  | true =>
    refine wp_region_later (by kernel_rfl) (by kernel_rfl) ?_
    repeat (first | go_big_quiet_step ((go_at_call 64; exact later_same _ (HNp.out _))) | quiet_step ((go_at_call 64; exact later_same _ (HNp.out _))))
    refine wpQuiet_nil ?_
    intro w2 hw'
    obtain ⟨⟨wq, hbq⟩, hw'⟩ := hw'
    have hb2 : Below W0.heap.size W0 w2 := by rw [hw']; exact hbq
    clear hw' hbq
    have HL1 := Lib.hid (HL0.out.below hb2)
    clear hb2 y0 y1
    have y0 : w2.cell? ⟨w.heap.size, 0, none⟩ = some (.int .i64 7) := HL1.out.cell (j := 0) rfl
    go_wp2_with fail
    go_ret
    exact ⟨by rw [Hres.out]; rfl, HL1.out.be⟩
  | false =>
   cases g1 with
   | true =>
    refine wp_region_later (by kernel_rfl) (by kernel_rfl) ?_
    repeat (first | go_big_quiet_step ((go_at_call 64; exact later_same _ (HNp.out _))) | quiet_step ((go_at_call 64; exact later_same _ (HNp.out _))))
    refine wpQuiet_nil ?_
    intro w2 hw'
    obtain ⟨⟨wq, hbq⟩, hw'⟩ := hw'
    have hb2 : Below W0.heap.size W0 w2 := by rw [hw']; exact hbq
    clear hw' hbq
    have HL1 := Lib.hid (HL0.out.below hb2)
    clear hb2 y0 y1
    have y0 : w2.cell? ⟨w.heap.size, 0, none⟩ = some (.int .i64 7) := HL1.out.cell (j := 0) rfl
    go_wp2_with fail
    go_ret
    exact ⟨by rw [Hres.out]; rfl, HL1.out.be⟩
   | false =>
    refine wp_region_later (by kernel_rfl) (by kernel_rfl) ?_
    repeat (first | go_big_quiet_step ((go_at_call 64; exact later_same _ (HNp.out _))) | quiet_step ((go_at_call 64; exact later_same _ (HNp.out _))))
    refine wpQuiet_nil ?_
    intro w2 hw'
    obtain ⟨⟨wq, hbq⟩, hw'⟩ := hw'
    have hb2 : Below W0.heap.size W0 w2 := by rw [hw']; exact hbq
    clear hw' hbq
    have HL1 := Lib.hid (HL0.out.below hb2)
    clear hb2 y0 y1
    have y0 : w2.cell? ⟨w.heap.size, 0, none⟩ = some (.int .i64 7) := HL1.out.cell (j := 0) rfl
    have y1 : w2.cell? ⟨w.heap.size, 1, none⟩ = some (.int .i64 m.f) := HL1.out.cell (j := 1) rfl
    have y2 : w2.cell? ⟨w.heap.size, 2, none⟩ = some (.int .i64 m.v) := HL1.out.cell (j := 2) rfl
    have y3 : w2.cell? ⟨w.heap.size, 3, none⟩ = some (.int .i64 m.i) := HL1.out.cell (j := 3) rfl
    have y4 : w2.cell? ⟨w.heap.size, 4, none⟩ = some (.int .i64 m.q) := HL1.out.cell (j := 4) rfl
    have y5 : w2.cell? ⟨w.heap.size, 5, none⟩ = some (.int .i64 m.r) := HL1.out.cell (j := 5) rfl
    have y6 : w2.cell? ⟨w.heap.size, 6, none⟩ = some (.slice Ab m.b.length cb) := HL1.out.cell (j := 6) rfl
    have y7 : w2.cell? ⟨w.heap.size, 7, none⟩ = some (.slice Ao m.o.length co) := HL1.out.cell (j := 7) rfl
    have y8 : w2.cell? ⟨w.heap.size, 8, none⟩ = some (.slice Ac m.c.length cc) := HL1.out.cell (j := 8) rfl
    have y9 : w2.cell? ⟨w.heap.size, 9, none⟩ = some (.slice Ap m.p.length cp) := HL1.out.cell (j := 9) rfl
    go_wp2_with fail
    clear y0 y1 y2 y3 y4 y5 y6 y7 y8 y9
    refine (blank_voc _ _ _ _ _ _ _ _ _ _ _ _ _ _ _ _ _ _ w2).mono ?_
    rw [Ht0.out]
    rintro e v0 ⟨rfl, hb⟩
    have HV0 := Lib.hid (HL1.out.below hb)
    clear hb
    have y0 : v0.cell? ⟨w.heap.size, 0, none⟩ = some (.int .i64 7) := HV0.out.cell (j := 0) rfl
    have y1 : v0.cell? ⟨w.heap.size, 1, none⟩ = some (.int .i64 m.f) := HV0.out.cell (j := 1) rfl
    have y2 : v0.cell? ⟨w.heap.size, 2, none⟩ = some (.int .i64 m.v) := HV0.out.cell (j := 2) rfl
    have y3 : v0.cell? ⟨w.heap.size, 3, none⟩ = some (.int .i64 m.i) := HV0.out.cell (j := 3) rfl
    have y4 : v0.cell? ⟨w.heap.size, 4, none⟩ = some (.int .i64 m.q) := HV0.out.cell (j := 4) rfl
    have y5 : v0.cell? ⟨w.heap.size, 5, none⟩ = some (.int .i64 m.r) := HV0.out.cell (j := 5) rfl
    have y6 : v0.cell? ⟨w.heap.size, 6, none⟩ = some (.slice Ab m.b.length cb) := HV0.out.cell (j := 6) rfl
    have y7 : v0.cell? ⟨w.heap.size, 7, none⟩ = some (.slice Ao m.o.length co) := HV0.out.cell (j := 7) rfl
    have y8 : v0.cell? ⟨w.heap.size, 8, none⟩ = some (.slice Ac m.c.length cc) := HV0.out.cell (j := 8) rfl
    have y9 : v0.cell? ⟨w.heap.size, 9, none⟩ = some (.slice Ap m.p.length cp) := HV0.out.cell (j := 9) rfl
    cases t0 with
    | false =>
      go_wp2_with fail
      go_ret
      exact ⟨by rw [Hres.out]; rfl, HV0.out.be⟩
    | true =>
      go_wp2_with fail
      clear y0 y1 y2 y3 y4 y5 y6 y7 y8 y9
      refine (rchange_l m.v m.o m.c _ _ f cl v0 P (RdV.keeps' HX.out.2.1 (Keeps.below HV0.out.be)) (HX.out.2.2.1.keeps (Keeps.below HV0.out.be)) Hw.out.2.2.2.2.2.2.2.1 Hw.out.2.2.2.2.2.2.2.2.1).mono ?_
      rw [Ht1.out]
      rintro e v1 ⟨rfl, hb⟩
      have HV1 := Lib.hid (HV0.out.below hb)
      clear hb
      have y0 : v1.cell? ⟨w.heap.size, 0, none⟩ = some (.int .i64 7) := HV1.out.cell (j := 0) rfl
      have y1 : v1.cell? ⟨w.heap.size, 1, none⟩ = some (.int .i64 m.f) := HV1.out.cell (j := 1) rfl
      have y2 : v1.cell? ⟨w.heap.size, 2, none⟩ = some (.int .i64 m.v) := HV1.out.cell (j := 2) rfl
      have y3 : v1.cell? ⟨w.heap.size, 3, none⟩ = some (.int .i64 m.i) := HV1.out.cell (j := 3) rfl
      have y4 : v1.cell? ⟨w.heap.size, 4, none⟩ = some (.int .i64 m.q) := HV1.out.cell (j := 4) rfl
      have y5 : v1.cell? ⟨w.heap.size, 5, none⟩ = some (.int .i64 m.r) := HV1.out.cell (j := 5) rfl
      have y6 : v1.cell? ⟨w.heap.size, 6, none⟩ = some (.slice Ab m.b.length cb) := HV1.out.cell (j := 6) rfl
      have y7 : v1.cell? ⟨w.heap.size, 7, none⟩ = some (.slice Ao m.o.length co) := HV1.out.cell (j := 7) rfl
      have y8 : v1.cell? ⟨w.heap.size, 8, none⟩ = some (.slice Ac m.c.length cc) := HV1.out.cell (j := 8) rfl
      have y9 : v1.cell? ⟨w.heap.size, 9, none⟩ = some (.slice Ap m.p.length cp) := HV1.out.cell (j := 9) rfl
      cases t1 with
      | false =>
        go_wp2_with fail
        go_ret
        exact ⟨by rw [Hres.out]; rfl, HV1.out.be⟩
      | true =>
        go_wp2_with fail
        go_ret
        exact ⟨by rw [Hres.out]; rfl, HV1.out.be⟩
end Go.Proofs.Ytljfoajhobambaa

end

section
/- The reference's Form, a message of kind 8. Printed by gen_rk.py. -/
namespace Go.Proofs.Ytljfoajhobambaa
open Go.RowKit
set_option linter.unusedVariables false
set_option linter.unusedSimpArgs false

set_option maxRecDepth 100000 in
set_option maxHeartbeats 16000000 in
theorem rform_8 (m : Psp.Msg) (vb vo vc vp : Value) (f cl : Int) (w : World) (P : Nat → Prop) (hx : MsgOk w P ⟨m, vb, vo, vc, vp⟩) (hw : wfMsg m) (hf : Psp.may f = true) (hk : m.k = 8) :
    Calls Try.prog 23 #[.agg #[.int .i64 m.k, .int .i64 m.f, .int .i64 m.v, .int .i64 m.i, .int .i64 m.q, .int .i64 m.r, vb, vo, vc, vp], .int .i64 f, .int .i64 cl] w fun e w' => e = .returned (.bool (Psp.formM m f cl)) ∧ Below w.heap.size w w' := by
  obtain ⟨Ab, Ao, Ac, Ap, cb, co, cc, cp, rfl, rfl, rfl, rfl⟩ := msg_slices hx
  have HX := Lib.hid hx
  have Hw := Lib.hid hw
  obtain ⟨nn, hnn⟩ : ∃ q, Psp.nodes f = q := ⟨_, rfl⟩
  have hq0 : (nn == 0) = false := by rw [← hnn, may_zero, hf]; rfl
  have HN : Hid (∀ W : World, Calls Try.prog 64 #[.int .i64 f] W fun e w' => e = .returned (.int .i64 nn) ∧ W = w') := Lib.hid fun W => by rw [← hnn]; exact r_nodes_any f W
  obtain ⟨hn0, hn1⟩ := Psp.nodes_bd f
  rw [hnn] at hn0 hn1
  obtain ⟨g0, hg0⟩ : ∃ x, decide (m.f < 0) = x := ⟨_, rfl⟩
  obtain ⟨g1, hg1⟩ : ∃ x, decide (m.f ≥ nn) = x := ⟨_, rfl⟩
  have hnb : Psp.nodeB m.f f = (!g0 && !g1) := by unfold Psp.nodeB; rw [hnn, ← hg0, ← hg1, Bool.eq_iff_iff, Psp.win_iff]; simp; omega
  obtain ⟨t0, ht0⟩ : ∃ x, blankB true true false false false false false true m.v m.i m.q m.r m.b.length m.o.length m.c.length m.p.length = x := ⟨_, rfl⟩
  obtain ⟨t1, ht1⟩ : ∃ x, decide (m.v ≥ 1) = x := ⟨_, rfl⟩
  obtain ⟨t2, ht2⟩ : ∃ x, decide (m.v ≤ 12) = x := ⟨_, rfl⟩
  obtain ⟨t3, ht3⟩ : ∃ x, decide (m.i ≥ 0) = x := ⟨_, rfl⟩
  obtain ⟨t4, ht4⟩ : ∃ x, decide (m.i ≤ f) = x := ⟨_, rfl⟩
  obtain ⟨t5, ht5⟩ : ∃ x, (m.f == Psp.primary f m.v m.i) = x := ⟨_, rfl⟩
  obtain ⟨t6, ht6⟩ : ∃ x, Psp.partsB m.v m.p f cl = x := ⟨_, rfl⟩
  have Hres : Hid (Psp.formM m f cl = ((!g0 && !g1) && (t0 && (t1 && (t2 && (t3 && (t4 && (t5 && (t6))))))))) := Lib.hid (by
    unfold Psp.formM
    rw [hf, Bool.true_and, ← hnb, hk]
    simp only [Int.reduceEq, if_false, if_true, true_or, or_true]
    congr 1
    rw [← ht0, ← ht1, ← ht2, ← ht3, ← ht4, ← ht5, ← ht6]
    simp only [Psp.noB, Psp.bareB, blankB, Psp.win, Psp.batchB, List.all_cons, List.all_nil, Bool.false_or, Bool.true_or, Bool.true_and, Bool.and_true]
    first
      | rfl
      | (rw [Bool.eq_iff_iff]; simp [and_assoc]; omega)
      | (rw [Bool.eq_iff_iff]; simp [and_assoc, and_left_comm, and_comm]; try omega))
  have Ht0 := Lib.hid ht0
  have Ht6 := Lib.hid ht6
  clear hx hw hnn hf hnb ht0 ht6
  obtain ⟨pr, hpr⟩ : ∃ x, Psp.primary f m.v m.i = x := ⟨_, rfl⟩
  have HPr : Hid (∀ W : World, Calls Try.prog 69 #[.int .i64 f, .int .i64 m.v, .int .i64 m.i] W fun e w' => e = .returned (.int .i64 pr) ∧ W = w') := Lib.hid fun W => by rw [← hpr]; exact r_primary_any f m.v m.i W Hw.out.2.2.1.1 Hw.out.2.2.1.2 Hw.out.2.2.2.1.1 Hw.out.2.2.2.1.2
  rw [hpr] at ht5
  clear hpr
  have Hk := Lib.hid hk
  rw [hk]
  have HL0 := Lib.hid (Mk.new w #[.int .i64 8, .int .i64 m.f, .int .i64 m.v, .int .i64 m.i, .int .i64 m.q, .int .i64 m.r, .slice Ab m.b.length cb, .slice Ao m.o.length co, .slice Ac m.c.length cc, .slice Ap m.p.length cp])
  go_enter Try.func23, Try.ntmps23
  go_wp2_with fail
  obtain ⟨W0, hW0⟩ : ∃ W, w.alloc (.cells #[.int .i64 8, .int .i64 m.f, .int .i64 m.v, .int .i64 m.i, .int .i64 m.q, .int .i64 m.r, .slice Ab m.b.length cb, .slice Ao m.o.length co, .slice Ac m.c.length cc, .slice Ap m.p.length cp] 27) = W := ⟨_, rfl⟩
  rw [hW0] at HL0 ⊢
  clear hW0 hk
  refine (HN.out _).mono ?_
  rintro e w' ⟨rfl, rfl⟩
  have y0 : W0.cell? ⟨w.heap.size, 0, none⟩ = some (.int .i64 8) := HL0.out.cell (j := 0) rfl
  go_wp2_with fail
  have y1 := later_cell (show W0.cell? ⟨w.heap.size, 1, none⟩ = some (.int .i64 m.f) from HL0.out.cell (j := 1) rfl)
  have HNp : Hid (∀ p : Later W0, Calls Try.prog 64 #[.int .i64 f] p.W fun e w' => e = .returned (.int .i64 nn) ∧ p.W = w') := Lib.hid fun p => HN.out _
  cases g0 with
  | true =>
    refine wp_region_later (by kernel_rfl) (by kernel_rfl) ?_
    repeat (first | go_big_quiet_step ((go_at_call 64; exact later_same _ (HNp.out _))) | quiet_step ((go_at_call 64; exact later_same _ (HNp.out _))))
    refine wpQuiet_nil ?_
    intro w2 hw'
    obtain ⟨⟨wq, hbq⟩, hw'⟩ := hw'
    have hb2 : Below W0.heap.size W0 w2 := by rw [hw']; exact hbq
    clear hw' hbq
    have HL1 := Lib.hid (HL0.out.below hb2)
    clear hb2 y0 y1
    have y0 : w2.cell? ⟨w.heap.size, 0, none⟩ = some (.int .i64 8) := HL1.out.cell (j := 0) rfl
    go_wp2_with fail
    go_ret
    exact ⟨by rw [Hres.out]; rfl, HL1.out.be⟩
  | false =>
   cases g1 with
   | true =>
    refine wp_region_later (by kernel_rfl) (by kernel_rfl) ?_
    repeat (first | go_big_quiet_step ((go_at_call 64; exact later_same _ (HNp.out _))) | quiet_step ((go_at_call 64; exact later_same _ (HNp.out _))))
    refine wpQuiet_nil ?_
    intro w2 hw'
    obtain ⟨⟨wq, hbq⟩, hw'⟩ := hw'
    have hb2 : Below W0.heap.size W0 w2 := by rw [hw']; exact hbq
    clear hw' hbq
    have HL1 := Lib.hid (HL0.out.below hb2)
    clear hb2 y0 y1
    have y0 : w2.cell? ⟨w.heap.size, 0, none⟩ = some (.int .i64 8) := HL1.out.cell (j := 0) rfl
    go_wp2_with fail
    go_ret
    exact ⟨by rw [Hres.out]; rfl, HL1.out.be⟩
   | false =>
    refine wp_region_later (by kernel_rfl) (by kernel_rfl) ?_
    repeat (first | go_big_quiet_step ((go_at_call 64; exact later_same _ (HNp.out _))) | quiet_step ((go_at_call 64; exact later_same _ (HNp.out _))))
    refine wpQuiet_nil ?_
    intro w2 hw'
    obtain ⟨⟨wq, hbq⟩, hw'⟩ := hw'
    have hb2 : Below W0.heap.size W0 w2 := by rw [hw']; exact hbq
    clear hw' hbq
    have HL1 := Lib.hid (HL0.out.below hb2)
    clear hb2 y0 y1
    have y0 : w2.cell? ⟨w.heap.size, 0, none⟩ = some (.int .i64 8) := HL1.out.cell (j := 0) rfl
    go_wp2_with fail
    clear y0
    have HC0 : Hid (∀ p : Later w2, Calls Try.prog 65 #[.agg #[.int .i64 8, .int .i64 m.f, .int .i64 m.v, .int .i64 m.i, .int .i64 m.q, .int .i64 m.r, .slice Ab m.b.length cb, .slice Ao m.o.length co, .slice Ac m.c.length cc, .slice Ap m.p.length cp], .string { data := #[118, 105, 112] }] p.W fun e w' => e = .returned (.bool t0) ∧ Below p.W.heap.size p.W w') := Lib.hid fun p => by rw [← Ht0.out]; have hhk := Hk.out; rw [← hhk]; exact blank_vip _ _ _ _ _ _ _ _ _ _ _ _ _ _ _ _ _ _ p.W
    have HC6 : Hid (∀ p : Later w2, Calls Try.prog 71 #[.agg #[.int .i64 8, .int .i64 m.f, .int .i64 m.v, .int .i64 m.i, .int .i64 m.q, .int .i64 m.r, .slice Ab m.b.length cb, .slice Ao m.o.length co, .slice Ac m.c.length cc, .slice Ap m.p.length cp], .int .i64 f, .int .i64 cl] p.W fun e w' => e = .returned (.bool t6) ∧ Below p.W.heap.size p.W w') := Lib.hid fun p => by rw [← Ht6.out]; have hhk := Hk.out; rw [← hhk]; exact rparts_l m _ _ _ _ f cl p.W P (HX.out.keeps (Keeps.below (HL1.out.below p.h).be)) Hw.out.2.2.2.2.2.2.2.2.2
    have HCp : Hid (∀ p : Later w2, Calls Try.prog 69 #[.int .i64 f, .int .i64 m.v, .int .i64 m.i] p.W fun e w' => e = .returned (.int .i64 pr) ∧ p.W = w') := Lib.hid fun p => HPr.out _
    have HRM : Hid (∀ w' : World, (∃ p : Later w2, w' = p.W) → w'.rangeAt w.heap.size 0 [.int .i64 8, .int .i64 m.f, .int .i64 m.v, .int .i64 m.i, .int .i64 m.q, .int .i64 m.r, .slice Ab m.b.length cb, .slice Ao m.o.length co, .slice Ac m.c.length cc, .slice Ap m.p.length cp]) := Lib.hid (by rintro w' ⟨p, rfl⟩; exact range_of_row (HL1.out.below p.h).box)
    have y1 := later_cell (show w2.cell? ⟨w.heap.size, 1, none⟩ = some (.int .i64 m.f) from HL1.out.cell (j := 1) rfl)
    have y2 := later_cell (show w2.cell? ⟨w.heap.size, 2, none⟩ = some (.int .i64 m.v) from HL1.out.cell (j := 2) rfl)
    have y3 := later_cell (show w2.cell? ⟨w.heap.size, 3, none⟩ = some (.int .i64 m.i) from HL1.out.cell (j := 3) rfl)
    have y4 := later_cell (show w2.cell? ⟨w.heap.size, 4, none⟩ = some (.int .i64 m.q) from HL1.out.cell (j := 4) rfl)
    have y5 := later_cell (show w2.cell? ⟨w.heap.size, 5, none⟩ = some (.int .i64 m.r) from HL1.out.cell (j := 5) rfl)
    have y6 := later_cell (show w2.cell? ⟨w.heap.size, 6, none⟩ = some (.slice Ab m.b.length cb) from HL1.out.cell (j := 6) rfl)
    have y7 := later_cell (show w2.cell? ⟨w.heap.size, 7, none⟩ = some (.slice Ao m.o.length co) from HL1.out.cell (j := 7) rfl)
    have y8 := later_cell (show w2.cell? ⟨w.heap.size, 8, none⟩ = some (.slice Ac m.c.length cc) from HL1.out.cell (j := 8) rfl)
    have y9 := later_cell (show w2.cell? ⟨w.heap.size, 9, none⟩ = some (.slice Ap m.p.length cp) from HL1.out.cell (j := 9) rfl)
    cases t0 with
    | false =>
      refine wp_region_later (by kernel_rfl) (by kernel_rfl) ?_
      repeat (first | go_big_quiet_step (first | (go_at_call 65; exact later_call _ (HC0.out _)) | (go_at_call 71; exact later_call _ (HC6.out _)) | (go_at_call 69; exact later_same _ (HCp.out _))) | (refine quiet_load (by simp [Region.wanted, yielded]) 27 (.tmp 3) (by rfl) w.heap.size (0) (by rfl) [.int .i64 8, .int .i64 m.f, .int .i64 m.v, .int .i64 m.i, .int .i64 m.q, .int .i64 m.r, .slice Ab m.b.length cb, .slice Ao m.o.length co, .slice Ac m.c.length cc, .slice Ap m.p.length cp] _ HRM.out Try.underlying27 rfl sizeM ?_; intro K hK; go_simp; refine hK _ ?_; clear hK K) | quiet_step (first | (go_at_call 65; exact later_call _ (HC0.out _)) | (go_at_call 71; exact later_call _ (HC6.out _)) | (go_at_call 69; exact later_same _ (HCp.out _))))
      refine wpQuiet_nil ?_
      intro w3 hw'
      obtain ⟨⟨wq, hbq⟩, hw'⟩ := hw'
      have hb2 : Below w2.heap.size w2 w3 := by rw [hw']; exact hbq
      clear hw' hbq
      have HL2 := Lib.hid (HL1.out.below hb2)
      clear hb2
      go_wp2_with fail
      go_ret
      exact ⟨by rw [Hres.out]; rfl, HL2.out.be⟩
    | true =>
      cases t1 with
      | false =>
        refine wp_region_later (by kernel_rfl) (by kernel_rfl) ?_
        repeat (first | go_big_quiet_step (first | (go_at_call 65; exact later_call _ (HC0.out _)) | (go_at_call 71; exact later_call _ (HC6.out _)) | (go_at_call 69; exact later_same _ (HCp.out _))) | (refine quiet_load (by simp [Region.wanted, yielded]) 27 (.tmp 3) (by rfl) w.heap.size (0) (by rfl) [.int .i64 8, .int .i64 m.f, .int .i64 m.v, .int .i64 m.i, .int .i64 m.q, .int .i64 m.r, .slice Ab m.b.length cb, .slice Ao m.o.length co, .slice Ac m.c.length cc, .slice Ap m.p.length cp] _ HRM.out Try.underlying27 rfl sizeM ?_; intro K hK; go_simp; refine hK _ ?_; clear hK K) | quiet_step (first | (go_at_call 65; exact later_call _ (HC0.out _)) | (go_at_call 71; exact later_call _ (HC6.out _)) | (go_at_call 69; exact later_same _ (HCp.out _))))
        refine wpQuiet_nil ?_
        intro w3 hw'
        obtain ⟨⟨wq, hbq⟩, hw'⟩ := hw'
        have hb2 : Below w2.heap.size w2 w3 := by rw [hw']; exact hbq
        clear hw' hbq
        have HL2 := Lib.hid (HL1.out.below hb2)
        clear hb2
        go_wp2_with fail
        go_ret
        exact ⟨by rw [Hres.out]; rfl, HL2.out.be⟩
      | true =>
        cases t2 with
        | false =>
          refine wp_region_later (by kernel_rfl) (by kernel_rfl) ?_
          repeat (first | go_big_quiet_step (first | (go_at_call 65; exact later_call _ (HC0.out _)) | (go_at_call 71; exact later_call _ (HC6.out _)) | (go_at_call 69; exact later_same _ (HCp.out _))) | (refine quiet_load (by simp [Region.wanted, yielded]) 27 (.tmp 3) (by rfl) w.heap.size (0) (by rfl) [.int .i64 8, .int .i64 m.f, .int .i64 m.v, .int .i64 m.i, .int .i64 m.q, .int .i64 m.r, .slice Ab m.b.length cb, .slice Ao m.o.length co, .slice Ac m.c.length cc, .slice Ap m.p.length cp] _ HRM.out Try.underlying27 rfl sizeM ?_; intro K hK; go_simp; refine hK _ ?_; clear hK K) | quiet_step (first | (go_at_call 65; exact later_call _ (HC0.out _)) | (go_at_call 71; exact later_call _ (HC6.out _)) | (go_at_call 69; exact later_same _ (HCp.out _))))
          refine wpQuiet_nil ?_
          intro w3 hw'
          obtain ⟨⟨wq, hbq⟩, hw'⟩ := hw'
          have hb2 : Below w2.heap.size w2 w3 := by rw [hw']; exact hbq
          clear hw' hbq
          have HL2 := Lib.hid (HL1.out.below hb2)
          clear hb2
          go_wp2_with fail
          go_ret
          exact ⟨by rw [Hres.out]; rfl, HL2.out.be⟩
        | true =>
          cases t3 with
          | false =>
            refine wp_region_later (by kernel_rfl) (by kernel_rfl) ?_
            repeat (first | go_big_quiet_step (first | (go_at_call 65; exact later_call _ (HC0.out _)) | (go_at_call 71; exact later_call _ (HC6.out _)) | (go_at_call 69; exact later_same _ (HCp.out _))) | (refine quiet_load (by simp [Region.wanted, yielded]) 27 (.tmp 3) (by rfl) w.heap.size (0) (by rfl) [.int .i64 8, .int .i64 m.f, .int .i64 m.v, .int .i64 m.i, .int .i64 m.q, .int .i64 m.r, .slice Ab m.b.length cb, .slice Ao m.o.length co, .slice Ac m.c.length cc, .slice Ap m.p.length cp] _ HRM.out Try.underlying27 rfl sizeM ?_; intro K hK; go_simp; refine hK _ ?_; clear hK K) | quiet_step (first | (go_at_call 65; exact later_call _ (HC0.out _)) | (go_at_call 71; exact later_call _ (HC6.out _)) | (go_at_call 69; exact later_same _ (HCp.out _))))
            refine wpQuiet_nil ?_
            intro w3 hw'
            obtain ⟨⟨wq, hbq⟩, hw'⟩ := hw'
            have hb2 : Below w2.heap.size w2 w3 := by rw [hw']; exact hbq
            clear hw' hbq
            have HL2 := Lib.hid (HL1.out.below hb2)
            clear hb2
            go_wp2_with fail
            go_ret
            exact ⟨by rw [Hres.out]; rfl, HL2.out.be⟩
          | true =>
            cases t4 with
            | false =>
              refine wp_region_later (by kernel_rfl) (by kernel_rfl) ?_
              repeat (first | go_big_quiet_step (first | (go_at_call 65; exact later_call _ (HC0.out _)) | (go_at_call 71; exact later_call _ (HC6.out _)) | (go_at_call 69; exact later_same _ (HCp.out _))) | (refine quiet_load (by simp [Region.wanted, yielded]) 27 (.tmp 3) (by rfl) w.heap.size (0) (by rfl) [.int .i64 8, .int .i64 m.f, .int .i64 m.v, .int .i64 m.i, .int .i64 m.q, .int .i64 m.r, .slice Ab m.b.length cb, .slice Ao m.o.length co, .slice Ac m.c.length cc, .slice Ap m.p.length cp] _ HRM.out Try.underlying27 rfl sizeM ?_; intro K hK; go_simp; refine hK _ ?_; clear hK K) | quiet_step (first | (go_at_call 65; exact later_call _ (HC0.out _)) | (go_at_call 71; exact later_call _ (HC6.out _)) | (go_at_call 69; exact later_same _ (HCp.out _))))
              refine wpQuiet_nil ?_
              intro w3 hw'
              obtain ⟨⟨wq, hbq⟩, hw'⟩ := hw'
              have hb2 : Below w2.heap.size w2 w3 := by rw [hw']; exact hbq
              clear hw' hbq
              have HL2 := Lib.hid (HL1.out.below hb2)
              clear hb2
              go_wp2_with fail
              go_ret
              exact ⟨by rw [Hres.out]; rfl, HL2.out.be⟩
            | true =>
              cases t5 with
              | false =>
                refine wp_region_later (by kernel_rfl) (by kernel_rfl) ?_
                repeat (first | go_big_quiet_step (first | (go_at_call 65; exact later_call _ (HC0.out _)) | (go_at_call 71; exact later_call _ (HC6.out _)) | (go_at_call 69; exact later_same _ (HCp.out _))) | (refine quiet_load (by simp [Region.wanted, yielded]) 27 (.tmp 3) (by rfl) w.heap.size (0) (by rfl) [.int .i64 8, .int .i64 m.f, .int .i64 m.v, .int .i64 m.i, .int .i64 m.q, .int .i64 m.r, .slice Ab m.b.length cb, .slice Ao m.o.length co, .slice Ac m.c.length cc, .slice Ap m.p.length cp] _ HRM.out Try.underlying27 rfl sizeM ?_; intro K hK; go_simp; refine hK _ ?_; clear hK K) | quiet_step (first | (go_at_call 65; exact later_call _ (HC0.out _)) | (go_at_call 71; exact later_call _ (HC6.out _)) | (go_at_call 69; exact later_same _ (HCp.out _))))
                refine wpQuiet_nil ?_
                intro w3 hw'
                obtain ⟨⟨wq, hbq⟩, hw'⟩ := hw'
                have hb2 : Below w2.heap.size w2 w3 := by rw [hw']; exact hbq
                clear hw' hbq
                have HL2 := Lib.hid (HL1.out.below hb2)
                clear hb2
                go_wp2_with fail
                go_ret
                exact ⟨by rw [Hres.out]; rfl, HL2.out.be⟩
              | true =>
                cases t6 with
                | false =>
                  refine wp_region_later (by kernel_rfl) (by kernel_rfl) ?_
                  repeat (first | go_big_quiet_step (first | (go_at_call 65; exact later_call _ (HC0.out _)) | (go_at_call 71; exact later_call _ (HC6.out _)) | (go_at_call 69; exact later_same _ (HCp.out _))) | (refine quiet_load (by simp [Region.wanted, yielded]) 27 (.tmp 3) (by rfl) w.heap.size (0) (by rfl) [.int .i64 8, .int .i64 m.f, .int .i64 m.v, .int .i64 m.i, .int .i64 m.q, .int .i64 m.r, .slice Ab m.b.length cb, .slice Ao m.o.length co, .slice Ac m.c.length cc, .slice Ap m.p.length cp] _ HRM.out Try.underlying27 rfl sizeM ?_; intro K hK; go_simp; refine hK _ ?_; clear hK K) | quiet_step (first | (go_at_call 65; exact later_call _ (HC0.out _)) | (go_at_call 71; exact later_call _ (HC6.out _)) | (go_at_call 69; exact later_same _ (HCp.out _))))
                  refine wpQuiet_nil ?_
                  intro w3 hw'
                  obtain ⟨⟨wq, hbq⟩, hw'⟩ := hw'
                  have hb2 : Below w2.heap.size w2 w3 := by rw [hw']; exact hbq
                  clear hw' hbq
                  have HL2 := Lib.hid (HL1.out.below hb2)
                  clear hb2
                  go_wp2_with fail
                  go_ret
                  exact ⟨by rw [Hres.out]; rfl, HL2.out.be⟩
                | true =>
                  refine wp_region_later (by kernel_rfl) (by kernel_rfl) ?_
                  repeat (first | go_big_quiet_step (first | (go_at_call 65; exact later_call _ (HC0.out _)) | (go_at_call 71; exact later_call _ (HC6.out _)) | (go_at_call 69; exact later_same _ (HCp.out _))) | (refine quiet_load (by simp [Region.wanted, yielded]) 27 (.tmp 3) (by rfl) w.heap.size (0) (by rfl) [.int .i64 8, .int .i64 m.f, .int .i64 m.v, .int .i64 m.i, .int .i64 m.q, .int .i64 m.r, .slice Ab m.b.length cb, .slice Ao m.o.length co, .slice Ac m.c.length cc, .slice Ap m.p.length cp] _ HRM.out Try.underlying27 rfl sizeM ?_; intro K hK; go_simp; refine hK _ ?_; clear hK K) | quiet_step (first | (go_at_call 65; exact later_call _ (HC0.out _)) | (go_at_call 71; exact later_call _ (HC6.out _)) | (go_at_call 69; exact later_same _ (HCp.out _))))
                  refine wpQuiet_nil ?_
                  intro w3 hw'
                  obtain ⟨⟨wq, hbq⟩, hw'⟩ := hw'
                  have hb2 : Below w2.heap.size w2 w3 := by rw [hw']; exact hbq
                  clear hw' hbq
                  have HL2 := Lib.hid (HL1.out.below hb2)
                  clear hb2
                  go_wp2_with fail
                  go_ret
                  exact ⟨by rw [Hres.out]; rfl, HL2.out.be⟩
end Go.Proofs.Ytljfoajhobambaa

end

section
/- The reference's Form, a message of kind 9. Printed by gen_rk.py. -/
namespace Go.Proofs.Ytljfoajhobambaa
open Go.RowKit
set_option linter.unusedVariables false
set_option linter.unusedSimpArgs false

theorem firstB_of {l : List Psp.Cert} {f cl : Int} {y : Psp.Cert} (h1 : l.length = 1) (h : l[0]? = some y) : Psp.firstB l f cl = Psp.certB y f cl := by
  rcases l with _ | ⟨a, _ | ⟨b, l⟩⟩
  · cases h
  · injection h with h; subst h; rfl
  · simp at h1
theorem first_one (l : List Psp.Cert) (f cl : Int) : Psp.firstB l f cl = (((l.length : Int) == 1) && Psp.firstB l f cl) := by
  rcases l with _ | ⟨a, _ | ⟨b, l⟩⟩
  · rfl
  · simp
  · have h2 : (((a :: b :: l).length : Int) == 1) = false := by rw [beq_eq_false_iff_ne]; simp; omega
    rw [h2]; rfl

set_option maxRecDepth 100000 in
set_option maxHeartbeats 16000000 in
theorem rform_9 (m : Psp.Msg) (vb vo vc vp : Value) (f cl : Int) (w : World) (P : Nat → Prop) (hx : MsgOk w P ⟨m, vb, vo, vc, vp⟩) (hw : wfMsg m) (hf : Psp.may f = true) (hk : m.k = 9) :
    Calls Try.prog 23 #[.agg #[.int .i64 m.k, .int .i64 m.f, .int .i64 m.v, .int .i64 m.i, .int .i64 m.q, .int .i64 m.r, vb, vo, vc, vp], .int .i64 f, .int .i64 cl] w fun e w' => e = .returned (.bool (Psp.formM m f cl)) ∧ Below w.heap.size w w' := by
  obtain ⟨Ab, Ao, Ac, Ap, cb, co, cc, cp, rfl, rfl, rfl, rfl⟩ := msg_slices hx
  obtain ⟨lc, hlc⟩ : ∃ n, m.c.length = n := ⟨_, rfl⟩
  rw [hlc] at hx ⊢
  have Hlc := Lib.hid hlc
  have HX := Lib.hid hx
  have Hw := Lib.hid hw
  obtain ⟨nn, hnn⟩ : ∃ q, Psp.nodes f = q := ⟨_, rfl⟩
  have hq0 : (nn == 0) = false := by rw [← hnn, may_zero, hf]; rfl
  have HN : Hid (∀ W : World, Calls Try.prog 64 #[.int .i64 f] W fun e w' => e = .returned (.int .i64 nn) ∧ W = w') := Lib.hid fun W => by rw [← hnn]; exact r_nodes_any f W
  obtain ⟨hn0, hn1⟩ := Psp.nodes_bd f
  rw [hnn] at hn0 hn1
  obtain ⟨g0, hg0⟩ : ∃ x, decide (m.f < 0) = x := ⟨_, rfl⟩
  obtain ⟨g1, hg1⟩ : ∃ x, decide (m.f ≥ nn) = x := ⟨_, rfl⟩
  have hnb : Psp.nodeB m.f f = (!g0 && !g1) := by unfold Psp.nodeB; rw [hnn, ← hg0, ← hg1, Bool.eq_iff_iff, Psp.win_iff]; simp; omega
  obtain ⟨t0, ht0⟩ : ∃ x, blankB false false false false false false true false m.v m.i m.q m.r m.b.length m.o.length lc m.p.length = x := ⟨_, rfl⟩
  obtain ⟨t1, ht1⟩ : ∃ x, ((lc : Int) == 1) = x := ⟨_, rfl⟩
  obtain ⟨t2, ht2⟩ : ∃ x, Psp.firstB m.c f cl = x := ⟨_, rfl⟩
  have Hres : Hid (Psp.formM m f cl = ((!g0 && !g1) && (t0 && (t1 && (t2))))) := Lib.hid (by
    unfold Psp.formM
    rw [hf, Bool.true_and, ← hnb, hk]
    simp only [Int.reduceEq, if_false, if_true, true_or, or_true]
    congr 1
    rw [← ht0, ← ht1, ← ht2]
    rw [← hlc]
    simp only [Psp.noB, Psp.bareB, blankB, List.all_cons, List.all_nil, Bool.false_or, Bool.true_or, Bool.true_and, Bool.and_true]
    first
      | rfl
      | (rw [first_one]; simp [Bool.and_assoc])
      | (rw [Bool.eq_iff_iff]; simp [and_assoc]; omega)
      | (rw [Bool.eq_iff_iff]; simp [and_assoc, and_left_comm, and_comm]; try omega))
  have Ht0 := Lib.hid ht0
  have Ht2 := Lib.hid ht2
  clear hlc hx hw hnn hf hnb ht0 ht2
  have Hk := Lib.hid hk
  rw [hk]
  have HL0 := Lib.hid (Mk.new w #[.int .i64 9, .int .i64 m.f, .int .i64 m.v, .int .i64 m.i, .int .i64 m.q, .int .i64 m.r, .slice Ab m.b.length cb, .slice Ao m.o.length co, .slice Ac lc cc, .slice Ap m.p.length cp])
  go_enter Try.func23, Try.ntmps23
  go_wp2_with fail
  obtain ⟨W0, hW0⟩ : ∃ W, w.alloc (.cells #[.int .i64 9, .int .i64 m.f, .int .i64 m.v, .int .i64 m.i, .int .i64 m.q, .int .i64 m.r, .slice Ab m.b.length cb, .slice Ao m.o.length co, .slice Ac lc cc, .slice Ap m.p.length cp] 27) = W := ⟨_, rfl⟩
  rw [hW0] at HL0 ⊢
  clear hW0 hk
  refine (HN.out _).mono ?_
  rintro e w' ⟨rfl, rfl⟩
  have y0 : W0.cell? ⟨w.heap.size, 0, none⟩ = some (.int .i64 9) := HL0.out.cell (j := 0) rfl
  go_wp2_with fail
  have y1 := later_cell (show W0.cell? ⟨w.heap.size, 1, none⟩ = some (.int .i64 m.f) from HL0.out.cell (j := 1) rfl)
  have HNp : Hid (∀ p : Later W0, Calls Try.prog 64 #[.int .i64 f] p.W fun e w' => e = .returned (.int .i64 nn) ∧ p.W = w') := Lib.hid fun p => HN.out _
  cases g0 with
  | true =>
    refine wp_region_later (by kernel_rfl) (by kernel_rfl) ?_
    repeat (first | go_big_quiet_step ((go_at_call 64; exact later_same _ (HNp.out _))) | quiet_step ((go_at_call 64; exact later_same _ (HNp.out _))))
    refine wpQuiet_nil ?_
    intro w2 hw'
    obtain ⟨⟨wq, hbq⟩, hw'⟩ := hw'
    have hb2 : Below W0.heap.size W0 w2 := by rw [hw']; exact hbq
    clear hw' hbq
    have HL1 := Lib.hid (HL0.out.below hb2)
    clear hb2 y0 y1
    have y0 : w2.cell? ⟨w.heap.size, 0, none⟩ = some (.int .i64 9) := HL1.out.cell (j := 0) rfl
    go_wp2_with fail
    go_ret
    exact ⟨by rw [Hres.out]; rfl, HL1.out.be⟩
  | false =>
   cases g1 with
   | true =>
    refine wp_region_later (by kernel_rfl) (by kernel_rfl) ?_
    repeat (first | go_big_quiet_step ((go_at_call 64; exact later_same _ (HNp.out _))) | quiet_step ((go_at_call 64; exact later_same _ (HNp.out _))))
    refine wpQuiet_nil ?_
    intro w2 hw'
    obtain ⟨⟨wq, hbq⟩, hw'⟩ := hw'
    have hb2 : Below W0.heap.size W0 w2 := by rw [hw']; exact hbq
    clear hw' hbq
    have HL1 := Lib.hid (HL0.out.below hb2)
    clear hb2 y0 y1
    have y0 : w2.cell? ⟨w.heap.size, 0, none⟩ = some (.int .i64 9) := HL1.out.cell (j := 0) rfl
    go_wp2_with fail
    go_ret
    exact ⟨by rw [Hres.out]; rfl, HL1.out.be⟩
   | false =>
    refine wp_region_later (by kernel_rfl) (by kernel_rfl) ?_
    repeat (first | go_big_quiet_step ((go_at_call 64; exact later_same _ (HNp.out _))) | quiet_step ((go_at_call 64; exact later_same _ (HNp.out _))))
    refine wpQuiet_nil ?_
    intro w2 hw'
    obtain ⟨⟨wq, hbq⟩, hw'⟩ := hw'
    have hb2 : Below W0.heap.size W0 w2 := by rw [hw']; exact hbq
    clear hw' hbq
    have HL1 := Lib.hid (HL0.out.below hb2)
    clear hb2 y0 y1
    have y0 : w2.cell? ⟨w.heap.size, 0, none⟩ = some (.int .i64 9) := HL1.out.cell (j := 0) rfl
    have y1 : w2.cell? ⟨w.heap.size, 1, none⟩ = some (.int .i64 m.f) := HL1.out.cell (j := 1) rfl
    have y2 : w2.cell? ⟨w.heap.size, 2, none⟩ = some (.int .i64 m.v) := HL1.out.cell (j := 2) rfl
    have y3 : w2.cell? ⟨w.heap.size, 3, none⟩ = some (.int .i64 m.i) := HL1.out.cell (j := 3) rfl
    have y4 : w2.cell? ⟨w.heap.size, 4, none⟩ = some (.int .i64 m.q) := HL1.out.cell (j := 4) rfl
    have y5 : w2.cell? ⟨w.heap.size, 5, none⟩ = some (.int .i64 m.r) := HL1.out.cell (j := 5) rfl
    have y6 : w2.cell? ⟨w.heap.size, 6, none⟩ = some (.slice Ab m.b.length cb) := HL1.out.cell (j := 6) rfl
    have y7 : w2.cell? ⟨w.heap.size, 7, none⟩ = some (.slice Ao m.o.length co) := HL1.out.cell (j := 7) rfl
    have y8 : w2.cell? ⟨w.heap.size, 8, none⟩ = some (.slice Ac lc cc) := HL1.out.cell (j := 8) rfl
    have y9 : w2.cell? ⟨w.heap.size, 9, none⟩ = some (.slice Ap m.p.length cp) := HL1.out.cell (j := 9) rfl
    go_wp2_with fail
    clear y0 y1 y2 y3 y4 y5 y6 y7 y8 y9
    refine (blank_c _ _ _ _ _ _ _ _ _ _ _ _ _ _ _ _ _ _ w2).mono ?_
    rw [Ht0.out]
    rintro e v0 ⟨rfl, hb⟩
    have HV0 := Lib.hid (HL1.out.below hb)
    clear hb
    have y0 : v0.cell? ⟨w.heap.size, 0, none⟩ = some (.int .i64 9) := HV0.out.cell (j := 0) rfl
    have y1 : v0.cell? ⟨w.heap.size, 1, none⟩ = some (.int .i64 m.f) := HV0.out.cell (j := 1) rfl
    have y2 : v0.cell? ⟨w.heap.size, 2, none⟩ = some (.int .i64 m.v) := HV0.out.cell (j := 2) rfl
    have y3 : v0.cell? ⟨w.heap.size, 3, none⟩ = some (.int .i64 m.i) := HV0.out.cell (j := 3) rfl
    have y4 : v0.cell? ⟨w.heap.size, 4, none⟩ = some (.int .i64 m.q) := HV0.out.cell (j := 4) rfl
    have y5 : v0.cell? ⟨w.heap.size, 5, none⟩ = some (.int .i64 m.r) := HV0.out.cell (j := 5) rfl
    have y6 : v0.cell? ⟨w.heap.size, 6, none⟩ = some (.slice Ab m.b.length cb) := HV0.out.cell (j := 6) rfl
    have y7 : v0.cell? ⟨w.heap.size, 7, none⟩ = some (.slice Ao m.o.length co) := HV0.out.cell (j := 7) rfl
    have y8 : v0.cell? ⟨w.heap.size, 8, none⟩ = some (.slice Ac lc cc) := HV0.out.cell (j := 8) rfl
    have y9 : v0.cell? ⟨w.heap.size, 9, none⟩ = some (.slice Ap m.p.length cp) := HV0.out.cell (j := 9) rfl
    cases t0 with
    | false =>
      go_wp2_with fail
      go_ret
      exact ⟨by rw [Hres.out]; rfl, HV0.out.be⟩
    | true =>
      cases t1 with
      | false =>
        go_wp2_with fail
        go_ret
        exact ⟨by rw [Hres.out]; rfl, HV0.out.be⟩
      | true =>
        have hlo : 1 ≤ lc := by have h := ht1; simp at h; omega
        obtain ⟨L, hLm, hLr, hLc⟩ := HX.out.2.2.1
        dsimp only at hLm hLr
        have hLn : L.length = lc := by rw [← Hlc.out, ← hLm, List.length_map]
        rw [hLn] at hLr
        obtain ⟨b0, o0, c0, y, he, hb0, hb1, hy, hel⟩ := rd_elem (f := cv) (k := 5) (fun _ => rfl) (by omega) hLr hLn (show 0 < lc by omega)
        injection he with he1 _ he2
        subst he1 he2
        have hok := hLc y (List.mem_of_getElem? hy)
        have hyl : m.c[0]? = some y.c := by have := map_get (g := CertV.c) hy; rwa [hLm] at this
        have hwy := (Hw.out.2.2.2.2.2.2.2.2.1 y.c (List.mem_of_getElem? hyl)).2.2.2.2
        have hev : Psp.certB y.c f cl = t2 := by rw [← Ht2.out]; exact (firstB_of (by rw [Hlc.out]; have h := ht1; simp at h; omega) hyl).symm
        obtain ⟨cy, yb, yo⟩ := y
        obtain ⟨_, A1, c1, e1, _⟩ := RdP.parts hok.1
        obtain ⟨_, A2, c2, e2, _⟩ := RdP.parts hok.2
        dsimp only at e1 e2 hyl hwy hev
        subst e1 e2
        have hq : v0.rangeAt b0 (o0 + 0 * 5) [.int .i64 cy.v, .int .i64 cy.i, .int .i64 cy.q, .slice A1 cy.b.length c1, .slice A2 cy.o.length c2] := hel v0 (HV0.out.be.block b0 hb1)
        have Hok := Lib.hid (show CertOk w P ⟨cy, .slice A1 cy.b.length c1, .slice A2 cy.o.length c2⟩ from hok)
        have e0 : v0.cell? ⟨b0, o0, none⟩ = some (.int .i64 cy.v) := by have := hq 0 _ rfl; simpa using this
        have e1 : v0.cell? ⟨b0, o0 + 1, none⟩ = some (.int .i64 cy.i) := by have := hq 1 _ rfl; simpa using this
        have e2 : v0.cell? ⟨b0, o0 + 2, none⟩ = some (.int .i64 cy.q) := by have := hq 2 _ rfl; simpa using this
        have e3 : v0.cell? ⟨b0, o0 + 3, none⟩ = some (.slice A1 cy.b.length c1) := by have := hq 3 _ rfl; simpa using this
        have e4 : v0.cell? ⟨b0, o0 + 4, none⟩ = some (.slice A2 cy.o.length c2) := by have := hq 4 _ rfl; simpa using this
        have Hwy := Lib.hid hwy
        have Hev := Lib.hid hev
        clear hq hel hy hyl hok hwy hev hLc hLm hLr hLn hb0
        go_wp2_with fail
        clear y0 y1 y2 y3 y4 y5 y6 y7 y8 y9 ht1 e0 e1 e2 e3 e4
        refine (rcert_l cy _ _ f cl v0 _ (Hok.out.keeps (Keeps.below HV0.out.be)) Hwy.out).mono ?_
        rw [Hev.out]
        rintro e v2 ⟨rfl, hb⟩
        have HV2 := Lib.hid (HV0.out.below hb)
        clear hb
        have y0 : v2.cell? ⟨w.heap.size, 0, none⟩ = some (.int .i64 9) := HV2.out.cell (j := 0) rfl
        have y1 : v2.cell? ⟨w.heap.size, 1, none⟩ = some (.int .i64 m.f) := HV2.out.cell (j := 1) rfl
        have y2 : v2.cell? ⟨w.heap.size, 2, none⟩ = some (.int .i64 m.v) := HV2.out.cell (j := 2) rfl
        have y3 : v2.cell? ⟨w.heap.size, 3, none⟩ = some (.int .i64 m.i) := HV2.out.cell (j := 3) rfl
        have y4 : v2.cell? ⟨w.heap.size, 4, none⟩ = some (.int .i64 m.q) := HV2.out.cell (j := 4) rfl
        have y5 : v2.cell? ⟨w.heap.size, 5, none⟩ = some (.int .i64 m.r) := HV2.out.cell (j := 5) rfl
        have y6 : v2.cell? ⟨w.heap.size, 6, none⟩ = some (.slice Ab m.b.length cb) := HV2.out.cell (j := 6) rfl
        have y7 : v2.cell? ⟨w.heap.size, 7, none⟩ = some (.slice Ao m.o.length co) := HV2.out.cell (j := 7) rfl
        have y8 : v2.cell? ⟨w.heap.size, 8, none⟩ = some (.slice (some ⟨b0, o0, none⟩) lc cc) := HV2.out.cell (j := 8) rfl
        have y9 : v2.cell? ⟨w.heap.size, 9, none⟩ = some (.slice Ap m.p.length cp) := HV2.out.cell (j := 9) rfl
        cases t2 with
        | false =>
          go_wp2_with fail
          go_ret
          exact ⟨by rw [Hres.out]; rfl, HV2.out.be⟩
        | true =>
          go_wp2_with fail
          go_ret
          exact ⟨by rw [Hres.out]; rfl, HV2.out.be⟩
end Go.Proofs.Ytljfoajhobambaa

end

section
/- The reference's Form, a message of kind 10. Printed by gen_rk.py. -/
namespace Go.Proofs.Ytljfoajhobambaa
open Go.RowKit
set_option linter.unusedVariables false
set_option linter.unusedSimpArgs false

set_option maxRecDepth 100000 in
set_option maxHeartbeats 16000000 in
theorem rform_10 (m : Psp.Msg) (vb vo vc vp : Value) (f cl : Int) (w : World) (P : Nat → Prop) (hx : MsgOk w P ⟨m, vb, vo, vc, vp⟩) (hw : wfMsg m) (hf : Psp.may f = true) (hk : m.k = 10) :
    Calls Try.prog 23 #[.agg #[.int .i64 m.k, .int .i64 m.f, .int .i64 m.v, .int .i64 m.i, .int .i64 m.q, .int .i64 m.r, vb, vo, vc, vp], .int .i64 f, .int .i64 cl] w fun e w' => e = .returned (.bool (Psp.formM m f cl)) ∧ Below w.heap.size w w' := by
  obtain ⟨Ab, Ao, Ac, Ap, cb, co, cc, cp, rfl, rfl, rfl, rfl⟩ := msg_slices hx
  have HX := Lib.hid hx
  have Hw := Lib.hid hw
  obtain ⟨nn, hnn⟩ : ∃ q, Psp.nodes f = q := ⟨_, rfl⟩
  have hq0 : (nn == 0) = false := by rw [← hnn, may_zero, hf]; rfl
  have HN : Hid (∀ W : World, Calls Try.prog 64 #[.int .i64 f] W fun e w' => e = .returned (.int .i64 nn) ∧ W = w') := Lib.hid fun W => by rw [← hnn]; exact r_nodes_any f W
  obtain ⟨hn0, hn1⟩ := Psp.nodes_bd f
  rw [hnn] at hn0 hn1
  obtain ⟨g0, hg0⟩ : ∃ x, decide (m.f < 0) = x := ⟨_, rfl⟩
  obtain ⟨g1, hg1⟩ : ∃ x, decide (m.f ≥ nn) = x := ⟨_, rfl⟩
  have hnb : Psp.nodeB m.f f = (!g0 && !g1) := by unfold Psp.nodeB; rw [hnn, ← hg0, ← hg1, Bool.eq_iff_iff, Psp.win_iff]; simp; omega
  obtain ⟨t0, ht0⟩ : ∃ x, blankB false true true true false false false false m.v m.i m.q m.r m.b.length m.o.length m.c.length m.p.length = x := ⟨_, rfl⟩
  obtain ⟨t1, ht1⟩ : ∃ x, decide (m.i ≥ 0) = x := ⟨_, rfl⟩
  obtain ⟨t2, ht2⟩ : ∃ x, decide (m.i < cl) = x := ⟨_, rfl⟩
  obtain ⟨t3, ht3⟩ : ∃ x, decide (m.q ≥ 1) = x := ⟨_, rfl⟩
  obtain ⟨t4, ht4⟩ : ∃ x, decide (m.q ≤ 1048576) = x := ⟨_, rfl⟩
  obtain ⟨t5, ht5⟩ : ∃ x, decide (m.r > -549755813888) = x := ⟨_, rfl⟩
  obtain ⟨t6, ht6⟩ : ∃ x, decide (m.r < 549755813888) = x := ⟨_, rfl⟩
  have Hres : Hid (Psp.formM m f cl = ((!g0 && !g1) && (t0 && (t1 && (t2 && (t3 && (t4 && (t5 && (t6))))))))) := Lib.hid (by
    unfold Psp.formM
    rw [hf, Bool.true_and, ← hnb, hk]
    simp only [Int.reduceEq, if_false, if_true, true_or, or_true]
    congr 1
    rw [← ht0, ← ht1, ← ht2, ← ht3, ← ht4, ← ht5, ← ht6]
    simp only [Psp.noB, Psp.bareB, blankB, Psp.win, Psp.batchB, List.all_cons, List.all_nil, Bool.false_or, Bool.true_or, Bool.true_and, Bool.and_true]
    first
      | rfl
      | (rw [Bool.eq_iff_iff]; simp [and_assoc]; omega)
      | (rw [Bool.eq_iff_iff]; simp [and_assoc, and_left_comm, and_comm]; try omega))
  have Ht0 := Lib.hid ht0
  clear hx hw hnn hf hnb ht0
  have Hk := Lib.hid hk
  rw [hk]
  have HL0 := Lib.hid (Mk.new w #[.int .i64 10, .int .i64 m.f, .int .i64 m.v, .int .i64 m.i, .int .i64 m.q, .int .i64 m.r, .slice Ab m.b.length cb, .slice Ao m.o.length co, .slice Ac m.c.length cc, .slice Ap m.p.length cp])
  go_enter Try.func23, Try.ntmps23
  go_wp2_with fail
  obtain ⟨W0, hW0⟩ : ∃ W, w.alloc (.cells #[.int .i64 10, .int .i64 m.f, .int .i64 m.v, .int .i64 m.i, .int .i64 m.q, .int .i64 m.r, .slice Ab m.b.length cb, .slice Ao m.o.length co, .slice Ac m.c.length cc, .slice Ap m.p.length cp] 27) = W := ⟨_, rfl⟩
  rw [hW0] at HL0 ⊢
  clear hW0 hk
  refine (HN.out _).mono ?_
  rintro e w' ⟨rfl, rfl⟩
  have y0 : W0.cell? ⟨w.heap.size, 0, none⟩ = some (.int .i64 10) := HL0.out.cell (j := 0) rfl
  go_wp2_with fail
  have y1 := later_cell (show W0.cell? ⟨w.heap.size, 1, none⟩ = some (.int .i64 m.f) from HL0.out.cell (j := 1) rfl)
  have HNp : Hid (∀ p : Later W0, Calls Try.prog 64 #[.int .i64 f] p.W fun e w' => e = .returned (.int .i64 nn) ∧ p.W = w') := Lib.hid fun p => HN.out _
  cases g0 with
  | true =>
    refine wp_region_later (by kernel_rfl) (by kernel_rfl) ?_
    repeat (first | go_big_quiet_step ((go_at_call 64; exact later_same _ (HNp.out _))) | quiet_step ((go_at_call 64; exact later_same _ (HNp.out _))))
    refine wpQuiet_nil ?_
    intro w2 hw'
    obtain ⟨⟨wq, hbq⟩, hw'⟩ := hw'
    have hb2 : Below W0.heap.size W0 w2 := by rw [hw']; exact hbq
    clear hw' hbq
    have HL1 := Lib.hid (HL0.out.below hb2)
    clear hb2 y0 y1
    have y0 : w2.cell? ⟨w.heap.size, 0, none⟩ = some (.int .i64 10) := HL1.out.cell (j := 0) rfl
    go_wp2_with fail
    go_ret
    exact ⟨by rw [Hres.out]; rfl, HL1.out.be⟩
  | false =>
   cases g1 with
   | true =>
    refine wp_region_later (by kernel_rfl) (by kernel_rfl) ?_
    repeat (first | go_big_quiet_step ((go_at_call 64; exact later_same _ (HNp.out _))) | quiet_step ((go_at_call 64; exact later_same _ (HNp.out _))))
    refine wpQuiet_nil ?_
    intro w2 hw'
    obtain ⟨⟨wq, hbq⟩, hw'⟩ := hw'
    have hb2 : Below W0.heap.size W0 w2 := by rw [hw']; exact hbq
    clear hw' hbq
    have HL1 := Lib.hid (HL0.out.below hb2)
    clear hb2 y0 y1
    have y0 : w2.cell? ⟨w.heap.size, 0, none⟩ = some (.int .i64 10) := HL1.out.cell (j := 0) rfl
    go_wp2_with fail
    go_ret
    exact ⟨by rw [Hres.out]; rfl, HL1.out.be⟩
   | false =>
    refine wp_region_later (by kernel_rfl) (by kernel_rfl) ?_
    repeat (first | go_big_quiet_step ((go_at_call 64; exact later_same _ (HNp.out _))) | quiet_step ((go_at_call 64; exact later_same _ (HNp.out _))))
    refine wpQuiet_nil ?_
    intro w2 hw'
    obtain ⟨⟨wq, hbq⟩, hw'⟩ := hw'
    have hb2 : Below W0.heap.size W0 w2 := by rw [hw']; exact hbq
    clear hw' hbq
    have HL1 := Lib.hid (HL0.out.below hb2)
    clear hb2 y0 y1
    have y0 : w2.cell? ⟨w.heap.size, 0, none⟩ = some (.int .i64 10) := HL1.out.cell (j := 0) rfl
    have y1 : w2.cell? ⟨w.heap.size, 1, none⟩ = some (.int .i64 m.f) := HL1.out.cell (j := 1) rfl
    have y2 : w2.cell? ⟨w.heap.size, 2, none⟩ = some (.int .i64 m.v) := HL1.out.cell (j := 2) rfl
    have y3 : w2.cell? ⟨w.heap.size, 3, none⟩ = some (.int .i64 m.i) := HL1.out.cell (j := 3) rfl
    have y4 : w2.cell? ⟨w.heap.size, 4, none⟩ = some (.int .i64 m.q) := HL1.out.cell (j := 4) rfl
    have y5 : w2.cell? ⟨w.heap.size, 5, none⟩ = some (.int .i64 m.r) := HL1.out.cell (j := 5) rfl
    have y6 : w2.cell? ⟨w.heap.size, 6, none⟩ = some (.slice Ab m.b.length cb) := HL1.out.cell (j := 6) rfl
    have y7 : w2.cell? ⟨w.heap.size, 7, none⟩ = some (.slice Ao m.o.length co) := HL1.out.cell (j := 7) rfl
    have y8 : w2.cell? ⟨w.heap.size, 8, none⟩ = some (.slice Ac m.c.length cc) := HL1.out.cell (j := 8) rfl
    have y9 : w2.cell? ⟨w.heap.size, 9, none⟩ = some (.slice Ap m.p.length cp) := HL1.out.cell (j := 9) rfl
    go_wp2_with fail
    clear y0 y1 y2 y3 y4 y5 y6 y7 y8 y9
    refine (blank_isr _ _ _ _ _ _ _ _ _ _ _ _ _ _ _ _ _ _ w2).mono ?_
    rw [Ht0.out]
    rintro e v0 ⟨rfl, hb⟩
    have HV0 := Lib.hid (HL1.out.below hb)
    clear hb
    have y0 : v0.cell? ⟨w.heap.size, 0, none⟩ = some (.int .i64 10) := HV0.out.cell (j := 0) rfl
    have y1 : v0.cell? ⟨w.heap.size, 1, none⟩ = some (.int .i64 m.f) := HV0.out.cell (j := 1) rfl
    have y2 : v0.cell? ⟨w.heap.size, 2, none⟩ = some (.int .i64 m.v) := HV0.out.cell (j := 2) rfl
    have y3 : v0.cell? ⟨w.heap.size, 3, none⟩ = some (.int .i64 m.i) := HV0.out.cell (j := 3) rfl
    have y4 : v0.cell? ⟨w.heap.size, 4, none⟩ = some (.int .i64 m.q) := HV0.out.cell (j := 4) rfl
    have y5 : v0.cell? ⟨w.heap.size, 5, none⟩ = some (.int .i64 m.r) := HV0.out.cell (j := 5) rfl
    have y6 : v0.cell? ⟨w.heap.size, 6, none⟩ = some (.slice Ab m.b.length cb) := HV0.out.cell (j := 6) rfl
    have y7 : v0.cell? ⟨w.heap.size, 7, none⟩ = some (.slice Ao m.o.length co) := HV0.out.cell (j := 7) rfl
    have y8 : v0.cell? ⟨w.heap.size, 8, none⟩ = some (.slice Ac m.c.length cc) := HV0.out.cell (j := 8) rfl
    have y9 : v0.cell? ⟨w.heap.size, 9, none⟩ = some (.slice Ap m.p.length cp) := HV0.out.cell (j := 9) rfl
    cases t0 with
    | false =>
      go_wp2_with fail
      go_ret
      exact ⟨by rw [Hres.out]; rfl, HV0.out.be⟩
    | true =>
      cases t1 with
      | false =>
        go_wp2_with fail
        go_ret
        exact ⟨by rw [Hres.out]; rfl, HV0.out.be⟩
      | true =>
        cases t2 with
        | false =>
          go_wp2_with fail
          go_ret
          exact ⟨by rw [Hres.out]; rfl, HV0.out.be⟩
        | true =>
          cases t3 with
          | false =>
            go_wp2_with fail
            go_ret
            exact ⟨by rw [Hres.out]; rfl, HV0.out.be⟩
          | true =>
            cases t4 with
            | false =>
              go_wp2_with fail
              go_ret
              exact ⟨by rw [Hres.out]; rfl, HV0.out.be⟩
            | true =>
              cases t5 with
              | false =>
                go_wp2_with fail
                go_ret
                exact ⟨by rw [Hres.out]; rfl, HV0.out.be⟩
              | true =>
                cases t6 with
                | false =>
                  go_wp2_with fail
                  go_ret
                  exact ⟨by rw [Hres.out]; rfl, HV0.out.be⟩
                | true =>
                  go_wp2_with fail
                  go_ret
                  exact ⟨by rw [Hres.out]; rfl, HV0.out.be⟩
end Go.Proofs.Ytljfoajhobambaa

end

section
/- The reference's Form, a message of kind 11. Printed by gen_rk.py. -/
namespace Go.Proofs.Ytljfoajhobambaa
open Go.RowKit
set_option linter.unusedVariables false
set_option linter.unusedSimpArgs false

set_option maxRecDepth 100000 in
set_option maxHeartbeats 16000000 in
theorem rform_11 (m : Psp.Msg) (vb vo vc vp : Value) (f cl : Int) (w : World) (P : Nat → Prop) (hx : MsgOk w P ⟨m, vb, vo, vc, vp⟩) (hw : wfMsg m) (hf : Psp.may f = true) (hk : ∀ j : Int, 1 ≤ j → j ≤ 10 → m.k ≠ j) :
    Calls Try.prog 23 #[.agg #[.int .i64 m.k, .int .i64 m.f, .int .i64 m.v, .int .i64 m.i, .int .i64 m.q, .int .i64 m.r, vb, vo, vc, vp], .int .i64 f, .int .i64 cl] w fun e w' => e = .returned (.bool (Psp.formM m f cl)) ∧ Below w.heap.size w w' := by
  obtain ⟨Ab, Ao, Ac, Ap, cb, co, cc, cp, rfl, rfl, rfl, rfl⟩ := msg_slices hx
  have HX := Lib.hid hx
  have Hw := Lib.hid hw
  obtain ⟨nn, hnn⟩ : ∃ q, Psp.nodes f = q := ⟨_, rfl⟩
  have hq0 : (nn == 0) = false := by rw [← hnn, may_zero, hf]; rfl
  have HN : Hid (∀ W : World, Calls Try.prog 64 #[.int .i64 f] W fun e w' => e = .returned (.int .i64 nn) ∧ W = w') := Lib.hid fun W => by rw [← hnn]; exact r_nodes_any f W
  obtain ⟨hn0, hn1⟩ := Psp.nodes_bd f
  rw [hnn] at hn0 hn1
  obtain ⟨g0, hg0⟩ : ∃ x, decide (m.f < 0) = x := ⟨_, rfl⟩
  obtain ⟨g1, hg1⟩ : ∃ x, decide (m.f ≥ nn) = x := ⟨_, rfl⟩
  have hnb : Psp.nodeB m.f f = (!g0 && !g1) := by unfold Psp.nodeB; rw [hnn, ← hg0, ← hg1, Bool.eq_iff_iff, Psp.win_iff]; simp; omega
  have Hres : Hid (Psp.formM m f cl = false) := Lib.hid (by
    unfold Psp.formM
    rw [hf, if_neg (hk 1 (by omega) (by omega)), if_neg (hk 2 (by omega) (by omega)), if_neg (hk 3 (by omega) (by omega)), if_neg (by have := hk 4 (by omega) (by omega); have := hk 5 (by omega) (by omega); omega), if_neg (hk 6 (by omega) (by omega)), if_neg (hk 7 (by omega) (by omega)), if_neg (hk 8 (by omega) (by omega)), if_neg (hk 9 (by omega) (by omega)), if_neg (hk 10 (by omega) (by omega)), Bool.and_false]
    rfl)
  have k1 : (m.k == 1) = false := beq_eq_false_iff_ne.2 (hk 1 (by omega) (by omega))
  have k2 : (m.k == 2) = false := beq_eq_false_iff_ne.2 (hk 2 (by omega) (by omega))
  have k3 : (m.k == 3) = false := beq_eq_false_iff_ne.2 (hk 3 (by omega) (by omega))
  have k4 : (m.k == 4) = false := beq_eq_false_iff_ne.2 (hk 4 (by omega) (by omega))
  have k5 : (m.k == 5) = false := beq_eq_false_iff_ne.2 (hk 5 (by omega) (by omega))
  have k6 : (m.k == 6) = false := beq_eq_false_iff_ne.2 (hk 6 (by omega) (by omega))
  have k7 : (m.k == 7) = false := beq_eq_false_iff_ne.2 (hk 7 (by omega) (by omega))
  have k8 : (m.k == 8) = false := beq_eq_false_iff_ne.2 (hk 8 (by omega) (by omega))
  have k9 : (m.k == 9) = false := beq_eq_false_iff_ne.2 (hk 9 (by omega) (by omega))
  have k10 : (m.k == 10) = false := beq_eq_false_iff_ne.2 (hk 10 (by omega) (by omega))
  clear hx hw hnn hf hnb 
  have HL0 := Lib.hid (Mk.new w #[.int .i64 m.k, .int .i64 m.f, .int .i64 m.v, .int .i64 m.i, .int .i64 m.q, .int .i64 m.r, .slice Ab m.b.length cb, .slice Ao m.o.length co, .slice Ac m.c.length cc, .slice Ap m.p.length cp])
  go_enter Try.func23, Try.ntmps23
  go_wp2_with fail
  obtain ⟨W0, hW0⟩ : ∃ W, w.alloc (.cells #[.int .i64 m.k, .int .i64 m.f, .int .i64 m.v, .int .i64 m.i, .int .i64 m.q, .int .i64 m.r, .slice Ab m.b.length cb, .slice Ao m.o.length co, .slice Ac m.c.length cc, .slice Ap m.p.length cp] 27) = W := ⟨_, rfl⟩
  rw [hW0] at HL0 ⊢
  clear hW0 
  refine (HN.out _).mono ?_
  rintro e w' ⟨rfl, rfl⟩
  have y0 : W0.cell? ⟨w.heap.size, 0, none⟩ = some (.int .i64 m.k) := HL0.out.cell (j := 0) rfl
  go_wp2_with fail
  have y1 := later_cell (show W0.cell? ⟨w.heap.size, 1, none⟩ = some (.int .i64 m.f) from HL0.out.cell (j := 1) rfl)
  have HNp : Hid (∀ p : Later W0, Calls Try.prog 64 #[.int .i64 f] p.W fun e w' => e = .returned (.int .i64 nn) ∧ p.W = w') := Lib.hid fun p => HN.out _
  cases g0 with
  | true =>
    refine wp_region_later (by kernel_rfl) (by kernel_rfl) ?_
    repeat (first | go_big_quiet_step ((go_at_call 64; exact later_same _ (HNp.out _))) | quiet_step ((go_at_call 64; exact later_same _ (HNp.out _))))
    refine wpQuiet_nil ?_
    intro w2 hw'
    obtain ⟨⟨wq, hbq⟩, hw'⟩ := hw'
    have hb2 : Below W0.heap.size W0 w2 := by rw [hw']; exact hbq
    clear hw' hbq
    have HL1 := Lib.hid (HL0.out.below hb2)
    clear hb2 y0 y1
    have y0 : w2.cell? ⟨w.heap.size, 0, none⟩ = some (.int .i64 m.k) := HL1.out.cell (j := 0) rfl
    go_wp2_with fail
    go_ret
    exact ⟨by rw [Hres.out]; rfl, HL1.out.be⟩
  | false =>
   cases g1 with
   | true =>
    refine wp_region_later (by kernel_rfl) (by kernel_rfl) ?_
    repeat (first | go_big_quiet_step ((go_at_call 64; exact later_same _ (HNp.out _))) | quiet_step ((go_at_call 64; exact later_same _ (HNp.out _))))
    refine wpQuiet_nil ?_
    intro w2 hw'
    obtain ⟨⟨wq, hbq⟩, hw'⟩ := hw'
    have hb2 : Below W0.heap.size W0 w2 := by rw [hw']; exact hbq
    clear hw' hbq
    have HL1 := Lib.hid (HL0.out.below hb2)
    clear hb2 y0 y1
    have y0 : w2.cell? ⟨w.heap.size, 0, none⟩ = some (.int .i64 m.k) := HL1.out.cell (j := 0) rfl
    go_wp2_with fail
    go_ret
    exact ⟨by rw [Hres.out]; rfl, HL1.out.be⟩
   | false =>
    refine wp_region_later (by kernel_rfl) (by kernel_rfl) ?_
    repeat (first | go_big_quiet_step ((go_at_call 64; exact later_same _ (HNp.out _))) | quiet_step ((go_at_call 64; exact later_same _ (HNp.out _))))
    refine wpQuiet_nil ?_
    intro w2 hw'
    obtain ⟨⟨wq, hbq⟩, hw'⟩ := hw'
    have hb2 : Below W0.heap.size W0 w2 := by rw [hw']; exact hbq
    clear hw' hbq
    have HL1 := Lib.hid (HL0.out.below hb2)
    clear hb2 y0 y1
    have y0 : w2.cell? ⟨w.heap.size, 0, none⟩ = some (.int .i64 m.k) := HL1.out.cell (j := 0) rfl
    go_wp2_with fail
    go_ret
    exact ⟨by rw [Hres.out]; rfl, HL1.out.be⟩
end Go.Proofs.Ytljfoajhobambaa

end

section
/- The reference's Form, of any message. -/
namespace Go.Proofs.Ytljfoajhobambaa
open Go.RowKit
set_option linter.unusedVariables false
set_option linter.unusedSimpArgs false

set_option maxRecDepth 100000 in
set_option maxHeartbeats 4000000 in
theorem rform_0 (m : Psp.Msg) (vb vo vc vp : Value) (f cl : Int) (w : World) (P : Nat → Prop) (hx : MsgOk w P ⟨m, vb, vo, vc, vp⟩) (hf : Psp.may f = false) :
    Calls Try.prog 23 #[.agg #[.int .i64 m.k, .int .i64 m.f, .int .i64 m.v, .int .i64 m.i, .int .i64 m.q, .int .i64 m.r, vb, vo, vc, vp], .int .i64 f, .int .i64 cl] w fun e w' => e = .returned (.bool (Psp.formM m f cl)) ∧ Below w.heap.size w w' := by
  obtain ⟨Ab, Ao, Ac, Ap, cb, co, cc, cp, rfl, rfl, rfl, rfl⟩ := msg_slices hx
  have hq : Psp.nodes f = 0 := by
    have h : (Psp.nodes f == 0) = true := by rw [may_zero, hf]; rfl
    simpa using h
  have HN : Hid (∀ W : World, Calls Try.prog 64 #[.int .i64 f] W fun e w' => e = .returned (.int .i64 0) ∧ W = w') := Lib.hid fun W => by rw [← hq]; exact r_nodes_any f W
  have Hr : Hid (Psp.formM m f cl = false) := Lib.hid (by unfold Psp.formM; rw [hf]; rfl)
  have HL0 := Lib.hid (Mk.new w #[.int .i64 m.k, .int .i64 m.f, .int .i64 m.v, .int .i64 m.i, .int .i64 m.q, .int .i64 m.r, .slice Ab m.b.length cb, .slice Ao m.o.length co, .slice Ac m.c.length cc, .slice Ap m.p.length cp])
  clear hq hx hf
  go_enter Try.func23, Try.ntmps23
  go_wp2_with fail
  refine (HN.out _).mono ?_
  rintro e w' ⟨rfl, rfl⟩
  go_wp2_with fail
  go_ret
  exact ⟨by rw [Hr.out]; rfl, HL0.out.be⟩

/-- The reference's Form is the plain one, for every 'clients'. -/
theorem rform_any (m : Psp.Msg) (vb vo vc vp : Value) (f cl : Int) (w : World) (P : Nat → Prop) (hx : MsgOk w P ⟨m, vb, vo, vc, vp⟩) (hw : wfMsg m) :
    Calls Try.prog 23 #[.agg #[.int .i64 m.k, .int .i64 m.f, .int .i64 m.v, .int .i64 m.i, .int .i64 m.q, .int .i64 m.r, vb, vo, vc, vp], .int .i64 f, .int .i64 cl] w fun e w' => e = .returned (.bool (Psp.formM m f cl)) ∧ Below w.heap.size w w' := by
  cases hf : Psp.may f with
  | false => exact rform_0 m vb vo vc vp f cl w P hx hf
  | true =>
    by_cases h1 : m.k = 1; · exact rform_1 m vb vo vc vp f cl w P hx hw hf h1
    by_cases h2 : m.k = 2; · exact rform_2 m vb vo vc vp f cl w P hx hw hf h2
    by_cases h3 : m.k = 3; · exact rform_3 m vb vo vc vp f cl w P hx hw hf h3
    by_cases h4 : m.k = 4; · exact rform_4 m vb vo vc vp f cl w P hx hw hf h4
    by_cases h5 : m.k = 5; · exact rform_5 m vb vo vc vp f cl w P hx hw hf h5
    by_cases h6 : m.k = 6; · exact rform_6 m vb vo vc vp f cl w P hx hw hf h6
    by_cases h7 : m.k = 7; · exact rform_7 m vb vo vc vp f cl w P hx hw hf h7
    by_cases h8 : m.k = 8; · exact rform_8 m vb vo vc vp f cl w P hx hw hf h8
    by_cases h9 : m.k = 9; · exact rform_9 m vb vo vc vp f cl w P hx hw hf h9
    by_cases h10 : m.k = 10; · exact rform_10 m vb vo vc vp f cl w P hx hw hf h10
    exact rform_11 m vb vo vc vp f cl w P hx hw hf fun j hj1 hj2 hj => by
      have : j = 1 ∨ j = 2 ∨ j = 3 ∨ j = 4 ∨ j = 5 ∨ j = 6 ∨ j = 7 ∨ j = 8 ∨ j = 9 ∨ j = 10 := by omega
      rcases this with rfl | rfl | rfl | rfl | rfl | rfl | rfl | rfl | rfl | rfl <;> contradiction
end Go.Proofs.Ytljfoajhobambaa

end
