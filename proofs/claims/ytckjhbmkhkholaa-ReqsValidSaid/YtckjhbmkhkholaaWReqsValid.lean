/- The walk of ReqsValid. -/
import Derived.Test.YtckjhbmkhkholaaWk5
namespace Go.Proofs.Ytckjhbmkhkholaa.reqsValid
open Go.RowKit
set_option linter.unusedVariables false

set_option maxRecDepth 100000 in
set_option maxHeartbeats 4000000 in
theorem walk (r : Psp.Req) (clients : Int) (w : World) (hr : wfReq r) (hc : isI64 clients) :
    Calls Try.prog 3 #[.agg (rq r).toArray, .int .i64 clients] w fun e w' => e = .returned (.bool true) ∧ Below w.heap.size w w' := by
  obtain ⟨vb, hvb⟩ : ∃ vb, vb = Psp.valid r clients := ⟨_, rfl⟩
  obtain ⟨ob, hob⟩ : ∃ ob, ob = Psp.okR (bare r) := ⟨_, rfl⟩
  obtain ⟨bb, hbb⟩ : ∃ bb, bb = res (Psp.encR (bare r)) (Psp.okR (bare r)) := ⟨_, rfl⟩
  have Hvb := Lib.hid hvb
  have Hob := Lib.hid hob
  have Hbb := Lib.hid hbb
  have HB0 := Lib.hid (alloc_below w (.cells #[.int .i64 r.c, .int .i64 r.t, .int .i64 r.k, .int .i64 r.y, .int .i64 r.v, .int .i64 r.s] 25))
  have HC0 := Lib.hid (heap_alloc_new w (.cells #[.int .i64 r.c, .int .i64 r.t, .int .i64 r.k, .int .i64 r.y, .int .i64 r.v, .int .i64 r.s] 25))
  clear hvb hob hbb hr
  go_enter Try.func3, Try.ntmps3
  simp only [rq, iv]
  go_wp2_with fail
  refine (body_any r _).mono ?_
  intro e w1 h
  obtain ⟨A1, c1, rfl, hp, hb⟩ := Bytes.rd h Hbb.out.symm Hob.out.symm
  have HP1 := Lib.hid hp
  have HB1 := Lib.hid (Below.then HB0.out hb HB0.out.size)
  have HC1 := Lib.hid ((hb.block w.heap.size (by simp)).trans HC0.out)
  obtain ⟨x0, x1, x2, x3, x4, x5, x6⟩ := rst_cells HC1.out
  clear h hp hb
  go_wp2_with fail
  refine (rbody_any r w1).mono ?_
  intro e w2 h
  obtain ⟨A2, c2, rfl, hp, hb⟩ := Bytes.rd h Hbb.out.symm Hob.out.symm
  have hw1 : w.heap.size < w1.heap.size := (Array.getElem?_eq_some_iff.1 HC1.out).1
  have HP2 := Lib.hid hp
  have HP12 := Lib.hid (HP1.out.keeps (Keeps.on hb))
  have HB2 := Lib.hid (Below.then HB1.out hb HB1.out.size)
  have HC2 := Lib.hid ((hb.block w.heap.size hw1).trans HC1.out)
  clear h hp hb x0 x1 x2 x3 x4 x5 x6 HP1
  obtain ⟨x0, x1, x2, x3, x4, x5, x6⟩ := rst_cells HC2.out
  have CL0 := later_cell x0
  have CL1 := later_cell x1
  have CL2 := later_cell x2
  have CL3 := later_cell x3
  have CL4 := later_cell x4
  have CL5 := later_cell x5
  have HV1 : Hid (∀ p : Later w2, Calls Try.prog 10 #[.agg #[.int .i64 r.c, .int .i64 r.t, .int .i64 r.k, .int .i64 r.y, .int .i64 r.v, .int .i64 r.s], .int .i64 clients] p.W fun e w' => e = .returned (.bool vb) ∧ Below p.W.heap.size p.W w') := Lib.hid fun p => by rw [Hvb.out]; exact valid_any r clients p.W
  have HV2 : Hid (∀ p : Later w2, Calls Try.prog 11 #[.agg #[.int .i64 r.c, .int .i64 r.t, .int .i64 r.k, .int .i64 r.y, .int .i64 r.v, .int .i64 r.s], .int .i64 clients] p.W fun e w' => e = .returned (.bool vb) ∧ Below p.W.heap.size p.W w') := Lib.hid fun p => by rw [Hvb.out]; exact rvalid_any r clients p.W
  have HS : Hid (∀ p : Later w2, Calls Try.prog 12 #[.slice A1 bb.length c1, .slice A2 bb.length c2] p.W fun e w' => e = .returned (.bool true) ∧ Below p.W.heap.size p.W w') := Lib.hid fun p =>
    (same_bytes _ _ _ _ _ _ p.W (HP12.out.to_rd.later (Nat.le_refl _) p) (HP2.out.to_rd.later (Nat.le_refl _) p)).mono (by rintro e w' ⟨h, k, rfl⟩; exact ⟨by rw [h, decide_eq_true rfl], below_drewN (Below.refl _ _) k⟩)
  go_wp2_with fail
  clear x0 x1 x2 x3 x4 x5 x6
  cases vb <;> cases ob
  all_goals
    refine wp_region_later (by kernel_rfl) (by kernel_rfl) ?_
    repeat (first | go_big_quiet_step (first | (go_at_call 10; exact later_call _ (HV1.out _)) | (go_at_call 11; exact later_call _ (HV2.out _)) | (go_at_call 12; exact later_call _ (HS.out _)) | (go_at_call 13; exact later_call _ (wakes05 _))) | quiet_step (first | (go_at_call 10; exact later_call _ (HV1.out _)) | (go_at_call 11; exact later_call _ (HV2.out _)) | (go_at_call 12; exact later_call _ (HS.out _)) | (go_at_call 13; exact later_call _ (wakes05 _))))
    refine wpQuiet_nil ?_
    intro _ hw'
    obtain ⟨⟨w3, hb3⟩, hw'⟩ := hw'
    subst hw'
    go_wp2
    go_ret
    exact ⟨rfl, Below.then HB2.out hb3 HB2.out.size⟩
end Go.Proofs.Ytckjhbmkhkholaa.reqsValid
