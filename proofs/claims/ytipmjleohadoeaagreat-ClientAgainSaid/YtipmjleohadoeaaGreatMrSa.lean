/- The walk of the reference's Body. Printed by gen_mr.py. -/
import Derived.Test.YtipmjleohadoeaaGreatBxSa
import Derived.Test.YtipmjleohadoeaaGreatGdSa
namespace Go.Proofs.YtipmjleohadoeaaGreat
open Go.RowKit
set_option linter.unusedVariables false

theorem pen_parts2 (l : List Psp.Part) (x : Value) (S : Nat → Prop) (g : Nat) (out : List UInt8) (bad : Bool) (w : World) (hW : Wr 131 w S g out bad) (hx : RdA w (fun b => ¬ S b) x l) (hb : out.length + 808065030 ≤ 1099511627776) :
    Calls Tryz.prog 69 #[.pointer (some ⟨g, 0, none⟩), x] w (WrOk 131 (Psp.encL Psp.encP l) (Psp.okL Psp.okP l) 808065030 S g out bad w) := by
  obtain ⟨L, rfl, h1, h2⟩ := hx
  exact pen_parts L L.length x S g out bad w hW rfl h1 h2 hb

set_option maxRecDepth 100000 in
set_option maxHeartbeats 4000000 in
theorem rbody_m (m : Psp.Msg) (vb vo vc vp : Value) (w : World) (hx : MsgOk w (fun b => b < w.heap.size) ⟨m, vb, vo, vc, vp⟩) :
    Calls Tryz.prog 41 #[.agg #[.int .i64 m.k, .int .i64 m.f, .int .i64 m.v, .int .i64 m.i, .int .i64 m.q, .int .i64 m.r, vb, vo, vc, vp]] w (Bytes (Psp.encM m) (Psp.okB m) w) := by
  have o0 : vb.oneCell' = true := RdP.one hx.1
  have o1 : vo.oneCell' = true := RdP.one hx.2.1
  have o2 : vc.oneCell' = true := hx.2.2.1.one
  have o3 : vp.oneCell' = true := hx.2.2.2.one
  obtain ⟨w1, hw1⟩ : ∃ w1, w1 = (w.alloc (.cells #[.int .i64 m.k, .int .i64 m.f, .int .i64 m.v, .int .i64 m.i, .int .i64 m.q, .int .i64 m.r, vb, vo, vc, vp] 56)).alloc (.cells #[.slice none 0 0, .bool false] 131) := ⟨_, rfl⟩
  have hnew : Wr 131 w1 (fun k => k = w.heap.size + 1) (w.heap.size + 1) [] false := by rw [hw1]; exact Wr.new (w.alloc (.cells #[.int .i64 m.k, .int .i64 m.f, .int .i64 m.v, .int .i64 m.i, .int .i64 m.q, .int .i64 m.r, vb, vo, vc, vp] 56)) _ _ (by simp)
  have hbox : w1.heap[w.heap.size]? = some (.cells #[.int .i64 m.k, .int .i64 m.f, .int .i64 m.v, .int .i64 m.i, .int .i64 m.q, .int .i64 m.r, vb, vo, vc, vp] 56 (0, 0)) := by rw [hw1, (alloc_below _ _).block _ (by simp)]; exact heap_alloc_new w _
  have hbl : Below w.heap.size w w1 := by rw [hw1]; exact (alloc_below w _).trans ((alloc_below _ _).mono (by simp))
  have hsz : w.heap.size + 1 < w1.heap.size := by rw [hw1]; simp
  have hx1 : MsgOk w1 (fun b => ¬ b = w.heap.size + 1) ⟨m, vb, vo, vc, vp⟩ := hx.keeps ⟨hbl.size, fun b hb hlt => ⟨hbl.block b hlt, by omega⟩⟩
  have HX := Lib.hid hx1
  have Hbl := Lib.hid hbl
  have Hbox := Lib.hid hbox
  have HS := Lib.hid (WrS.start hnew)
  have hwW := hw1
  clear hx hx1 hbl hbox hnew hw1
  go_enter Tryz.func41, Tryz.ntmps41
  go_upto_region 2 with fail
  rw [← hwW]
  clear hwW
  have y0 : w.heap.size < w1.heap.size := by omega
  have hb0 := (HS.out.fp.block w.heap.size y0 (by show ¬ w.heap.size = w.heap.size + 1; omega)).trans Hbox.out
  have x0 : w1.cell? ⟨w.heap.size, 0, none⟩ = some (.int .i64 m.k) := by rw [cell_of_row _ _ 0 _ _ _ hb0]; rfl
  have hl0 := HS.out.wrote.islen
  clear hb0
  go_wp2_with fail
  refine (pen_number m.k _ (w.heap.size + 1) [] false w1 HS.out.wr (by have := hl0; simp only [List.length_nil] at this ⊢; omega)).mono ?_
  intro e v0 hc
  obtain ⟨rfl, S0, p0, q0, h2⟩ := HS.out.step hc
  replace HS := Lib.hid h2
  clear h2 hc x0 hl0
  have hb1 := (HS.out.fp.block w.heap.size y0 (by show ¬ w.heap.size = w.heap.size + 1; omega)).trans Hbox.out
  have x1 : v0.cell? ⟨w.heap.size, 1, none⟩ = some (.int .i64 m.f) := by rw [cell_of_row _ _ 1 _ _ _ hb1]; rfl
  have hl1 := HS.out.wrote.islen
  clear hb1
  go_wp2_with fail
  refine (pen_number m.f _ (w.heap.size + 1) p0 q0 v0 HS.out.wr (by have := hl1; simp only [List.length_nil] at this ⊢; omega)).mono ?_
  intro e v1 hc
  obtain ⟨rfl, S1, p1, q1, h2⟩ := HS.out.step hc
  replace HS := Lib.hid h2
  clear h2 hc x1 hl1
  have hb2 := (HS.out.fp.block w.heap.size y0 (by show ¬ w.heap.size = w.heap.size + 1; omega)).trans Hbox.out
  have x2 : v1.cell? ⟨w.heap.size, 2, none⟩ = some (.int .i64 m.v) := by rw [cell_of_row _ _ 2 _ _ _ hb2]; rfl
  have hl2 := HS.out.wrote.islen
  clear hb2
  go_wp2_with fail
  refine (pen_number m.v _ (w.heap.size + 1) p1 q1 v1 HS.out.wr (by have := hl2; simp only [List.length_nil] at this ⊢; omega)).mono ?_
  intro e v2 hc
  obtain ⟨rfl, S2, p2, q2, h2⟩ := HS.out.step hc
  replace HS := Lib.hid h2
  clear h2 hc x2 hl2
  have hb3 := (HS.out.fp.block w.heap.size y0 (by show ¬ w.heap.size = w.heap.size + 1; omega)).trans Hbox.out
  have x3 : v2.cell? ⟨w.heap.size, 3, none⟩ = some (.int .i64 m.i) := by rw [cell_of_row _ _ 3 _ _ _ hb3]; rfl
  have hl3 := HS.out.wrote.islen
  clear hb3
  go_wp2_with fail
  refine (pen_number m.i _ (w.heap.size + 1) p2 q2 v2 HS.out.wr (by have := hl3; simp only [List.length_nil] at this ⊢; omega)).mono ?_
  intro e v3 hc
  obtain ⟨rfl, S3, p3, q3, h2⟩ := HS.out.step hc
  replace HS := Lib.hid h2
  clear h2 hc x3 hl3
  have hb4 := (HS.out.fp.block w.heap.size y0 (by show ¬ w.heap.size = w.heap.size + 1; omega)).trans Hbox.out
  have x4 : v3.cell? ⟨w.heap.size, 4, none⟩ = some (.int .i64 m.q) := by rw [cell_of_row _ _ 4 _ _ _ hb4]; rfl
  have hl4 := HS.out.wrote.islen
  clear hb4
  go_wp2_with fail
  refine (pen_number m.q _ (w.heap.size + 1) p3 q3 v3 HS.out.wr (by have := hl4; simp only [List.length_nil] at this ⊢; omega)).mono ?_
  intro e v4 hc
  obtain ⟨rfl, S4, p4, q4, h2⟩ := HS.out.step hc
  replace HS := Lib.hid h2
  clear h2 hc x4 hl4
  have hb5 := (HS.out.fp.block w.heap.size y0 (by show ¬ w.heap.size = w.heap.size + 1; omega)).trans Hbox.out
  have x5 : v4.cell? ⟨w.heap.size, 5, none⟩ = some (.int .i64 m.r) := by rw [cell_of_row _ _ 5 _ _ _ hb5]; rfl
  have hl5 := HS.out.wrote.islen
  clear hb5
  go_wp2_with fail
  refine (pen_signed m.r _ (w.heap.size + 1) p4 q4 v4 HS.out.wr (by have := hl5; simp only [List.length_nil] at this ⊢; omega)).mono ?_
  intro e v5 hc
  obtain ⟨rfl, S5, p5, q5, h2⟩ := HS.out.step hc
  replace HS := Lib.hid h2
  clear h2 hc x5 hl5
  have hb6 := (HS.out.fp.block w.heap.size y0 (by show ¬ w.heap.size = w.heap.size + 1; omega)).trans Hbox.out
  have x6 : v5.cell? ⟨w.heap.size, 6, none⟩ = some (vb) := by rw [cell_of_row _ _ 6 _ _ _ hb6]; rfl
  have hl6 := HS.out.wrote.islen
  clear hb6
  go_wp2_with fail
  refine (pen_batch m.b m.b.length vb _ (w.heap.size + 1) p5 q5 v5 HS.out.wr rfl (HX.out.keeps HS.out.keeps).1 (by have := hl6; simp only [List.length_nil] at this ⊢; omega)).mono ?_
  intro e v6 hc
  obtain ⟨rfl, S6, p6, q6, h2⟩ := HS.out.step hc
  replace HS := Lib.hid h2
  clear h2 hc x6 hl6
  have hb7 := (HS.out.fp.block w.heap.size y0 (by show ¬ w.heap.size = w.heap.size + 1; omega)).trans Hbox.out
  have x7 : v6.cell? ⟨w.heap.size, 7, none⟩ = some (vo) := by rw [cell_of_row _ _ 7 _ _ _ hb7]; rfl
  have hl7 := HS.out.wrote.islen
  clear hb7
  go_wp2_with fail
  refine (pen_votes m.o m.o.length vo _ (w.heap.size + 1) p6 q6 v6 HS.out.wr rfl (HX.out.keeps HS.out.keeps).2.1 (by have := hl7; simp only [List.length_nil] at this ⊢; omega)).mono ?_
  intro e v7 hc
  obtain ⟨rfl, S7, p7, q7, h2⟩ := HS.out.step hc
  replace HS := Lib.hid h2
  clear h2 hc x7 hl7
  have hb8 := (HS.out.fp.block w.heap.size y0 (by show ¬ w.heap.size = w.heap.size + 1; omega)).trans Hbox.out
  have x8 : v7.cell? ⟨w.heap.size, 8, none⟩ = some (vc) := by rw [cell_of_row _ _ 8 _ _ _ hb8]; rfl
  have hl8 := HS.out.wrote.islen
  clear hb8
  go_wp2_with fail
  refine (pen_certs2 m.c vc _ (w.heap.size + 1) p7 q7 v7 HS.out.wr (HX.out.keeps HS.out.keeps).2.2.1 (by have := hl8; simp only [List.length_nil] at this ⊢; omega)).mono ?_
  intro e v8 hc
  obtain ⟨rfl, S8, p8, q8, h2⟩ := HS.out.step hc
  replace HS := Lib.hid h2
  clear h2 hc x8 hl8
  have hb9 := (HS.out.fp.block w.heap.size y0 (by show ¬ w.heap.size = w.heap.size + 1; omega)).trans Hbox.out
  have x9 : v8.cell? ⟨w.heap.size, 9, none⟩ = some (vp) := by rw [cell_of_row _ _ 9 _ _ _ hb9]; rfl
  have hl9 := HS.out.wrote.islen
  clear hb9
  go_wp2_with fail
  refine (pen_parts2 m.p vp _ (w.heap.size + 1) p8 q8 v8 HS.out.wr (HX.out.keeps HS.out.keeps).2.2.2 (by have := hl9; simp only [List.length_nil] at this ⊢; omega)).mono ?_
  intro e v9 hc
  obtain ⟨rfl, S9, p9, q9, h2⟩ := HS.out.step hc
  replace HS := Lib.hid h2
  clear h2 hc x9 hl9
  have hl := HS.out.wrote.islen
  have hbel : Below w.heap.size w v9 := Hbl.out.trans (HS.out.fp.to_below (by omega) fun k _ hk => by omega)
  have hsub : ∀ k, S9 k → w.heap.size ≤ k := fun k hk => by
    rcases HS.out.sub k hk with h | h
    · omega
    · omega
  have hG : q9 = !Psp.okM m := by
    rw [HS.out.wrote.isbad]
    unfold Psp.okM
    simp only [Bool.false_or, Bool.true_and, Bool.and_assoc]
  have hE : q9 = false → p9 = Psp.encM m := fun h => by
    rw [HS.out.wrote.isout h]
    unfold Psp.encM
    simp only [List.nil_append, List.append_assoc]
  have HG := Lib.hid hG
  have HE := Lib.hid hE
  have Hbel := Lib.hid hbel
  have Hsub := Lib.hid hsub
  have HW := Lib.hid HS.out.wr
  clear hl hbel hsub hG hE HS Hbl Hbox HX
  cases q9 with
  | true =>
    have hm0 : Psp.okM m = false := by have := HG.out; cases h : Psp.okM m with
      | false => rfl
      | true => rw [h] at this; cases this
    have hok : Psp.okB m = false := by unfold Psp.okB; rw [hm0]; rfl
    have Hok := Lib.hid hok
    clear hok
    go_wp2_with fail
    refine (done_p_bad S9 (w.heap.size + 1) p9 v9 HW.out).mono ?_
    rintro en w3 ⟨rfl, rfl⟩
    go_wp2_with fail
    go_ret2
    exact ⟨_, ret_pair _ Hok.out, by rw [Hok.out]; exact World.ownsRow_nil _ _ _ _, Hbel.out⟩
  | false =>
    have he := HE.out rfl
    subst he
    have hm : Psp.okM m = true := by have := HG.out; cases h : Psp.okM m with
      | true => rfl
      | false => rw [h] at this; cases this
    go_wp2_with fail
    refine (done_p_good S9 (w.heap.size + 1) (Psp.encM m) v9 HW.out).mono ?_
    rintro en w3 ⟨⟨v, rfl, hown, hS⟩, rfl⟩
    have hown2 := own_base hown fun b hb => Hsub.out b (hS b hb)
    obtain ⟨A, c, rfl, hc1, hc2, _⟩ := own_slice hown2
    have Hown := Lib.hid hown2
    clear hown hown2 hS
    by_cases hbig : (Psp.encM m).length ≤ 65536
    · have hok : Psp.okB m = true := by unfold Psp.okB; rw [hm, decide_eq_true hbig]; rfl
      have Hok := Lib.hid hok
      have d1 : decide (((Psp.encM m).length : Int) > 65536) = false := by simp; omega
      clear hok hm HE HG
      go_wp2_with fail
      go_ret2
      exact ⟨_, ret_pair _ Hok.out, by rw [Hok.out]; exact Hown.out, Hbel.out⟩
    · have hok : Psp.okB m = false := by unfold Psp.okB; rw [decide_eq_false hbig, Bool.and_false]
      have Hok := Lib.hid hok
      have d1 : decide (((Psp.encM m).length : Int) > 65536) = true := by simp; omega
      clear hok hm HE HG
      go_wp2_with fail
      go_ret2
      exact ⟨_, ret_pair _ Hok.out, by rw [Hok.out]; exact World.ownsRow_nil _ _ _ _, Hbel.out⟩
end Go.Proofs.YtipmjleohadoeaaGreat
