/- The walks of the reference's pen: requests, lists, certificates, parts. Printed by gen_pen2.py. -/
import Derived.Test.YtnlnkcljehafkaaPq
namespace Go.Proofs.Ytnlnkcljehafkaa
open Go.RowKit
set_option linter.unusedVariables false

set_option maxRecDepth 100000 in
theorem pen_req (c t k y v s : Int) (S : Nat → Prop) (g : Nat) (out : List UInt8) (bad : Bool) (w : World) (hW : Wr 83 w S g out bad) (hb : out.length + 36 ≤ 1099511627776) :
    Calls Try.prog 50 #[.pointer (some ⟨g, 0, none⟩), .agg #[.int .i64 c, .int .i64 t, .int .i64 k, .int .i64 y, .int .i64 v, .int .i64 s]] w (WrOk 83 (Psp.encR ⟨c, t, k, y, v, s⟩) (Psp.okR ⟨c, t, k, y, v, s⟩) 36 S g out bad w) := by
  have HW := Lib.hid (hW.below (alloc_below w (.cells #[.int .i64 c, .int .i64 t, .int .i64 k, .int .i64 y, .int .i64 v, .int .i64 s] 26)))
  have hS : ¬ S w.heap.size := hW.off (Nat.le_refl _)
  have Hl0 := Lib.hid (lies_new w [iv c, iv t, iv k, iv y, iv v, iv s] 26 _ rfl)
  have hz0 : w.heap.size < (w.alloc (.cells #[.int .i64 c, .int .i64 t, .int .i64 k, .int .i64 y, .int .i64 v, .int .i64 s] 26)).heap.size := by simp
  have Hz0 := Lib.hid hz0
  clear hW hz0
  go_enter Try.func50, Try.ntmps50
  go_wp2_with fail
  refine (pen_number c S _ out bad _ (WrS.start HW.out).wr (by omega)).mono ?_
  intro e w1 hc
  obtain ⟨rfl, S1, o1, b1, h1⟩ := (WrS.start HW.out).step hc
  have hbx := h1.lies Hl0.out Hz0.out hS
  have x1 := hbx.at_ (j := 1) (by simp)
  simp only [Nat.zero_add, List.getElem_cons_succ, List.getElem_cons_zero, iv] at x1
  have hl1 := h1.wrote.islen
  have H1 := Lib.hid h1
  clear hc h1 hbx
  go_wp2_with fail
  refine (pen_number t S1 _ o1 b1 _ H1.out.wr (by omega)).mono ?_
  intro e w2 hc
  obtain ⟨rfl, S2, o2, b2, h2⟩ := H1.out.step hc
  have hbx := h2.lies Hl0.out Hz0.out hS
  have x2 := hbx.at_ (j := 2) (by simp)
  simp only [Nat.zero_add, List.getElem_cons_succ, List.getElem_cons_zero, iv] at x2
  have hl2 := h2.wrote.islen
  have H2 := Lib.hid h2
  clear hc h2 hbx x1
  go_wp2_with fail
  refine (pen_number k S2 _ o2 b2 _ H2.out.wr (by omega)).mono ?_
  intro e w3 hc
  obtain ⟨rfl, S3, o3, b3, h3⟩ := H2.out.step hc
  have hbx := h3.lies Hl0.out Hz0.out hS
  have x3 := hbx.at_ (j := 3) (by simp)
  simp only [Nat.zero_add, List.getElem_cons_succ, List.getElem_cons_zero, iv] at x3
  have hl3 := h3.wrote.islen
  have H3 := Lib.hid h3
  clear hc h3 hbx x2
  go_wp2_with fail
  refine (pen_signed y S3 _ o3 b3 _ H3.out.wr (by omega)).mono ?_
  intro e w4 hc
  obtain ⟨rfl, S4, o4, b4, h4⟩ := H3.out.step hc
  have hbx := h4.lies Hl0.out Hz0.out hS
  have x4 := hbx.at_ (j := 4) (by simp)
  simp only [Nat.zero_add, List.getElem_cons_succ, List.getElem_cons_zero, iv] at x4
  have hl4 := h4.wrote.islen
  have H4 := Lib.hid h4
  clear hc h4 hbx x3
  go_wp2_with fail
  refine (pen_signed v S4 _ o4 b4 _ H4.out.wr (by omega)).mono ?_
  intro e w5 hc
  obtain ⟨rfl, S5, o5, b5, h5⟩ := H4.out.step hc
  have hbx := h5.lies Hl0.out Hz0.out hS
  have x5 := hbx.at_ (j := 5) (by simp)
  simp only [Nat.zero_add, List.getElem_cons_succ, List.getElem_cons_zero, iv] at x5
  have hl5 := h5.wrote.islen
  have H5 := Lib.hid h5
  clear hc h5 hbx x4
  go_wp2_with fail
  refine (pen_number s S5 _ o5 b5 _ H5.out.wr (by omega)).mono ?_
  intro e w6 hc
  obtain ⟨rfl, S6, o6, b6, h6⟩ := H5.out.step hc
  have H6 := Lib.hid h6
  clear hc h6 x5
  go_wp2_with fail
  go_end0
  exact ((H6.out.of (by simp [Psp.encR]) (by simp [Psp.okR, Bool.and_assoc])).done (by omega)).from_ (alloc_below _ _)

end Go.Proofs.Ytnlnkcljehafkaa
