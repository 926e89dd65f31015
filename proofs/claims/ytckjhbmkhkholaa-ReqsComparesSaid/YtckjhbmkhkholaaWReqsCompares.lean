/- The walk of ReqsCompares. -/
import Derived.Test.YtckjhbmkhkholaaWk5
import Derived.Test.YtckjhbmkhkholaaCmpP
import Derived.Deep.CutBlock
namespace Go.Proofs.Ytckjhbmkhkholaa.reqsCompares
open Go.RowKit
set_option linter.unusedVariables false

abbrev agr (r : Psp.Req) : Value := .agg #[.int .i64 r.c, .int .i64 r.t, .int .i64 r.k, .int .i64 r.y, .int .i64 r.v, .int .i64 r.s]
theorem three_rows (w : World) (a b c : Array Value) (T : TypeId) (W : World) (h : W = ((w.alloc (.cells a T)).alloc (.cells b T)).alloc (.cells c T)) :
    W.heap[w.heap.size]? = some (.cells a T (0, 0)) ∧ W.heap[w.heap.size + 1]? = some (.cells b T (0, 0)) ∧ W.heap[w.heap.size + 1 + 1]? = some (.cells c T (0, 0)) ∧ Below w.heap.size w W := by
  subst h
  have h1 := heap_alloc_new w (.cells a T)
  have h2 := heap_alloc_new (w.alloc (.cells a T)) (.cells b T)
  have h3 := heap_alloc_new ((w.alloc (.cells a T)).alloc (.cells b T)) (.cells c T)
  refine ⟨((alloc_below _ _).block w.heap.size (by simp; omega)).trans (((alloc_below _ _).block w.heap.size (by simp)).trans h1), ((alloc_below _ _).block (w.heap.size + 1) (by simp)).trans (by simpa using h2), by simpa using h3, ?_⟩
  exact ((alloc_below w _).trans ((alloc_below _ _).mono (by simp))).trans ((alloc_below _ _).mono (by simp; omega))

set_option maxRecDepth 100000 in
set_option maxHeartbeats 8000000 in
theorem walk (a b c : Psp.Req) (w : World) (ha : wfReq a) (hb : wfReq b) (hc : wfReq c) :
    Calls Try.prog 5 #[.agg (rq a).toArray, .agg (rq b).toArray, .agg (rq c).toArray] w fun e w' => e = .returned (.bool true) ∧ Below w.heap.size w w' := by
  obtain ⟨x, hx⟩ : ∃ x, Psp.cmpR a b = x := ⟨_, rfl⟩
  obtain ⟨y, hy⟩ : ∃ y, Psp.cmpR b c = y := ⟨_, rfl⟩
  obtain ⟨z, hz⟩ : ∃ z, Psp.cmpR a c = z := ⟨_, rfl⟩
  have hxb : x = -1 ∨ x = 0 ∨ x = 1 := by rw [← hx]; exact Psp.cmpR_bd a b
  have hyb : y = -1 ∨ y = 0 ∨ y = 1 := by rw [← hy]; exact Psp.cmpR_bd b c
  have hzb : z = -1 ∨ z = 0 ∨ z = 1 := by rw [← hz]; exact Psp.cmpR_bd a c
  have hle : x ≤ 0 → y ≤ 0 → z ≤ 0 := by rw [← hx, ← hy, ← hz]; exact Psp.cmpR_le
  have hge : 0 ≤ x → 0 ≤ y → 0 ≤ z := by rw [← hx, ← hy, ← hz]; exact Psp.cmpR_ge
  have hba : Psp.cmpR b a = -x := by rw [Psp.cmpR_swap, hx]
  have haa : Psp.cmpR a a = 0 := Psp.cmpR_zero.2 rfl
  have hab : x = 0 ↔ a = b := by rw [← hx]; exact Psp.cmpR_zero
  have Hx := Lib.hid hx
  have Hy := Lib.hid hy
  have Hz := Lib.hid hz
  have Hba := Lib.hid hba
  have Haa := Lib.hid haa
  have Hab := Lib.hid hab
  have Hle := Lib.hid hle
  have Hge := Lib.hid hge
  clear hx hy hz hba haa hab ha hb hc hle hge
  obtain ⟨W, hW⟩ : ∃ W, W = ((w.alloc (.cells #[.int .i64 a.c, .int .i64 a.t, .int .i64 a.k, .int .i64 a.y, .int .i64 a.v, .int .i64 a.s] 25)).alloc (.cells #[.int .i64 b.c, .int .i64 b.t, .int .i64 b.k, .int .i64 b.y, .int .i64 b.v, .int .i64 b.s] 25)).alloc (.cells #[.int .i64 c.c, .int .i64 c.t, .int .i64 c.k, .int .i64 c.y, .int .i64 c.v, .int .i64 c.s] 25) := ⟨_, rfl⟩
  obtain ⟨r1, r2, r3, hB⟩ := three_rows w _ _ _ _ W hW
  have HW := Lib.hid hW
  have HB0 := Lib.hid hB
  have HR1 := Lib.hid r1
  have HR2 := Lib.hid r2
  clear hW hB
  obtain ⟨x0, x1, x2, x3, x4, x5, _⟩ := rst_cells (r := a) r1
  obtain ⟨y0, y1, y2, y3, y4, y5, _⟩ := rst_cells (r := b) r2
  obtain ⟨z0, z1, z2, z3, z4, z5, _⟩ := rst_cells (r := c) r3
  clear r1 r2 r3
  go_enter Try.func5, Try.ntmps5
  simp only [rq, iv]
  go_wp2_with fail
  rw [← HW.out]
  have CX0 := later_cell x0
  have CX1 := later_cell x1
  have CX2 := later_cell x2
  have CX3 := later_cell x3
  have CX4 := later_cell x4
  have CX5 := later_cell x5
  have CY0 := later_cell y0
  have CY1 := later_cell y1
  have CY2 := later_cell y2
  have CY3 := later_cell y3
  have CY4 := later_cell y4
  have CY5 := later_cell y5
  have CZ0 := later_cell z0
  have CZ1 := later_cell z1
  have CZ2 := later_cell z2
  have CZ3 := later_cell z3
  have CZ4 := later_cell z4
  have CZ5 := later_cell z5
  clear x0 x1 x2 x3 x4 x5 y0 y1 y2 y3 y4 y5 z0 z1 z2 z3 z4 z5
  refine wp_region_later (by kernel_rfl) (by kernel_rfl) ?_
  repeat (first | go_big_quiet_step (first | (go_at_call 18; exact later_call _ (compare_any _ _ _))) | quiet_step (first | (go_at_call 18; exact later_call _ (compare_any _ _ _))))
  refine wpQuiet_nil ?_
  intro w1 hw'
  obtain ⟨⟨wq, hbq⟩, hw'⟩ := hw'
  have hb1 : Below W.heap.size W w1 := by rw [hw']; exact hbq
  clear hw' hbq
  clear CX0 CX1 CX2 CX3 CX4 CX5 CY0 CY1 CY2 CY3 CY4 CY5 CZ0 CZ1 CZ2 CZ3 CZ4 CZ5
  rw [Hx.out, Hy.out, Hz.out]
  go_upto_region 2 with fail
  go_cut [38] from 19 to 38 (fun xx wx => xx = .bool false ∧ Below w1.heap.size w1 wx)
  case first =>
    rcases hxb with rfl | rfl | rfl
    · have hz1 := hb1.size
      have hr1 := (hb1.block w.heap.size (by have := (Array.getElem?_eq_some_iff.1 HR1.out).1; exact this)).trans HR1.out
      have hr2 := (hb1.block (w.heap.size + 1) (by have := (Array.getElem?_eq_some_iff.1 HR2.out).1; exact this)).trans HR2.out
      obtain ⟨x0, x1, x2, x3, x4, x5, _⟩ := rst_cells (r := a) hr1
      obtain ⟨y0, y1, y2, y3, y4, y5, _⟩ := rst_cells (r := b) hr2
      have HQ1 := Lib.hid hr1
      have HQ2 := Lib.hid hr2
      clear hr1 hr2
      go_wp2_with fail
      refine (compare_any b a w1).mono ?_
      rw [Hba.out]
      rintro e w2 ⟨rfl, hb2⟩
      have hr1 := (hb2.block w.heap.size (by have := (Array.getElem?_eq_some_iff.1 HQ1.out).1; exact this)).trans HQ1.out
      have hr2 := (hb2.block (w.heap.size + 1) (by have := (Array.getElem?_eq_some_iff.1 HQ2.out).1; exact this)).trans HQ2.out
      obtain ⟨x0, x1, x2, x3, x4, x5, _⟩ := rst_cells (r := a) hr1
      obtain ⟨y0, y1, y2, y3, y4, y5, _⟩ := rst_cells (r := b) hr2
      clear hr1 hr2
      have hne : decide (a = b) = false := decide_eq_false (fun h => by have := Hab.out.2 h; omega)
      go_wp2_with (refine list_val (by simp [Region.wanted, yielded]) (.bool false) ((exec_eql_req (.tmp 28) (.tmp 29) _ rfl a b rfl rfl).trans (by rw [hne])) ?_)
      refine (compare_any a a w2).mono ?_
      rw [Haa.out]
      rintro e w3 ⟨rfl, hb3⟩
      go_wp2_with fail
      go_meet
      exact ⟨rfl, Below.then hb2 hb3 hb2.size⟩
    · have hz1 := hb1.size
      have hr1 := (hb1.block w.heap.size (by have := (Array.getElem?_eq_some_iff.1 HR1.out).1; exact this)).trans HR1.out
      have hr2 := (hb1.block (w.heap.size + 1) (by have := (Array.getElem?_eq_some_iff.1 HR2.out).1; exact this)).trans HR2.out
      obtain ⟨x0, x1, x2, x3, x4, x5, _⟩ := rst_cells (r := a) hr1
      obtain ⟨y0, y1, y2, y3, y4, y5, _⟩ := rst_cells (r := b) hr2
      have HQ1 := Lib.hid hr1
      have HQ2 := Lib.hid hr2
      clear hr1 hr2
      go_wp2_with fail
      refine (compare_any b a w1).mono ?_
      rw [Hba.out]
      rintro e w2 ⟨rfl, hb2⟩
      have hr1 := (hb2.block w.heap.size (by have := (Array.getElem?_eq_some_iff.1 HQ1.out).1; exact this)).trans HQ1.out
      have hr2 := (hb2.block (w.heap.size + 1) (by have := (Array.getElem?_eq_some_iff.1 HQ2.out).1; exact this)).trans HQ2.out
      obtain ⟨x0, x1, x2, x3, x4, x5, _⟩ := rst_cells (r := a) hr1
      obtain ⟨y0, y1, y2, y3, y4, y5, _⟩ := rst_cells (r := b) hr2
      clear hr1 hr2
      have hee : decide (a = b) = true := decide_eq_true (Hab.out.1 (by first | rfl | trivial))
      go_wp2_with (refine list_val (by simp [Region.wanted, yielded]) (.bool true) ((exec_eql_req (.tmp 28) (.tmp 29) _ rfl a b rfl rfl).trans (by rw [hee])) ?_)
      refine (compare_any a a w2).mono ?_
      rw [Haa.out]
      rintro e w3 ⟨rfl, hb3⟩
      go_wp2_with fail
      go_meet
      exact ⟨rfl, Below.then hb2 hb3 hb2.size⟩
    · have hz1 := hb1.size
      have hr1 := (hb1.block w.heap.size (by have := (Array.getElem?_eq_some_iff.1 HR1.out).1; exact this)).trans HR1.out
      have hr2 := (hb1.block (w.heap.size + 1) (by have := (Array.getElem?_eq_some_iff.1 HR2.out).1; exact this)).trans HR2.out
      obtain ⟨x0, x1, x2, x3, x4, x5, _⟩ := rst_cells (r := a) hr1
      obtain ⟨y0, y1, y2, y3, y4, y5, _⟩ := rst_cells (r := b) hr2
      have HQ1 := Lib.hid hr1
      have HQ2 := Lib.hid hr2
      clear hr1 hr2
      go_wp2_with fail
      refine (compare_any b a w1).mono ?_
      rw [Hba.out]
      rintro e w2 ⟨rfl, hb2⟩
      have hr1 := (hb2.block w.heap.size (by have := (Array.getElem?_eq_some_iff.1 HQ1.out).1; exact this)).trans HQ1.out
      have hr2 := (hb2.block (w.heap.size + 1) (by have := (Array.getElem?_eq_some_iff.1 HQ2.out).1; exact this)).trans HQ2.out
      obtain ⟨x0, x1, x2, x3, x4, x5, _⟩ := rst_cells (r := a) hr1
      obtain ⟨y0, y1, y2, y3, y4, y5, _⟩ := rst_cells (r := b) hr2
      clear hr1 hr2
      have hne : decide (a = b) = false := decide_eq_false (fun h => by have := Hab.out.2 h; omega)
      go_wp2_with (refine list_val (by simp [Region.wanted, yielded]) (.bool false) ((exec_eql_req (.tmp 28) (.tmp 29) _ rfl a b rfl rfl).trans (by rw [hne])) ?_)
      refine (compare_any a a w2).mono ?_
      rw [Haa.out]
      rintro e w3 ⟨rfl, hb3⟩
      go_wp2_with fail
      go_meet
      exact ⟨rfl, Below.then hb2 hb3 hb2.size⟩
  case' rest =>
    obtain ⟨rfl, hbc⟩ := hcut
    have HBc := Lib.hid (hb1.trans (hbc.mono hb1.size))
    clear hb1 hbc
    rcases hxb with rfl | rfl | rfl <;> rcases hyb with rfl | rfl | rfl <;> rcases hzb with rfl | rfl | rfl
    all_goals
      first
        | (exfalso; have h1 := Hle.out; have h2 := Hge.out; omega)
        | (go_wp2_with fail
           refine (wakes05 _).mono ?_
           rintro e w9 ⟨rfl, hb⟩
           have HB9 := Lib.hid ((HB0.out.trans (HBc.out.mono HB0.out.size)).trans (hb.mono (Nat.le_trans HB0.out.size HBc.out.size)))
           clear hb
           go_wp2_with fail
           go_ret
           exact ⟨rfl, HB9.out⟩)
end Go.Proofs.Ytckjhbmkhkholaa.reqsCompares
