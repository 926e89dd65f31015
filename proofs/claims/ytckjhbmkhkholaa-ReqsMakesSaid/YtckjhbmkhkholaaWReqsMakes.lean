/- The walk of ReqsMakes. -/
import Derived.Test.YtckjhbmkhkholaaWk5
import Derived.Deep.CutBlock
namespace Go.Proofs.Ytckjhbmkhkholaa.reqsMakes
open Go.RowKit
set_option linter.unusedVariables false

theorem op_cells {w : World} {g : Nat} {k y v : Int} (h : w.heap[g]? = some (.cells #[.int .i64 k, .int .i64 y, .int .i64 v] 23 (0, 0))) :
    w.cell? ⟨g, 0, none⟩ = some (.int .i64 k) ∧ w.cell? ⟨g, 1, none⟩ = some (.int .i64 y) ∧ w.cell? ⟨g, 2, none⟩ = some (.int .i64 v) := by
  have hc := fun j => cell_of_row w g j _ _ _ h
  exact ⟨(hc 0).trans rfl, (hc 1).trans rfl, (hc 2).trans rfl⟩
theorem two_rows {w2 w3 : World} {a b : Array Value} {T : TypeId} (h : Below ((w2.alloc (.cells a T)).alloc (.cells b T)).heap.size ((w2.alloc (.cells a T)).alloc (.cells b T)) w3) :
    w3.heap[w2.heap.size]? = some (.cells a T (0, 0)) ∧ w3.heap[w2.heap.size + 1]? = some (.cells b T (0, 0)) ∧ Below w2.heap.size w2 w3 := by
  refine ⟨(h.block _ (by simp; omega)).trans (((alloc_below _ _).block w2.heap.size (by simp)).trans (heap_alloc_new w2 _)), (h.block _ (by simp)).trans ?_, (((alloc_below w2 _).trans ((alloc_below _ _).mono (by simp)))).trans (h.mono (by simp; omega))⟩
  simpa using heap_alloc_new (w2.alloc (.cells a T)) (.cells b T)
theorem ok_of_valid {r : Psp.Req} {cl : Int} (h : Psp.valid r cl = true) (hc : cl ≤ 1099511627776) : Psp.okR (bare r) = true := by
  have := of_decide_eq_true h
  simp only [Psp.okR, bare, Bool.and_eq_true, Psp.okN_iff, Psp.okS_iff]
  omega
theorem valid_one {c t k y v cl : Int} (h : Psp.valid ⟨c, t, k, y, v, 0⟩ cl = true) : Psp.valid ⟨c, t, k, y, v, 1⟩ cl = true := by
  have := of_decide_eq_true h
  simp only at this
  refine decide_eq_true ?_
  simp only
  omega

set_option maxRecDepth 100000 in
set_option maxHeartbeats 4000000 in
theorem walk (clients c t : Int) (op : Int × Int × Int) (w : World) (hcl : isI64 clients) (hc : isI64 c) (ht : isI64 t) (ho : isI64 op.1 ∧ isI64 op.2.1 ∧ isI64 op.2.2) :
    Calls Try.prog 4 #[.int .i64 clients, .int .i64 c, .int .i64 t, .agg ([iv op.1, iv op.2.1, iv op.2.2] : List Value).toArray] w fun e w' => e = .returned (.bool true) ∧ Below w.heap.size w w' := by
  obtain ⟨k, y, v⟩ := op
  simp only [iv]
  have HB0 := Lib.hid (alloc_below w (.cells #[.int .i64 k, .int .i64 y, .int .i64 v] 23))
  have HC0 := Lib.hid (heap_alloc_new w (.cells #[.int .i64 k, .int .i64 y, .int .i64 v] 23))
  clear ho hc ht
  go_enter Try.func4, Try.ntmps4
  go_upto_region 1 with fail
  go_cut [0] from 13 to 14 (fun x wx => (w.alloc (.cells #[.int .i64 k, .int .i64 y, .int .i64 v] 23)) = wx ∧ ∃ cl : Int, x = .int .i64 cl ∧ cl ≤ 1073741824)
  case first =>
    go_wp2_with fail
    all_goals
      go_meet
      exact ⟨rfl, _, rfl, by omega⟩
  case' rest =>
    obtain ⟨rfl, cl, rfl, hcl2⟩ := hcut
    go_wp2_with fail
    refine (nt_new _).mono ?_
    rintro e w1 ⟨g, bm, rfl, hN, hb, hg, hbm⟩
    have hz0 : (w.alloc (.cells #[.int .i64 k, .int .i64 y, .int .i64 v] 23)).heap.size = w.heap.size + 1 := by simp
    rw [hz0] at hg hbm
    have HN1 := Lib.hid hN
    have HB1 := Lib.hid (Below.then HB0.out hb HB0.out.size)
    have hrow1 := (hb.block w.heap.size (by simp)).trans HC0.out
    have HC1 := Lib.hid hrow1
    have hw1 : w.heap.size < w1.heap.size := (Array.getElem?_eq_some_iff.1 hrow1).1
    obtain ⟨y0, y1, y2⟩ := op_cells hrow1
    clear hN hb hz0 hrow1 HB0 HC0
    by_cases hv : Psp.valid ⟨c, t, k, y, v, 0⟩ cl = true
    case' neg =>
      have hv' : Psp.valid ⟨c, t, k, y, v, 0⟩ cl = false := by simpa using hv
      have HV := Lib.hid hv'
      clear hv hv'
      go_wp2_with fail
      refine (make_not g cl c t k y v w1 HV.out).mono ?_
      rintro e w2 ⟨rfl, hb⟩
      have HB2 := Lib.hid (Below.then HB1.out hb HB1.out.size)
      have hrow2 := (hb.block w.heap.size hw1).trans HC1.out
      obtain ⟨y0, y1, y2⟩ := op_cells hrow2
      have HN2 := Lib.hid (HN1.out.below hb)
      have hw2 : w.heap.size < w2.heap.size := (Array.getElem?_eq_some_iff.1 hrow2).1
      clear hb hrow2
      go_wp2_with fail
      refine (rvalid_any ⟨c, t, k, y, v, 0⟩ cl _).mono ?_
      rintro e w3 ⟨rfl, hb⟩
      rw [HV.out]
      obtain ⟨r1, r2, hb3⟩ := two_rows hb
      have HB3 := Lib.hid (Below.then HB2.out hb3 HB2.out.size)
      have HN3 := Lib.hid (HN2.out.below hb3)
      obtain ⟨x0, x1, x2, x3, x4, x5, x6⟩ := rst_cells (r := zR) r1
      simp only at x0 x1 x2 x3 x4 x5
      clear hb hb3 r1 r2 y0 y1 y2
      go_wp2_with fail
      refine (nt_len g bm [] w3 HN3.out).mono ?_
      rintro e w' ⟨rfl, rfl⟩
      rw [show ((([] : List Key).length : Nat) : Int) = 0 from rfl]
      go_wp2_with fail
      refine (wakes05 _).mono ?_
      rintro e w9 ⟨rfl, hb⟩
      have HB9 := Lib.hid (Below.then HB3.out hb HB3.out.size)
      clear hb
      go_wp2_with fail
      go_ret
      exact ⟨rfl, HB9.out⟩
    case' pos =>
      have HV := Lib.hid hv
      have hlt := HN1.out.lt
      clear hv
      obtain ⟨kk, hkk⟩ : ∃ kk, kR ⟨c, t, k, y, v, 0⟩ = kk := ⟨_, rfl⟩
      go_wp2_with fail
      refine (make_yes g bm [] cl c t k y v w1 HN1.out (by simp) (by omega) HV.out).mono ?_
      rw [hkk, sealN_nil, sealL_nil]
      rintro e w2 ⟨rfl, hN, hf⟩
      have hrow2 := (hf.block w.heap.size hw1 (by omega)).trans HC1.out
      obtain ⟨y0, y1, y2⟩ := op_cells hrow2
      have hw2 : w.heap.size < w2.heap.size := (Array.getElem?_eq_some_iff.1 hrow2).1
      have HB2 := Lib.hid (HB1.out.trans (hf.to_below (B := w.heap.size) (by omega) (fun k _ h => by omega)))
      have HN2 := Lib.hid hN
      have Hkk := Lib.hid hkk
      clear hN hf hrow2 hkk
      go_wp2_with fail
      refine (rvalid_any ⟨c, t, k, y, v, 0⟩ cl _).mono ?_
      rintro e w3 ⟨rfl, hb⟩
      rw [HV.out]
      obtain ⟨r1, r2, hb3⟩ := two_rows hb
      have HB3 := Lib.hid (Below.then HB2.out hb3 HB2.out.size)
      have hN3 := HN2.out.below hb3
      have hz3 : w2.heap.size + 1 < w3.heap.size := (Array.getElem?_eq_some_iff.1 r2).1
      have hn2 := HN2.out.lt
      have HN4 := Lib.hid (hN3.keep (w' := w3.setCell ⟨w2.heap.size + 1, 5, none⟩ (.int .i64 1)) (Below.heap_setCell w3 _ _ g (by simp; omega)) (Below.heap_setCell w3 _ _ bm (by simp; omega)))
      have HB4 := Lib.hid (HB3.out.setCell (p := ⟨w2.heap.size + 1, 5, none⟩) (by simp; omega) (.int .i64 1))
      obtain ⟨x0, x1, x2, x3, x4, x5, x6⟩ := rst_cells (r := ⟨c, t, k, y, v, 1⟩) r1
      obtain ⟨u0, u1, u2, u3, u4, u5, u6⟩ := rst_cells (r := ⟨c, t, k, y, v, 0⟩) r2
      simp only at x0 x1 x2 x3 x4 x5 u0 u1 u2 u3 u4 u5
      clear hb hb3 r1 r2 y0 y1 y2 hN3
      go_wp2_with fail
      refine (sealed_any ⟨c, t, k, y, v, 1⟩ cl g bm [kk] _ HN4.out).mono ?_
      have hs : (Psp.valid ⟨c, t, k, y, v, 1⟩ cl && (Psp.okR (bare ⟨c, t, k, y, v, 1⟩) && (decide (kR ⟨c, t, k, y, v, 1⟩ ∈ [kk]) && decide (num [kk] (kR ⟨c, t, k, y, v, 1⟩) = 1)))) = true := by
        have e1 : kR ⟨c, t, k, y, v, 1⟩ = kk := Hkk.out
        rw [valid_one HV.out, ok_of_valid (valid_one HV.out) (by omega), e1]
        simp [num]
      rw [hs]
      rintro e w5 ⟨rfl, hb⟩
      have HB5 := Lib.hid (Below.then HB4.out hb HB4.out.size)
      have HN5 := Lib.hid (HN4.out.below hb)
      clear hb hs
      go_wp2_with fail
      refine (nt_len g bm [kk] w5 HN5.out).mono ?_
      rintro e w' ⟨rfl, rfl⟩
      rw [show ((([kk] : List Key).length : Nat) : Int) = 1 from rfl]
      go_wp2_with fail
      refine (wakes05 _).mono ?_
      rintro e w9 ⟨rfl, hb⟩
      have HB9 := Lib.hid (Below.then HB5.out hb HB5.out.size)
      clear hb
      go_wp2_with fail
      go_ret
      exact ⟨rfl, HB9.out⟩
end Go.Proofs.Ytckjhbmkhkholaa.reqsMakes
