/- The walk of ReqsAlone. -/
import Derived.Test.YtckjhbmkhkholaaWk5
import Derived.Test.YtckjhbmkhkholaaCmpP
import Derived.Deep.CutBlock
namespace Go.Proofs.Ytckjhbmkhkholaa.reqsAlone
open Go.RowKit
set_option linter.unusedVariables false

theorem kR_inj {r s : Psp.Req} (hr : Psp.okR (bare r) = true) (hs : Psp.okR (bare s) = true) (h : kR s = kR r) : bare s = bare r := by
  have h2 := congrArg Prod.snd h
  simp only [kR] at h2
  rw [hr, hs, res_yes, res_yes] at h2
  exact Psp.codec_R.inj hs hr h2
theorem alone_no {r s : Psp.Req} {cl : Int} (hr : Psp.okR (bare r) = true) (h : bare s ≠ bare r ∨ s.s ≠ 1) :
    (Psp.valid s cl && (Psp.okR (bare s) && (decide (kR s ∈ [kR r]) && decide (num [kR r] (kR s) = s.s)))) = false := by
  cases hs : Psp.okR (bare s) with
  | false => simp
  | true =>
    by_cases hk : kR s = kR r
    · have h1 := kR_inj hr hs hk
      have h2 : s.s ≠ 1 := by rcases h with h | h; exact absurd h1 h; exact h
      have h3 : num [kR r] (kR s) = 1 := by rw [hk]; simp [num]
      rw [h3, decide_eq_false (show ¬ (1 : Int) = s.s from fun e => h2 e.symm)]
      simp
    · simp [hk]
theorem alone_yes {r : Psp.Req} {cl : Int} (hv : Psp.valid r cl = true) (hr : Psp.okR (bare r) = true) (h : r.s = 1) :
    (Psp.valid r cl && (Psp.okR (bare r) && (decide (kR r ∈ [kR r]) && decide (num [kR r] (kR r) = r.s)))) = true := by
  rw [hv, hr, h]; simp [num]

set_option maxRecDepth 100000 in
set_option maxHeartbeats 8000000 in
theorem walk (time key turn : Int) (w : World) (h1 : isI64 time) (h2 : isI64 key) (h3 : isI64 turn) :
    Calls Try.prog 6 #[.int .i64 time, .int .i64 key, .int .i64 turn] w fun e w' => e = .returned (.bool true) ∧ Below w.heap.size w w' := by
  obtain ⟨a1, a2⟩ := h1
  obtain ⟨b1, b2⟩ := h2
  obtain ⟨c1, c2⟩ := h3
  have p1 := Psp.within_lo time 1000
  have p2 := Psp.within_hi time 1000 (by omega)
  have p3 := Psp.within_lo key 60
  have p4 := Psp.within_hi key 60 (by omega)
  have p5 := Psp.within_lo turn 6
  have p6 := Psp.within_hi turn 6 (by omega)
  obtain ⟨t, ht⟩ : ∃ t, Psp.within time 1000 = t := ⟨_, rfl⟩
  obtain ⟨y, hy⟩ : ∃ y, Psp.within key 60 = y := ⟨_, rfl⟩
  obtain ⟨u, hu⟩ : ∃ u, Psp.within turn 6 = u := ⟨_, rfl⟩
  rw [ht] at p1 p2
  rw [hy] at p3 p4
  rw [hu] at p5 p6
  have Ht := Lib.hid ht
  have Hy := Lib.hid hy
  have Hu := Lib.hid hu
  clear ht hy hu
  have hv0 : Psp.valid ⟨1, 1 + t, 1, y, 7, 0⟩ 4 = true := by simp [Psp.valid]; omega
  have hv1 : Psp.valid ⟨1, 1 + t, 1, y, 7, 1⟩ 4 = true := by simp [Psp.valid]; omega
  have hok : Psp.okR (bare ⟨1, 1 + t, 1, y, 7, 1⟩) = true := by
    simp only [Psp.okR, bare, Bool.and_eq_true, Psp.okN_iff, Psp.okS_iff]; omega
  have HV0 := Lib.hid hv0
  have HV1 := Lib.hid hv1
  have Hok := Lib.hid hok
  clear hv0 hv1 hok
  go_enter Try.func6, Try.ntmps6
  go_wp2_with fail
  refine (nt_new w).mono ?_
  rintro e w1 ⟨g, bm, rfl, hN, hb, hg, hbm⟩
  have HN1 := Lib.hid hN
  have HB1 := Lib.hid hb
  clear hN hb
  go_wp2_with fail
  refine (within_any time 1000 w1 (by omega) (by omega) (by omega) (by omega)).mono ?_
  rintro e w' ⟨rfl, rfl⟩
  rw [Ht.out]
  go_wp2_with fail
  refine (within_any key 60 w1 (by omega) (by omega) (by omega) (by omega)).mono ?_
  rintro e w' ⟨rfl, rfl⟩
  rw [Hy.out]
  go_wp2_with fail
  refine (make_yes g bm [] 4 1 (1 + t) 1 y 7 w1 HN1.out (by simp) (by omega) HV0.out).mono ?_
  obtain ⟨kk, hkk⟩ : ∃ kk, kR ⟨1, 1 + t, 1, y, 7, 0⟩ = kk := ⟨_, rfl⟩
  rw [hkk, sealN_nil, sealL_nil]
  rintro e w2 ⟨rfl, hN, hf⟩
  have HB2 := Lib.hid (HB1.out.trans (hf.to_below (B := w.heap.size) HB1.out.size (fun k _ h => by omega)))
  have HN2 := Lib.hid (hN.below (alloc_below w2 (.cells #[.int .i64 1, .int .i64 (1 + t), .int .i64 1, .int .i64 y, .int .i64 7, .int .i64 1] 25)))
  have HBa := Lib.hid (Below.then HB2.out (alloc_below w2 (.cells #[.int .i64 1, .int .i64 (1 + t), .int .i64 1, .int .i64 y, .int .i64 7, .int .i64 1] 25)) HB2.out.size)
  have Hkk := Lib.hid hkk
  clear hN hf hkk HN1 HB1
  go_wp2_with fail
  refine (sealed_any ⟨1, 1 + t, 1, y, 7, 1⟩ 4 g bm [kk] _ HN2.out).mono ?_
  rw [← Hkk.out, show kR ⟨1, 1 + t, 1, y, 7, 0⟩ = kR ⟨1, 1 + t, 1, y, 7, 1⟩ from rfl, alone_yes HV1.out Hok.out rfl]
  rintro e w3 ⟨rfl, hb⟩
  have HN3 := Lib.hid (HN2.out.below hb)
  have HB3 := Lib.hid (Below.then HBa.out hb HBa.out.size)
  have hr := (hb.block w2.heap.size (by simp)).trans (heap_alloc_new w2 (.cells #[.int .i64 1, .int .i64 (1 + t), .int .i64 1, .int .i64 y, .int .i64 7, .int .i64 1] 25))
  have HR3 := Lib.hid hr
  have hz3 : w2.heap.size < w3.heap.size := (Array.getElem?_eq_some_iff.1 hr).1
  obtain ⟨x0, x1, x2, x3, x4, x5, _⟩ := rst_cells (r := ⟨1, 1 + t, 1, y, 7, 1⟩) hr
  simp only at x0 x1 x2 x3 x4 x5
  clear hb hr HBa HN2
  go_wp2_with fail
  refine (within_any turn 6 _ (by omega) (by omega) (by omega) (by omega)).mono ?_
  rintro e w' ⟨rfl, rfl⟩
  rw [Hu.out]
  have hu6 : u = 0 ∨ u = 1 ∨ u = 2 ∨ u = 3 ∨ u = 4 ∨ u = 5 := by omega
  clear Hu Ht Hy p5 p6
  rcases hu6 with rfl | rfl | rfl | rfl | rfl | rfl
  · go_wp2_with fail
    refine (sealed_any ⟨2, 1 + t, 1, y, 7, 1⟩ 4 g bm [kk] _ (HN3.out.below (alloc_below _ _))).mono ?_
    rw [← Hkk.out, show kR ⟨1, 1 + t, 1, y, 7, 0⟩ = kR ⟨1, 1 + t, 1, y, 7, 1⟩ from rfl, alone_no Hok.out (Or.inl (fun h => by simp only [bare, Psp.Req.mk.injEq] at h; omega))]
    rintro e w4 ⟨rfl, hb⟩
    have hr1 := (hb.block w2.heap.size (by simp; omega)).trans (((alloc_below w3 _).block w2.heap.size hz3).trans HR3.out)
    have hr2 := (hb.block w3.heap.size (by simp)).trans (heap_alloc_new w3 _)
    have HB4 := Lib.hid (Below.then HB3.out ((alloc_below w3 (.cells #[.int .i64 2, .int .i64 (1 + t), .int .i64 1, .int .i64 (y), .int .i64 7, .int .i64 1] 25)).trans (hb.mono (by simp))) HB3.out.size)
    obtain ⟨x0, x1, x2, x3, x4, x5, _⟩ := rst_cells (r := ⟨1, 1 + t, 1, y, 7, 1⟩) hr1
    obtain ⟨y0, y1, y2, y3, y4, y5, _⟩ := rst_cells (r := ⟨2, 1 + t, 1, y, 7, 1⟩) hr2
    simp only at x0 x1 x2 x3 x4 x5 y0 y1 y2 y3 y4 y5
    clear hb hr1 hr2
    go_wp2_with fail
    refine (compare_any ⟨1, 1 + t, 1, y, 7, 1⟩ ⟨2, 1 + t, 1, y, 7, 1⟩ w4).mono ?_
    obtain ⟨cv, hcv⟩ : ∃ cv, Psp.cmpR ⟨1, 1 + t, 1, y, 7, 1⟩ ⟨2, 1 + t, 1, y, 7, 1⟩ = cv := ⟨_, rfl⟩
    have hc0 : (cv != 0) = true := by
      have hq : cv ≠ 0 := by
        rw [← hcv]
        intro h
        have := Psp.cmpR_zero.1 h
        simp only [Psp.Req.mk.injEq] at this
        omega
      simpa using hq
    rw [hcv]
    clear hcv
    rintro e w5 ⟨rfl, hb⟩
    have HB5 := Lib.hid (Below.then HB4.out hb HB4.out.size)
    clear hb
    go_wp2_with fail
    refine (wakes05 _).mono ?_
    rintro e w9 ⟨rfl, hb⟩
    have HB9 := Lib.hid (Below.then HB5.out hb HB5.out.size)
    clear hb
    go_wp2_with fail
    go_ret
    exact ⟨rfl, HB9.out⟩
  · go_wp2_with fail
    refine (sealed_any ⟨1, 1 + t + 1, 1, y, 7, 1⟩ 4 g bm [kk] _ (HN3.out.below (alloc_below _ _))).mono ?_
    rw [← Hkk.out, show kR ⟨1, 1 + t, 1, y, 7, 0⟩ = kR ⟨1, 1 + t, 1, y, 7, 1⟩ from rfl, alone_no Hok.out (Or.inl (fun h => by simp only [bare, Psp.Req.mk.injEq] at h; omega))]
    rintro e w4 ⟨rfl, hb⟩
    have hr1 := (hb.block w2.heap.size (by simp; omega)).trans (((alloc_below w3 _).block w2.heap.size hz3).trans HR3.out)
    have hr2 := (hb.block w3.heap.size (by simp)).trans (heap_alloc_new w3 _)
    have HB4 := Lib.hid (Below.then HB3.out ((alloc_below w3 (.cells #[.int .i64 1, .int .i64 (1 + t + 1), .int .i64 1, .int .i64 (y), .int .i64 7, .int .i64 1] 25)).trans (hb.mono (by simp))) HB3.out.size)
    obtain ⟨x0, x1, x2, x3, x4, x5, _⟩ := rst_cells (r := ⟨1, 1 + t, 1, y, 7, 1⟩) hr1
    obtain ⟨y0, y1, y2, y3, y4, y5, _⟩ := rst_cells (r := ⟨1, 1 + t + 1, 1, y, 7, 1⟩) hr2
    simp only at x0 x1 x2 x3 x4 x5 y0 y1 y2 y3 y4 y5
    clear hb hr1 hr2
    go_wp2_with fail
    refine (compare_any ⟨1, 1 + t, 1, y, 7, 1⟩ ⟨1, 1 + t + 1, 1, y, 7, 1⟩ w4).mono ?_
    obtain ⟨cv, hcv⟩ : ∃ cv, Psp.cmpR ⟨1, 1 + t, 1, y, 7, 1⟩ ⟨1, 1 + t + 1, 1, y, 7, 1⟩ = cv := ⟨_, rfl⟩
    have hc0 : (cv != 0) = true := by
      have hq : cv ≠ 0 := by
        rw [← hcv]
        intro h
        have := Psp.cmpR_zero.1 h
        simp only [Psp.Req.mk.injEq] at this
        omega
      simpa using hq
    rw [hcv]
    clear hcv
    rintro e w5 ⟨rfl, hb⟩
    have HB5 := Lib.hid (Below.then HB4.out hb HB4.out.size)
    clear hb
    go_wp2_with fail
    refine (wakes05 _).mono ?_
    rintro e w9 ⟨rfl, hb⟩
    have HB9 := Lib.hid (Below.then HB5.out hb HB5.out.size)
    clear hb
    go_wp2_with fail
    go_ret
    exact ⟨rfl, HB9.out⟩
  · go_wp2_with fail
    refine (sealed_any ⟨1, 1 + t, 1, y + 1, 7, 1⟩ 4 g bm [kk] _ (HN3.out.below (alloc_below _ _))).mono ?_
    rw [← Hkk.out, show kR ⟨1, 1 + t, 1, y, 7, 0⟩ = kR ⟨1, 1 + t, 1, y, 7, 1⟩ from rfl, alone_no Hok.out (Or.inl (fun h => by simp only [bare, Psp.Req.mk.injEq] at h; omega))]
    rintro e w4 ⟨rfl, hb⟩
    have hr1 := (hb.block w2.heap.size (by simp; omega)).trans (((alloc_below w3 _).block w2.heap.size hz3).trans HR3.out)
    have hr2 := (hb.block w3.heap.size (by simp)).trans (heap_alloc_new w3 _)
    have HB4 := Lib.hid (Below.then HB3.out ((alloc_below w3 (.cells #[.int .i64 1, .int .i64 (1 + t), .int .i64 1, .int .i64 (y + 1), .int .i64 7, .int .i64 1] 25)).trans (hb.mono (by simp))) HB3.out.size)
    obtain ⟨x0, x1, x2, x3, x4, x5, _⟩ := rst_cells (r := ⟨1, 1 + t, 1, y, 7, 1⟩) hr1
    obtain ⟨y0, y1, y2, y3, y4, y5, _⟩ := rst_cells (r := ⟨1, 1 + t, 1, y + 1, 7, 1⟩) hr2
    simp only at x0 x1 x2 x3 x4 x5 y0 y1 y2 y3 y4 y5
    clear hb hr1 hr2
    go_wp2_with fail
    refine (compare_any ⟨1, 1 + t, 1, y, 7, 1⟩ ⟨1, 1 + t, 1, y + 1, 7, 1⟩ w4).mono ?_
    obtain ⟨cv, hcv⟩ : ∃ cv, Psp.cmpR ⟨1, 1 + t, 1, y, 7, 1⟩ ⟨1, 1 + t, 1, y + 1, 7, 1⟩ = cv := ⟨_, rfl⟩
    have hc0 : (cv != 0) = true := by
      have hq : cv ≠ 0 := by
        rw [← hcv]
        intro h
        have := Psp.cmpR_zero.1 h
        simp only [Psp.Req.mk.injEq] at this
        omega
      simpa using hq
    rw [hcv]
    clear hcv
    rintro e w5 ⟨rfl, hb⟩
    have HB5 := Lib.hid (Below.then HB4.out hb HB4.out.size)
    clear hb
    go_wp2_with fail
    refine (wakes05 _).mono ?_
    rintro e w9 ⟨rfl, hb⟩
    have HB9 := Lib.hid (Below.then HB5.out hb HB5.out.size)
    clear hb
    go_wp2_with fail
    go_ret
    exact ⟨rfl, HB9.out⟩
  · go_wp2_with fail
    refine (sealed_any ⟨1, 1 + t, 1, y, 8, 1⟩ 4 g bm [kk] _ (HN3.out.below (alloc_below _ _))).mono ?_
    rw [← Hkk.out, show kR ⟨1, 1 + t, 1, y, 7, 0⟩ = kR ⟨1, 1 + t, 1, y, 7, 1⟩ from rfl, alone_no Hok.out (Or.inl (fun h => by simp only [bare, Psp.Req.mk.injEq] at h; omega))]
    rintro e w4 ⟨rfl, hb⟩
    have hr1 := (hb.block w2.heap.size (by simp; omega)).trans (((alloc_below w3 _).block w2.heap.size hz3).trans HR3.out)
    have hr2 := (hb.block w3.heap.size (by simp)).trans (heap_alloc_new w3 _)
    have HB4 := Lib.hid (Below.then HB3.out ((alloc_below w3 (.cells #[.int .i64 1, .int .i64 (1 + t), .int .i64 1, .int .i64 (y), .int .i64 8, .int .i64 1] 25)).trans (hb.mono (by simp))) HB3.out.size)
    obtain ⟨x0, x1, x2, x3, x4, x5, _⟩ := rst_cells (r := ⟨1, 1 + t, 1, y, 7, 1⟩) hr1
    obtain ⟨y0, y1, y2, y3, y4, y5, _⟩ := rst_cells (r := ⟨1, 1 + t, 1, y, 8, 1⟩) hr2
    simp only at x0 x1 x2 x3 x4 x5 y0 y1 y2 y3 y4 y5
    clear hb hr1 hr2
    go_wp2_with fail
    refine (compare_any ⟨1, 1 + t, 1, y, 7, 1⟩ ⟨1, 1 + t, 1, y, 8, 1⟩ w4).mono ?_
    obtain ⟨cv, hcv⟩ : ∃ cv, Psp.cmpR ⟨1, 1 + t, 1, y, 7, 1⟩ ⟨1, 1 + t, 1, y, 8, 1⟩ = cv := ⟨_, rfl⟩
    have hc0 : (cv != 0) = true := by
      have hq : cv ≠ 0 := by
        rw [← hcv]
        intro h
        have := Psp.cmpR_zero.1 h
        simp only [Psp.Req.mk.injEq] at this
        omega
      simpa using hq
    rw [hcv]
    clear hcv
    rintro e w5 ⟨rfl, hb⟩
    have HB5 := Lib.hid (Below.then HB4.out hb HB4.out.size)
    clear hb
    go_wp2_with fail
    refine (wakes05 _).mono ?_
    rintro e w9 ⟨rfl, hb⟩
    have HB9 := Lib.hid (Below.then HB5.out hb HB5.out.size)
    clear hb
    go_wp2_with fail
    go_ret
    exact ⟨rfl, HB9.out⟩
  · go_wp2_with fail
    refine (sealed_any ⟨1, 1 + t, 3, y, 7, 1⟩ 4 g bm [kk] _ (HN3.out.below (alloc_below _ _))).mono ?_
    rw [← Hkk.out, show kR ⟨1, 1 + t, 1, y, 7, 0⟩ = kR ⟨1, 1 + t, 1, y, 7, 1⟩ from rfl, alone_no Hok.out (Or.inl (fun h => by simp only [bare, Psp.Req.mk.injEq] at h; omega))]
    rintro e w4 ⟨rfl, hb⟩
    have hr1 := (hb.block w2.heap.size (by simp; omega)).trans (((alloc_below w3 _).block w2.heap.size hz3).trans HR3.out)
    have hr2 := (hb.block w3.heap.size (by simp)).trans (heap_alloc_new w3 _)
    have HB4 := Lib.hid (Below.then HB3.out ((alloc_below w3 (.cells #[.int .i64 1, .int .i64 (1 + t), .int .i64 3, .int .i64 (y), .int .i64 7, .int .i64 1] 25)).trans (hb.mono (by simp))) HB3.out.size)
    obtain ⟨x0, x1, x2, x3, x4, x5, _⟩ := rst_cells (r := ⟨1, 1 + t, 1, y, 7, 1⟩) hr1
    obtain ⟨y0, y1, y2, y3, y4, y5, _⟩ := rst_cells (r := ⟨1, 1 + t, 3, y, 7, 1⟩) hr2
    simp only at x0 x1 x2 x3 x4 x5 y0 y1 y2 y3 y4 y5
    clear hb hr1 hr2
    go_wp2_with fail
    refine (compare_any ⟨1, 1 + t, 1, y, 7, 1⟩ ⟨1, 1 + t, 3, y, 7, 1⟩ w4).mono ?_
    obtain ⟨cv, hcv⟩ : ∃ cv, Psp.cmpR ⟨1, 1 + t, 1, y, 7, 1⟩ ⟨1, 1 + t, 3, y, 7, 1⟩ = cv := ⟨_, rfl⟩
    have hc0 : (cv != 0) = true := by
      have hq : cv ≠ 0 := by
        rw [← hcv]
        intro h
        have := Psp.cmpR_zero.1 h
        simp only [Psp.Req.mk.injEq] at this
        omega
      simpa using hq
    rw [hcv]
    clear hcv
    rintro e w5 ⟨rfl, hb⟩
    have HB5 := Lib.hid (Below.then HB4.out hb HB4.out.size)
    clear hb
    go_wp2_with fail
    refine (wakes05 _).mono ?_
    rintro e w9 ⟨rfl, hb⟩
    have HB9 := Lib.hid (Below.then HB5.out hb HB5.out.size)
    clear hb
    go_wp2_with fail
    go_ret
    exact ⟨rfl, HB9.out⟩
  · go_wp2_with fail
    refine (sealed_any ⟨1, 1 + t, 1, y, 7, 2⟩ 4 g bm [kk] _ (HN3.out.below (alloc_below _ _))).mono ?_
    rw [← Hkk.out, show kR ⟨1, 1 + t, 1, y, 7, 0⟩ = kR ⟨1, 1 + t, 1, y, 7, 1⟩ from rfl, alone_no Hok.out (Or.inr (by simp))]
    rintro e w4 ⟨rfl, hb⟩
    have hr1 := (hb.block w2.heap.size (by simp; omega)).trans (((alloc_below w3 _).block w2.heap.size hz3).trans HR3.out)
    have hr2 := (hb.block w3.heap.size (by simp)).trans (heap_alloc_new w3 _)
    have HB4 := Lib.hid (Below.then HB3.out ((alloc_below w3 (.cells #[.int .i64 1, .int .i64 (1 + t), .int .i64 1, .int .i64 (y), .int .i64 7, .int .i64 2] 25)).trans (hb.mono (by simp))) HB3.out.size)
    obtain ⟨x0, x1, x2, x3, x4, x5, _⟩ := rst_cells (r := ⟨1, 1 + t, 1, y, 7, 1⟩) hr1
    obtain ⟨y0, y1, y2, y3, y4, y5, _⟩ := rst_cells (r := ⟨1, 1 + t, 1, y, 7, 2⟩) hr2
    simp only at x0 x1 x2 x3 x4 x5 y0 y1 y2 y3 y4 y5
    clear hb hr1 hr2
    go_wp2_with fail
    refine (compare_any ⟨1, 1 + t, 1, y, 7, 1⟩ ⟨1, 1 + t, 1, y, 7, 2⟩ w4).mono ?_
    obtain ⟨cv, hcv⟩ : ∃ cv, Psp.cmpR ⟨1, 1 + t, 1, y, 7, 1⟩ ⟨1, 1 + t, 1, y, 7, 2⟩ = cv := ⟨_, rfl⟩
    have hc0 : (cv != 0) = true := by
      have hq : cv ≠ 0 := by
        rw [← hcv]
        intro h
        have := Psp.cmpR_zero.1 h
        simp only [Psp.Req.mk.injEq] at this
        omega
      simpa using hq
    rw [hcv]
    clear hcv
    rintro e w5 ⟨rfl, hb⟩
    have HB5 := Lib.hid (Below.then HB4.out hb HB4.out.size)
    clear hb
    go_wp2_with fail
    refine (wakes05 _).mono ?_
    rintro e w9 ⟨rfl, hb⟩
    have HB9 := Lib.hid (Below.then HB5.out hb HB5.out.size)
    clear hb
    go_wp2_with fail
    go_ret
    exact ⟨rfl, HB9.out⟩
end Go.Proofs.Ytckjhbmkhkholaa.reqsAlone
