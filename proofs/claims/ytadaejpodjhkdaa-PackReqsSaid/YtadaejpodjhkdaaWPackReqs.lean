/- The walk of PackReqs. -/
import Derived.Test.YtadaejpodjhkdaaPz
namespace Go.Proofs.Ytadaejpodjhkdaa.packReqs
open Go.RowKit
set_option linter.unusedVariables false

set_option maxRecDepth 100000 in
set_option maxHeartbeats 4000000 in
theorem walk (r : Psp.Req) (v : Value) (l : List Psp.Req) (w : World) (wr : wfReq r) (hr : Rd w w.heap.size 6 v l.length (l.flatMap rq)) (hl : ∀ r ∈ l, wfReq r) :
    Calls Try.prog 7 #[.agg (rq r).toArray, v] w fun e w' => e = .returned (.bool true) ∧ Below w.heap.size w w' := by
  show Calls Try.prog 7 #[.agg #[.int .i64 r.c, .int .i64 r.t, .int .i64 r.k, .int .i64 r.y, .int .i64 r.v, .int .i64 r.s], v] w _
  have hp := hr.to_p (Nat.le_refl _)
  have Hp := Lib.hid hp
  obtain ⟨n, hn⟩ : ∃ n, l.length = n := ⟨_, rfl⟩
  rw [hn] at hp
  obtain ⟨_, A, c, rfl, _, hx2, _⟩ := hp.parts
  have Hn := Lib.hid hn
  have hb0 := alloc_below w (.cells #[.int .i64 r.c, .int .i64 r.t, .int .i64 r.k, .int .i64 r.y, .int .i64 r.v, .int .i64 r.s] 31)
  have hr0 : (w.alloc (.cells #[.int .i64 r.c, .int .i64 r.t, .int .i64 r.k, .int .i64 r.y, .int .i64 r.v, .int .i64 r.s] 31)).rangeAt w.heap.size 0 (rq r) := range_new w (rq r).toArray _
  have Hb0 := Lib.hid hb0
  have Hr0 := Lib.hid hr0
  clear hn hp hr hl wr hb0 hr0
  by_cases h300 : 300 < n
  · have d1 : decide (300 < (n : Int)) = true := by simp; omega
    go_enter Try.func7, Try.ntmps7
    go_wp2_with (go_at_call 12; refine (wakes02 _).mono ?_; rintro e w' ⟨rfl, hb⟩; have Hb := Lib.hid hb; clear hb)
    go_ret
    exact ⟨rfl, Below.then Hb0.out Hb.out Hb0.out.size⟩
  · have d1 : decide (300 < (n : Int)) = false := by simp; omega
    obtain ⟨ba, hba⟩ : ∃ b, res (Psp.encR r) (Psp.okR r) = b := ⟨_, rfl⟩
    obtain ⟨oa, hoa⟩ : ∃ b, Psp.okR r = b := ⟨_, rfl⟩
    obtain ⟨bl, hbl⟩ : ∃ b, res (Psp.encL Psp.encR l) (Psp.okL Psp.okR l) = b := ⟨_, rfl⟩
    obtain ⟨ol, hol⟩ : ∃ b, Psp.okL Psp.okR l = b := ⟨_, rfl⟩
    have Hba := Lib.hid hba
    have Hoa := Lib.hid hoa
    have Hbl := Lib.hid hbl
    have Hol := Lib.hid hol
    clear hba hoa hbl hol
    go_enter Try.func7, Try.ntmps7
    go_wp2_with fail
    refine (pk_req r.c r.t r.k r.y r.v r.s _).mono ?_
    intro e w1 h
    obtain ⟨A1, c1, rfl, ho1, hb1⟩ := Bytes.rd h Hba.out Hoa.out
    have hB1 := Below.then Hb0.out hb1 Hb0.out.size
    have hz0 : w.heap.size + 1 ≤ w1.heap.size := by have := hb1.size; simpa using this
    have Hr1 := Lib.hid (range_keep Hr0.out (hb1.block w.heap.size (by simp)))
    have H1 := Lib.hid ho1
    have HB1 := Lib.hid hB1
    clear h ho1 hb1 hB1
    go_wp2_with (refine list_load (by simp [Region.wanted, yielded]) 31 (.tmp 2) rfl w.heap.size 0 rfl [.int .i64 r.c, .int .i64 r.t, .int .i64 r.k, .int .i64 r.y, .int .i64 r.v, .int .i64 r.s] _ ?_ Try.underlying31 rfl sizeR ?_; exact Hr1.out)
    refine (rf_req r.c r.t r.k r.y r.v r.s _).mono ?_
    intro e w2 h
    obtain ⟨A2, c2, rfl, ho2, hb2⟩ := Bytes.rd h Hba.out Hoa.out
    have hz2 := hb2.size
    have Hr2 := Lib.hid (range_keep Hr1.out (hb2.block w.heap.size (by omega)))
    have H12 := Lib.hid (H1.out.keeps (Keeps.on hb2))
    have H2 := Lib.hid ho2
    have HB2 := Lib.hid (Below.then HB1.out hb2 HB1.out.size)
    clear h ho2 hb2 H1
    go_wp2_with fail
    refine (pk_batch l _ _ (Hp.out.keeps (Keeps.on HB2.out))).mono ?_
    intro e w3 h
    obtain ⟨A3, c3, rfl, ho3, hb3⟩ := Bytes.rd h Hbl.out Hol.out
    have hz3 := hb3.size
    have Hr3 := Lib.hid (range_keep Hr2.out (hb3.block w.heap.size (by omega)))
    have H13 := Lib.hid (H12.out.keeps (Keeps.on hb3))
    have H23 := Lib.hid (H2.out.keeps (Keeps.on hb3))
    have H3 := Lib.hid ho3
    have HB3 := Lib.hid (Below.then HB2.out hb3 HB2.out.size)
    clear h ho3 hb3 H12 H2
    go_wp2_with fail
    refine (rf_batch l _ _ (Hp.out.keeps (Keeps.on HB3.out))).mono ?_
    intro e w4 h
    obtain ⟨A4, c4, rfl, ho4, hb4⟩ := Bytes.rd h Hbl.out Hol.out
    have hz4 := hb4.size
    have Hr4 := Lib.hid (range_keep Hr3.out (hb4.block w.heap.size (by omega)))
    have H14 := Lib.hid (H13.out.keeps (Keeps.on hb4))
    have H24 := Lib.hid (H23.out.keeps (Keeps.on hb4))
    have H34 := Lib.hid (H3.out.keeps (Keeps.on hb4))
    have H4 := Lib.hid ho4
    have HB4 := Lib.hid (Below.then HB3.out hb4 HB3.out.size)
    clear h ho4 hb4 H13 H23 H3
    go_wp2_with fail
    refine (same02_eq _ _ _ _ ba ba oa w4 rfl H14.out.to_rd H24.out.to_rd).mono ?_
    rintro e w5 ⟨rfl, q1, rfl⟩
    go_wp2_with fail
    refine (same02_eq _ _ _ _ bl bl ol (w4.drewN q1) rfl (H34.out.keeps (Keeps.drewN _ _)).to_rd (H4.out.keeps (Keeps.drewN _ _)).to_rd).mono ?_
    rintro e w5 ⟨rfl, q2, rfl⟩
    have hk5 : Keeps (fun b => b < w4.heap.size) (fun b => b < (w4.drewN (q1 + q2)).heap.size) w4 (w4.drewN (q1 + q2)) := Keeps.drewN _ _
    have hB5 := below_drewN HB4.out (q1 + q2)
    have hr5 : (w4.drewN (q1 + q2)).rangeAt w.heap.size 0 (rq r) := Hr4.out
    have h15 := H14.out.keeps hk5
    have h35 := H34.out.keeps hk5
    have H15 := Lib.hid h15
    have H35 := Lib.hid h35
    have HB5 := Lib.hid hB5
    have Hr5 := Lib.hid hr5
    clear hk5 hB5 hr5 h15 h35 H14 H24 H34 H4
    have ways : (oa = false ∧ ol = false) ∨ (oa = false ∧ ol = true) ∨ (oa = true ∧ ol = false) ∨ (oa = true ∧ ol = true) := by cases oa <;> cases ol <;> simp
    rcases ways with ⟨rfl, rfl⟩ | ⟨rfl, rfl⟩ | ⟨rfl, rfl⟩ | ⟨rfl, rfl⟩
    · go_wp2_with (go_at_call 12; refine (wakes02 _).mono ?_; rintro e w' ⟨rfl, hb⟩; have Hb := Lib.hid hb; clear hb)
      go_ret
      exact ⟨rfl, Below.then HB5.out Hb.out HB5.out.size⟩
    · have hd2 : Psp.dL Psp.dR bl 0 = some (l, (bl.length : Int)) := by
        have h1 := Hbl.out
        rw [Hol.out, res_yes] at h1
        have := (Psp.codec_L Psp.codec_R).back Hol.out []
        rw [List.append_nil, h1] at this
        exact this
      have Hd2 := Lib.hid hd2
      clear hd2
      go_wp2_with fail
      refine (takeR bl _ 0 _ H35.out ⟨by omega, by omega⟩).mono ?_
      intro e w8 h
      obtain ⟨h1, _, hb8⟩ := h
      obtain ⟨v8, he, hL8⟩ := h1 l _ Hd2.out
      subst he
      have HB8 := Lib.hid (Below.then HB5.out hb8 HB5.out.size)
      have HL8 := Lib.hid hL8
      clear h1 hL8 hb8
      go_wp2_with fail
      refine (same_R v8 _ _ _ l l _ _ _ HL8.out (Hp.out.keeps (Keeps.on HB8.out)) rfl rfl).mono ?_
      rintro e w9 ⟨rfl, q3, rfl⟩
      rw [decide_eq_true rfl]
      have HB9 := Lib.hid (below_drewN HB8.out q3)
      go_wp2_with (go_at_call 12; refine (wakes02 _).mono ?_; rintro e w' ⟨rfl, hb⟩; have Hb := Lib.hid hb; clear hb)
      go_ret
      exact ⟨rfl, Below.then HB9.out Hb.out HB9.out.size⟩
    · have hd : Psp.dR ba 0 = some (r, (ba.length : Int)) := by
        have h1 := Hba.out
        rw [Hoa.out, res_yes] at h1
        have := Psp.codec_R.back Hoa.out []
        rw [List.append_nil, h1] at this
        exact this
      have Hd := Lib.hid hd
      clear hd
      go_wp2_with fail
      refine (takeReq ba _ 0 _ H15.out ⟨by omega, by omega⟩).mono ?_
      intro e w6 h
      obtain ⟨h1, _, hb6⟩ := h
      have he := h1 r _ Hd.out
      subst he
      have hz6 : w4.heap.size ≤ w6.heap.size := hb6.size
      have Hr6 := Lib.hid (range_keep Hr5.out (hb6.block w.heap.size (by simp; omega)))
      have H36 := Lib.hid (H35.out.keeps (Keeps.on hb6))
      have HB6 := Lib.hid (Below.then HB5.out hb6 HB5.out.size)
      clear h1 hb6
      go_wp2_with (refine list_store_new rfl 31 (.tmp 13) (.tmp 61) rfl _ _ (rq r) rfl rfl rfl sizeR (rq_one r) ?_; intro w7 hb7 hr7 hs7; have Hrv := Lib.hid hr7; have hr67 := range_keep Hr6.out (hb7.block w.heap.size (by omega)); have x0 := hr67 0 _ rfl; have x1 := hr67 1 _ rfl; have x2 := hr67 2 _ rfl; have x3 := hr67 3 _ rfl; have x4 := hr67 4 _ rfl; have x5 := hr67 5 _ rfl; have y0 := hr7 0 _ rfl; have y1 := hr7 1 _ rfl; have y2 := hr7 2 _ rfl; have y3 := hr7 3 _ rfl; have y4 := hr7 4 _ rfl; have y5 := hr7 5 _ rfl; simp only [Nat.zero_add, iv] at x0 x1 x2 x3 x4 x5 y0 y1 y2 y3 y4 y5; have H37 := Lib.hid (H36.out.keeps (Keeps.on hb7)); have HB7 := Lib.hid (Below.then HB6.out hb7 HB6.out.size); clear hb7 hr7 hs7 hr67)
      clear x0 x1 x2 x3 x4 x5 y0 y1 y2 y3 y4 y5
      refine (wakes02 _).mono ?_
      rintro e w' ⟨rfl, hb⟩
      have Hb := Lib.hid hb
      clear hb
      go_wp2_with fail
      go_ret
      exact ⟨rfl, Below.then HB7.out Hb.out HB7.out.size⟩
    · have hd : Psp.dR ba 0 = some (r, (ba.length : Int)) := by
        have h1 := Hba.out
        rw [Hoa.out, res_yes] at h1
        have := Psp.codec_R.back Hoa.out []
        rw [List.append_nil, h1] at this
        exact this
      have Hd := Lib.hid hd
      clear hd
      go_wp2_with fail
      refine (takeReq ba _ 0 _ H15.out ⟨by omega, by omega⟩).mono ?_
      intro e w6 h
      obtain ⟨h1, _, hb6⟩ := h
      have he := h1 r _ Hd.out
      subst he
      have hz6 : w4.heap.size ≤ w6.heap.size := hb6.size
      have Hr6 := Lib.hid (range_keep Hr5.out (hb6.block w.heap.size (by simp; omega)))
      have H36 := Lib.hid (H35.out.keeps (Keeps.on hb6))
      have HB6 := Lib.hid (Below.then HB5.out hb6 HB5.out.size)
      clear h1 hb6
      go_wp2_with (refine list_store_new rfl 31 (.tmp 13) (.tmp 61) rfl _ _ (rq r) rfl rfl rfl sizeR (rq_one r) ?_; intro w7 hb7 hr7 hs7; have Hrv := Lib.hid hr7; have hr67 := range_keep Hr6.out (hb7.block w.heap.size (by omega)); have x0 := hr67 0 _ rfl; have x1 := hr67 1 _ rfl; have x2 := hr67 2 _ rfl; have x3 := hr67 3 _ rfl; have x4 := hr67 4 _ rfl; have x5 := hr67 5 _ rfl; have y0 := hr7 0 _ rfl; have y1 := hr7 1 _ rfl; have y2 := hr7 2 _ rfl; have y3 := hr7 3 _ rfl; have y4 := hr7 4 _ rfl; have y5 := hr7 5 _ rfl; simp only [Nat.zero_add, iv] at x0 x1 x2 x3 x4 x5 y0 y1 y2 y3 y4 y5; have H37 := Lib.hid (H36.out.keeps (Keeps.on hb7)); have HB7 := Lib.hid (Below.then HB6.out hb7 HB6.out.size); clear hb7 hr7 hs7 hr67)
      clear x0 x1 x2 x3 x4 x5 y0 y1 y2 y3 y4 y5
      have hd2 : Psp.dL Psp.dR bl 0 = some (l, (bl.length : Int)) := by
        have h1 := Hbl.out
        rw [Hol.out, res_yes] at h1
        have := (Psp.codec_L Psp.codec_R).back Hol.out []
        rw [List.append_nil, h1] at this
        exact this
      have Hd2 := Lib.hid hd2
      clear hd2
      refine (takeR bl _ 0 _ H37.out ⟨by omega, by omega⟩).mono ?_
      intro e w8 h
      obtain ⟨h1, _, hb8⟩ := h
      obtain ⟨v8, he, hL8⟩ := h1 l _ Hd2.out
      subst he
      have HB8 := Lib.hid (Below.then HB7.out hb8 HB7.out.size)
      have HL8 := Lib.hid hL8
      clear h1 hL8 hb8
      go_wp2_with fail
      refine (same_R v8 _ _ _ l l _ _ _ HL8.out (Hp.out.keeps (Keeps.on HB8.out)) rfl rfl).mono ?_
      rintro e w9 ⟨rfl, q3, rfl⟩
      rw [decide_eq_true rfl]
      have HB9 := Lib.hid (below_drewN HB8.out q3)
      go_wp2_with (go_at_call 12; refine (wakes02 _).mono ?_; rintro e w' ⟨rfl, hb⟩; have Hb := Lib.hid hb; clear hb)
      go_ret
      exact ⟨rfl, Below.then HB9.out Hb.out HB9.out.size⟩
end Go.Proofs.Ytadaejpodjhkdaa.packReqs
