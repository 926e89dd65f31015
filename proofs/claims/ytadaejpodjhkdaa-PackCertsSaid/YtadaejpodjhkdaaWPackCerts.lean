/- The walk of PackCerts. Printed by gen_pcerts.py. -/
import Derived.Test.YtadaejpodjhkdaaPz
namespace Go.Proofs.Ytadaejpodjhkdaa.packCerts
open Go.RowKit
set_option linter.unusedVariables false

set_option maxRecDepth 100000 in
set_option maxHeartbeats 4000000 in
theorem walk (vv : Value) (lv : List Psp.Vote) (v : Value) (l : List Psp.Cert) (w : World) (hv : Rd w w.heap.size 2 vv lv.length (lv.flatMap vt)) (wv : ∀ c ∈ lv, wfVote c) (hl : RdC w (fun b => b < w.heap.size) v l) (wl : ∀ c ∈ l, wfCert c) :
    Calls Try.prog 9 #[vv, v] w fun e w' => e = .returned (.bool true) ∧ Below w.heap.size w w' := by
  have hp := hv.to_p (Nat.le_refl _)
  have Hp := Lib.hid hp
  have Hl := Lib.hid hl
  obtain ⟨n, hn⟩ : ∃ n, lv.length = n := ⟨_, rfl⟩
  rw [hn] at hp
  obtain ⟨_, A, c, rfl, _, hx2, _⟩ := hp.parts
  have Hn := Lib.hid hn
  clear hn hp hv hl wv wl
  have hB0 : Below w.heap.size w w := Below.refl _ _
  have HB0 := Lib.hid hB0
  clear hB0
  by_cases h300 : 300 < n
  · have d1 : decide (300 < (n : Int)) = true := by simp; omega
    go_enter Try.func9, Try.ntmps9
    go_wp2_with (go_at_call 12; refine (wakes02 _).mono ?_; rintro e w' ⟨rfl, hb⟩; have Hb := Lib.hid hb; clear hb)
    go_ret
    exact ⟨rfl, Below.then HB0.out Hb.out HB0.out.size⟩
  · have d1 : decide (300 < (n : Int)) = false := by simp; omega
    cases hh : heavyC l with
    | true =>
      have Hh := Lib.hid hh
      clear hh
      go_enter Try.func9, Try.ntmps9
      go_wp2_with fail
      refine (heavyC_any v l _ _ Hl.out).mono ?_
      rintro e w1 ⟨rfl, rfl⟩
      rw [Hh.out]
      go_wp2_with (go_at_call 12; refine (wakes02 _).mono ?_; rintro e w' ⟨rfl, hb⟩; have Hb := Lib.hid hb; clear hb)
      go_ret
      exact ⟨rfl, Below.then HB0.out Hb.out HB0.out.size⟩
    | false =>
      have Hh := Lib.hid hh
      clear hh
      obtain ⟨ba, hba⟩ : ∃ b, res (Psp.encL Psp.encV lv) (Psp.okL Psp.okV lv) = b := ⟨_, rfl⟩
      obtain ⟨oa, hoa⟩ : ∃ b, Psp.okL Psp.okV lv = b := ⟨_, rfl⟩
      obtain ⟨bl, hbl⟩ : ∃ b, res (Psp.encL Psp.encC l) (Psp.okL Psp.okC l) = b := ⟨_, rfl⟩
      obtain ⟨ol, hol⟩ : ∃ b, Psp.okL Psp.okC l = b := ⟨_, rfl⟩
      have Hba := Lib.hid hba
      have Hoa := Lib.hid hoa
      have Hbl := Lib.hid hbl
      have Hol := Lib.hid hol
      clear hba hoa hbl hol
      go_enter Try.func9, Try.ntmps9
      go_wp2_with fail
      refine (heavyC_any v l _ _ Hl.out).mono ?_
      rintro e w1 ⟨rfl, rfl⟩
      rw [Hh.out]
      go_wp2_with fail
      refine (pk_votes lv _ _ (Hp.out.keeps (Keeps.on HB0.out))).mono ?_
      intro e w1 h
      obtain ⟨A1, c1, rfl, ho, hb⟩ := Bytes.rd h Hba.out Hoa.out
      have H11 := Lib.hid ho
      have HB1 := Lib.hid (Below.then HB0.out hb HB0.out.size)
      clear h ho hb
      go_wp2_with fail
      refine (rf_votes lv _ _ (Hp.out.keeps (Keeps.on HB1.out))).mono ?_
      intro e w2 h
      obtain ⟨A2, c2, rfl, ho, hb⟩ := Bytes.rd h Hba.out Hoa.out
      have H12 := Lib.hid (H11.out.keeps (Keeps.on hb))
      have H22 := Lib.hid ho
      have HB2 := Lib.hid (Below.then HB1.out hb HB1.out.size)
      clear h ho hb
      go_wp2_with fail
      refine (pk_certs l _ _ (Hl.out.keeps (Keeps.on HB2.out))).mono ?_
      intro e w3 h
      obtain ⟨A3, c3, rfl, ho, hb⟩ := Bytes.rd h Hbl.out Hol.out
      have H13 := Lib.hid (H12.out.keeps (Keeps.on hb))
      have H23 := Lib.hid (H22.out.keeps (Keeps.on hb))
      have H33 := Lib.hid ho
      have HB3 := Lib.hid (Below.then HB2.out hb HB2.out.size)
      clear h ho hb
      go_wp2_with fail
      refine (rf_certs l _ _ (Hl.out.keeps (Keeps.on HB3.out))).mono ?_
      intro e w4 h
      obtain ⟨A4, c4, rfl, ho, hb⟩ := Bytes.rd h Hbl.out Hol.out
      have H14 := Lib.hid (H13.out.keeps (Keeps.on hb))
      have H24 := Lib.hid (H23.out.keeps (Keeps.on hb))
      have H34 := Lib.hid (H33.out.keeps (Keeps.on hb))
      have H44 := Lib.hid ho
      have HB4 := Lib.hid (Below.then HB3.out hb HB3.out.size)
      clear h ho hb
      go_wp2_with fail
      refine (same02_eq _ _ _ _ ba ba oa w4 rfl H14.out.to_rd H24.out.to_rd).mono ?_
      rintro e w5 ⟨rfl, q1, rfl⟩
      go_wp2_with fail
      refine (same02_eq _ _ _ _ bl bl ol (w4.drewN q1) rfl (H34.out.keeps (Keeps.drewN _ _)).to_rd (H44.out.keeps (Keeps.drewN _ _)).to_rd).mono ?_
      rintro e w5 ⟨rfl, q2, rfl⟩
      have hk5 : Keeps (fun b => b < w4.heap.size) (fun b => b < (w4.drewN (q1 + q2)).heap.size) w4 (w4.drewN (q1 + q2)) := Keeps.drewN _ _
      have HB5 := Lib.hid (below_drewN HB4.out (q1 + q2))
      have H15 := Lib.hid (H14.out.keeps hk5)
      have H35 := Lib.hid (H34.out.keeps hk5)
      clear hk5
      have ways : (oa = false ∧ ol = false) ∨ (oa = false ∧ ol = true) ∨ (oa = true ∧ ol = false) ∨ (oa = true ∧ ol = true) := by cases oa <;> cases ol <;> simp
      rcases ways with ⟨rfl, rfl⟩ | ⟨rfl, rfl⟩ | ⟨rfl, rfl⟩ | ⟨rfl, rfl⟩
      · go_wp2_with (go_at_call 12; refine (wakes02 _).mono ?_; rintro e w' ⟨rfl, hb⟩; have Hb := Lib.hid hb; clear hb)
        go_ret
        exact ⟨rfl, Below.then HB5.out Hb.out HB5.out.size⟩
      · have hd2 : Psp.dL Psp.dC bl 0 = some (l, (bl.length : Int)) := by
          have h1 := Hbl.out
          rw [Hol.out, res_yes] at h1
          have := (Psp.codec_L Psp.codec_C).back Hol.out []
          rw [List.append_nil, h1] at this
          exact this
        have Hd2 := Lib.hid hd2
        clear hd2
        go_wp2_with fail
        refine (takeC bl _ 0 _ H35.out ⟨by omega, by omega⟩).mono ?_
        intro e w8 h
        obtain ⟨h1, _, hb8⟩ := h
        obtain ⟨v8, he, hL8⟩ := h1 l _ Hd2.out
        subst he
        have HB8 := Lib.hid (Below.then HB5.out hb8 HB5.out.size)
        have HL8 := Lib.hid hL8
        obtain ⟨A8, n8, c8, e8⟩ := hL8.form
        subst e8
        clear h1 hL8 hb8
        go_wp2_with fail
        refine (certs_same _ _ l l _ _ _ HL8.out (Hl.out.keeps (Keeps.on HB8.out))).mono ?_
        rintro e w9 ⟨rfl, hb9⟩
        rw [decide_eq_true rfl]
        have HB9 := Lib.hid (Below.then HB8.out hb9 HB8.out.size)
        clear hb9
        go_wp2_with (go_at_call 12; refine (wakes02 _).mono ?_; rintro e w' ⟨rfl, hb⟩; have Hb := Lib.hid hb; clear hb)
        go_ret
        exact ⟨rfl, Below.then HB9.out Hb.out HB9.out.size⟩
      · have hd : Psp.dL Psp.dV ba 0 = some (lv, (ba.length : Int)) := by
          have h1 := Hba.out
          rw [Hoa.out, res_yes] at h1
          have := (Psp.codec_L Psp.codec_V).back Hoa.out []
          rw [List.append_nil, h1] at this
          exact this
        have Hd := Lib.hid hd
        clear hd
        go_wp2_with fail
        refine (takeV ba _ 0 _ H15.out ⟨by omega, by omega⟩).mono ?_
        intro e w6 h
        obtain ⟨h1, _, hb6⟩ := h
        obtain ⟨v6, he, hL6⟩ := h1 lv _ Hd.out
        subst he
        have H36 := Lib.hid (H35.out.keeps (Keeps.on hb6))
        have HB6 := Lib.hid (Below.then HB5.out hb6 HB5.out.size)
        have HL6 := Lib.hid hL6
        clear h1 hL6 hb6
        go_wp2_with fail
        refine (same_V v6 _ _ _ lv lv _ _ _ HL6.out (Hp.out.keeps (Keeps.on HB6.out)) rfl rfl).mono ?_
        rintro e w7 ⟨rfl, q3, rfl⟩
        rw [decide_eq_true rfl]
        have HB7 := Lib.hid (below_drewN HB6.out q3)
        have H37 := Lib.hid (H36.out.keeps (Keeps.drewN _ q3))
        go_wp2_with (go_at_call 12; refine (wakes02 _).mono ?_; rintro e w' ⟨rfl, hb⟩; have Hb := Lib.hid hb; clear hb)
        go_ret
        exact ⟨rfl, Below.then HB7.out Hb.out HB7.out.size⟩
      · have hd : Psp.dL Psp.dV ba 0 = some (lv, (ba.length : Int)) := by
          have h1 := Hba.out
          rw [Hoa.out, res_yes] at h1
          have := (Psp.codec_L Psp.codec_V).back Hoa.out []
          rw [List.append_nil, h1] at this
          exact this
        have Hd := Lib.hid hd
        clear hd
        go_wp2_with fail
        refine (takeV ba _ 0 _ H15.out ⟨by omega, by omega⟩).mono ?_
        intro e w6 h
        obtain ⟨h1, _, hb6⟩ := h
        obtain ⟨v6, he, hL6⟩ := h1 lv _ Hd.out
        subst he
        have H36 := Lib.hid (H35.out.keeps (Keeps.on hb6))
        have HB6 := Lib.hid (Below.then HB5.out hb6 HB5.out.size)
        have HL6 := Lib.hid hL6
        clear h1 hL6 hb6
        go_wp2_with fail
        refine (same_V v6 _ _ _ lv lv _ _ _ HL6.out (Hp.out.keeps (Keeps.on HB6.out)) rfl rfl).mono ?_
        rintro e w7 ⟨rfl, q3, rfl⟩
        rw [decide_eq_true rfl]
        have HB7 := Lib.hid (below_drewN HB6.out q3)
        have H37 := Lib.hid (H36.out.keeps (Keeps.drewN _ q3))
        have hd2 : Psp.dL Psp.dC bl 0 = some (l, (bl.length : Int)) := by
          have h1 := Hbl.out
          rw [Hol.out, res_yes] at h1
          have := (Psp.codec_L Psp.codec_C).back Hol.out []
          rw [List.append_nil, h1] at this
          exact this
        have Hd2 := Lib.hid hd2
        clear hd2
        go_wp2_with fail
        refine (takeC bl _ 0 _ H37.out ⟨by omega, by omega⟩).mono ?_
        intro e w8 h
        obtain ⟨h1, _, hb8⟩ := h
        obtain ⟨v8, he, hL8⟩ := h1 l _ Hd2.out
        subst he
        have HB8 := Lib.hid (Below.then HB7.out hb8 HB7.out.size)
        have HL8 := Lib.hid hL8
        obtain ⟨A8, n8, c8, e8⟩ := hL8.form
        subst e8
        clear h1 hL8 hb8
        go_wp2_with fail
        refine (certs_same _ _ l l _ _ _ HL8.out (Hl.out.keeps (Keeps.on HB8.out))).mono ?_
        rintro e w9 ⟨rfl, hb9⟩
        rw [decide_eq_true rfl]
        have HB9 := Lib.hid (Below.then HB8.out hb9 HB8.out.size)
        clear hb9
        go_wp2_with (go_at_call 12; refine (wakes02 _).mono ?_; rintro e w' ⟨rfl, hb⟩; have Hb := Lib.hid hb; clear hb)
        go_ret
        exact ⟨rfl, Below.then HB9.out Hb.out HB9.out.size⟩
end Go.Proofs.Ytadaejpodjhkdaa.packCerts
