/- The walk of PackUnlike. -/
import Derived.Test.YtadaejpodjhkdaaPh
import Derived.Test.YtadaejpodjhkdaaOpenW
namespace Go.Proofs.Ytadaejpodjhkdaa.packUnlike
open Go.RowKit
set_option linter.unusedVariables false

theorem same_iff {α : Type} [DecidableEq α] {d : Psp.Dec α} {e : α → List UInt8} {ok : α → Bool} (h : Psp.Codec e ok d) {x y : α} (hx : ok x = true) (hy : ok y = true) : decide (e x = e y) = decide (x = y) := by
  by_cases hxy : x = y
  · subst hxy; rw [decide_eq_true rfl, decide_eq_true rfl]
  · rw [decide_eq_false hxy, decide_eq_false fun he => hxy (h.inj hx hy he)]

/-- The votes' half. -/
theorem half (v : Value) (l : List Psp.Vote) (w W : World) (hr : Rd w w.heap.size 2 v l.length (l.flatMap vt)) (hb : Below w.heap.size w W) : RdP W (fun b => b < W.heap.size) 2 v l.length (l.flatMap vt) := (hr.to_p (Nat.le_refl _)).keeps (Keeps.on hb)

set_option maxRecDepth 100000 in
set_option maxHeartbeats 4000000 in
theorem walk (va : Value) (la : List Psp.Cert) (vb : Value) (lb : List Psp.Cert) (vv : Value) (lv : List Psp.Vote) (vw : Value) (lw : List Psp.Vote) (w : World)
    (ha : RdC w (fun b => b < w.heap.size) va la) (wa : ∀ c ∈ la, wfCert c) (hb : RdC w (fun b => b < w.heap.size) vb lb) (wb : ∀ c ∈ lb, wfCert c)
    (hv : Rd w w.heap.size 2 vv lv.length (lv.flatMap vt)) (wv : ∀ c ∈ lv, wfVote c) (hw : Rd w w.heap.size 2 vw lw.length (lw.flatMap vt)) (ww : ∀ c ∈ lw, wfVote c) :
    Calls Try.prog 4 #[va, vb, vv, vw] w fun e w' => e = .returned (.bool true) ∧ Below w.heap.size w w' := by
  have Ha := Lib.hid ha
  have Hb := Lib.hid hb
  obtain ⟨nv, hnv⟩ : ∃ n, lv.length = n := ⟨_, rfl⟩
  obtain ⟨nw, hnw⟩ : ∃ n, lw.length = n := ⟨_, rfl⟩
  have Hv := Lib.hid hv
  have Hw := Lib.hid hw
  have Hnv := Lib.hid hnv
  have Hnw := Lib.hid hnw
  rw [hnv] at hv
  rw [hnw] at hw
  obtain ⟨_, Av, cv, rfl, _, _, _⟩ := (hv.to_p (Nat.le_refl _)).parts
  obtain ⟨_, Aw, cw, rfl, _, _, _⟩ := (hw.to_p (Nat.le_refl _)).parts
  clear ha wa hb wb hv wv hw ww hnv hnw
  have ways : heavyC la = true ∨ (heavyC la = false ∧ heavyC lb = true) ∨ (heavyC la = false ∧ heavyC lb = false ∧ 60 < nv) ∨ (heavyC la = false ∧ heavyC lb = false ∧ ¬ 60 < nv ∧ 60 < nw) ∨ (heavyC la = false ∧ heavyC lb = false ∧ ¬ 60 < nv ∧ ¬ 60 < nw) := by
    cases heavyC la <;> cases heavyC lb <;> simp <;> omega
  rcases ways with h1 | ⟨h1, h2⟩ | ⟨h1, h2, h3⟩ | ⟨h1, h2, h3, h4⟩ | ⟨h1, h2, h3, h4⟩
  · have H1 := Lib.hid h1
    clear h1
    go_enter Try.func4, Try.ntmps4
    go_wp2_with fail
    refine (heavyC_any va la _ _ Ha.out).mono ?_
    rintro e w1 ⟨rfl, rfl⟩
    rw [H1.out]
    go_wp2_with (go_at_call 12; refine (wakes02 _).mono ?_; rintro e w' ⟨rfl, hb⟩)
    go_ret
    exact ⟨rfl, hb⟩
  · have H1 := Lib.hid h1
    have H2 := Lib.hid h2
    clear h1 h2
    go_enter Try.func4, Try.ntmps4
    go_wp2_with fail
    refine (heavyC_any va la _ _ Ha.out).mono ?_
    rintro e w1 ⟨rfl, rfl⟩
    rw [H1.out]
    go_wp2_with fail
    refine (heavyC_any vb lb _ _ Hb.out).mono ?_
    rintro e w1 ⟨rfl, rfl⟩
    rw [H2.out]
    go_wp2_with (go_at_call 12; refine (wakes02 _).mono ?_; rintro e w' ⟨rfl, hb⟩)
    go_ret
    exact ⟨rfl, hb⟩
  · have H1 := Lib.hid h1
    have H2 := Lib.hid h2
    clear h1 h2
    have d1 : decide (60 < (nv : Int)) = true := by simp; omega
    go_enter Try.func4, Try.ntmps4
    go_wp2_with fail
    refine (heavyC_any va la _ _ Ha.out).mono ?_
    rintro e w1 ⟨rfl, rfl⟩
    rw [H1.out]
    go_wp2_with fail
    refine (heavyC_any vb lb _ _ Hb.out).mono ?_
    rintro e w1 ⟨rfl, rfl⟩
    rw [H2.out]
    go_wp2_with (go_at_call 12; refine (wakes02 _).mono ?_; rintro e w' ⟨rfl, hb⟩)
    go_ret
    exact ⟨rfl, hb⟩
  · have H1 := Lib.hid h1
    have H2 := Lib.hid h2
    clear h1 h2
    have d1 : decide (60 < (nv : Int)) = false := by simp; omega
    have d2 : decide (60 < (nw : Int)) = true := by simp; omega
    go_enter Try.func4, Try.ntmps4
    go_wp2_with fail
    refine (heavyC_any va la _ _ Ha.out).mono ?_
    rintro e w1 ⟨rfl, rfl⟩
    rw [H1.out]
    go_wp2_with fail
    refine (heavyC_any vb lb _ _ Hb.out).mono ?_
    rintro e w1 ⟨rfl, rfl⟩
    rw [H2.out]
    go_wp2_with (go_at_call 12; refine (wakes02 _).mono ?_; rintro e w' ⟨rfl, hb⟩)
    go_ret
    exact ⟨rfl, hb⟩
  · have H1 := Lib.hid h1
    have H2 := Lib.hid h2
    clear h1 h2
    have d1 : decide (60 < (nv : Int)) = false := by simp; omega
    have d2 : decide (60 < (nw : Int)) = false := by simp; omega
    go_enter Try.func4, Try.ntmps4
    go_wp2_with fail
    refine (heavyC_any va la _ _ Ha.out).mono ?_
    rintro e w1 ⟨rfl, rfl⟩
    rw [H1.out]
    go_wp2_with fail
    refine (heavyC_any vb lb _ _ Hb.out).mono ?_
    rintro e w1 ⟨rfl, rfl⟩
    rw [H2.out]
    go_wp2_with fail
    refine (pk_certs la va w Ha.out).mono ?_
    rintro e w1 ⟨x1, rfl, ho1, hb1⟩
    have Hb1 := Lib.hid hb1
    have Ho1 := Lib.hid ho1
    clear ho1 hb1
    go_wp2_with fail
    refine (pk_certs lb vb w1 (Hb.out.keeps (Keeps.on Hb1.out))).mono ?_
    rintro e w2 ⟨x2, rfl, ho2, hb2⟩
    have Hb2 := Lib.hid (Below.then Hb1.out hb2 Hb1.out.size)
    have Ho2 := Lib.hid ho2
    have Ho1' := Lib.hid (own_below Ho1.out hb2)
    clear ho2 hb2
    have ways : Psp.okL Psp.okC la = false ∨ (Psp.okL Psp.okC la = true ∧ Psp.okL Psp.okC lb = false) ∨ (Psp.okL Psp.okC la = true ∧ Psp.okL Psp.okC lb = true) := by
      cases Psp.okL Psp.okC la <;> cases Psp.okL Psp.okC lb <;> simp
    rcases ways with g1 | g1 | g1
    case' inl =>
      rw [g1]
      clear g1
      go_wp2_with fail
      have Hbx := Hb2
    case' inr.inl =>
      obtain ⟨g1, g2⟩ := g1
      rw [g1, g2]
      clear g1 g2
      go_wp2_with fail
      have Hbx := Hb2
    case' inr.inr =>
      obtain ⟨g1, g2⟩ := g1
      have he := same_iff (Psp.codec_L Psp.codec_C) g1 g2
      rw [g1, g2]
      rw [g1, if_pos rfl] at Ho1'
      rw [g2, if_pos rfl] at Ho2
      have He := Lib.hid he
      clear g1 g2 he
      go_wp2_with fail
      refine (same_bytes x1 x2 _ _ _ _ _ (Rd.of_own Ho1'.out) (Rd.of_own Ho2.out)).mono ?_
      rintro e w3 ⟨rfl, q3, rfl⟩
      rw [He.out]
      have hb3 := below_drewN Hb2.out q3
      have Hb3 := Lib.hid hb3
      clear hb3
      go_wp2_with fail
      refine (certs_same va vb la lb _ _ _ (Ha.out.keeps (Keeps.on Hb3.out)) (Hb.out.keeps (Keeps.on Hb3.out))).mono ?_
      rintro e w4 ⟨rfl, hb4⟩
      have Hbx := Lib.hid (Below.then Hb3.out hb4 Hb3.out.size)
      clear hb4
      generalize decide (la = lb) = B1
      have d3 : (B1 != B1) = false := by simp
      go_wp2_with fail
    all_goals
      refine (pk_votes lv _ _ (half _ lv w _ Hv.out Hbx.out)).mono ?_
      rintro e w5 ⟨x5, rfl, ho5, hb5⟩
      have Hb5 := Lib.hid (Below.then Hbx.out hb5 Hbx.out.size)
      have Ho5 := Lib.hid ho5
      clear ho5 hb5
      go_wp2_with fail
      refine (pk_votes lw _ _ (half _ lw w _ Hw.out Hb5.out)).mono ?_
      rintro e w6 ⟨x6, rfl, ho6, hb6⟩
      have Hb6 := Lib.hid (Below.then Hb5.out hb6 Hb5.out.size)
      have Ho6 := Lib.hid ho6
      have Ho5' := Lib.hid (own_below Ho5.out hb6)
      clear ho6 hb6
      have ways : Psp.okL Psp.okV lv = false ∨ (Psp.okL Psp.okV lv = true ∧ Psp.okL Psp.okV lw = false) ∨ (Psp.okL Psp.okV lv = true ∧ Psp.okL Psp.okV lw = true) := by
        cases Psp.okL Psp.okV lv <;> cases Psp.okL Psp.okV lw <;> simp
      rcases ways with g1 | ⟨g1, g2⟩ | ⟨g1, g2⟩
      · rw [g1]
        clear g1
        go_wp2_with (go_at_call 12; refine (wakes02 _).mono ?_; rintro e w' ⟨rfl, hb⟩; have Hw' := Lib.hid hb; clear hb)
        go_ret
        exact ⟨rfl, Below.then Hb6.out Hw'.out Hb6.out.size⟩
      · rw [g1, g2]
        clear g1 g2
        go_wp2_with (go_at_call 12; refine (wakes02 _).mono ?_; rintro e w' ⟨rfl, hb⟩; have Hw' := Lib.hid hb; clear hb)
        go_ret
        exact ⟨rfl, Below.then Hb6.out Hw'.out Hb6.out.size⟩
      · have he := same_iff (Psp.codec_L Psp.codec_V) g1 g2
        rw [g1, g2]
        rw [g1, if_pos rfl] at Ho5'
        rw [g2, if_pos rfl] at Ho6
        have He := Lib.hid he
        clear g1 g2 he
        go_wp2_with fail
        refine (same_bytes x5 x6 _ _ _ _ _ (Rd.of_own Ho5'.out) (Rd.of_own Ho6.out)).mono ?_
        rintro e w7 ⟨rfl, q7, rfl⟩
        rw [He.out]
        have hb7 := below_drewN Hb6.out q7
        have Hb7 := Lib.hid hb7
        clear hb7
        go_wp2_with fail
        refine (same_V _ _ _ _ lv lw _ _ _ (half _ lv w _ Hv.out Hb7.out) (half _ lw w _ Hw.out Hb7.out) rfl rfl).mono ?_
        rintro e w8 ⟨rfl, q8, rfl⟩
        have hb8 := below_drewN Hb6.out (q7 + q8)
        have Hb8 := Lib.hid hb8
        clear hb8
        generalize decide (lv = lw) = B2
        have d4 : (B2 == B2) = true := by simp
        go_wp2_with (go_at_call 12; refine (wakes02 _).mono ?_; rintro e w' ⟨rfl, hb⟩; have Hw' := Lib.hid hb; clear hb)
        go_ret
        exact ⟨rfl, Below.then Hb8.out Hw'.out Hb8.out.size⟩
end Go.Proofs.Ytadaejpodjhkdaa.packUnlike
