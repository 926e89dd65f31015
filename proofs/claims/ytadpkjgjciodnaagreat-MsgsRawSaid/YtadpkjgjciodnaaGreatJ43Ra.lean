/- psephoskeep.CopyMsg. Printed by gen_cpm.py. psephoskeep.Heavy. -/
import Derived.Test.YtadpkjgjciodnaaGreatPhaseRa
import Derived.Test.YtadpkjgjciodnaaGreatBalRa
import Derived.Test.YtadpkjgjciodnaaGreatGfRa
import Derived.Test.YtadpkjgjciodnaaGreatJ22Ra
section
namespace Go.Proofs.YtadpkjgjciodnaaGreat
open Go.RowKit
set_option linter.unusedVariables false
set_option linter.unusedSimpArgs false

/-- Not more than is played. -/
def lightM (m : Psp.Msg) : Prop := m.b.length ≤ 1000 ∧ m.o.length ≤ 1000 ∧ (m.c.length ≤ 1000 ∧ ∀ c ∈ m.c, c.b.length ≤ 1000 ∧ c.o.length ≤ 1000) ∧ m.p.length ≤ 1000 ∧ ∀ p ∈ m.p, p.o.length ≤ 1000 ∧ p.c.length ≤ 1000 ∧ ∀ c ∈ p.c, c.b.length ≤ 1000 ∧ c.o.length ≤ 1000

end Go.Proofs.YtadpkjgjciodnaaGreat
end
section
namespace Go.Proofs.YtadpkjgjciodnaaGreat
open Go.RowKit
set_option linter.unusedVariables false
set_option linter.unusedSimpArgs false

/-- Has a message more than is played? -/
def heavyP (p : Psp.Part) : Bool := decide (30 < p.o.length) || heavyC p.c
def heavyM (m : Psp.Msg) : Bool := decide (12 < m.b.length) || (decide (30 < m.o.length) || (heavyC m.c || (decide (12 < m.p.length) || m.p.any heavyP)))
theorem heavyM_no {m : Psp.Msg} (h : heavyM m = false) : lightM m := by
  unfold heavyM at h
  simp only [Bool.or_eq_false_iff, decide_eq_false_iff_not, List.any_eq_false] at h
  obtain ⟨h1, h2, h3, h4, h5⟩ := h
  obtain ⟨c1, c2⟩ := heavyC_no h3
  refine ⟨by omega, by omega, ⟨by omega, fun c hc => by have := c2 c hc; omega⟩, by omega, fun p hp => ?_⟩
  have h6 := h5 p hp
  unfold heavyP at h6
  simp only [Bool.not_eq_true, Bool.or_eq_false_iff, decide_eq_false_iff_not] at h6
  obtain ⟨d1, d2⟩ := heavyC_no h6.2
  exact ⟨by omega, by omega, fun c hc => by have := d2 c hc; omega⟩

set_option maxRecDepth 100000 in
set_option maxHeartbeats 4000000 in
theorem heavy_m (m : Psp.Msg) (vb vo vc vp : Value) (w : World) (P : Nat → Prop) (hx : MsgOk w P ⟨m, vb, vo, vc, vp⟩) :
    Calls Tryz.prog 22 #[.agg #[.int .i64 m.k, .int .i64 m.f, .int .i64 m.v, .int .i64 m.i, .int .i64 m.q, .int .i64 m.r, vb, vo, vc, vp]] w fun e w' => e = .returned (.bool (heavyM m)) ∧ Below w.heap.size w w' := by
  obtain ⟨Ab, Ao, Ac, Ap, cb, co, cc, cp, rfl, rfl, rfl, rfl⟩ := msg_slices hx
  have HX := Lib.hid hx
  clear hx
  obtain ⟨T, hT⟩ : ∃ T, heavyM m = T := ⟨_, rfl⟩
  rw [hT]
  have HT := Lib.hid hT
  clear hT
  have hb0 := alloc_below w (.cells #[.int .i64 m.k, .int .i64 m.f, .int .i64 m.v, .int .i64 m.i, .int .i64 m.q, .int .i64 m.r, .slice Ab m.b.length cb, .slice Ao m.o.length co, .slice Ac m.c.length cc, .slice Ap m.p.length cp] 41)
  have HB0 := Lib.hid hb0
  clear hb0
  by_cases h1 : 12 < m.b.length
  · have HF : Hid (T = true) := Lib.hid (by rw [← HT.out]; unfold heavyM; rw [decide_eq_true h1]; rfl)
    have d1 : decide (12 < (m.b.length : Int)) = true := by simp; omega
    obtain rfl := HF.out
    clear HT HF
    go_enter Tryz.func22, Tryz.ntmps22
    go_wp2_with fail
    go_ret
    exact ⟨rfl, HB0.out⟩
  have d1 : decide (12 < (m.b.length : Int)) = false := by simp; omega
  by_cases h2 : 30 < m.o.length
  · have HF : Hid (T = true) := Lib.hid (by rw [← HT.out]; unfold heavyM; rw [decide_eq_true h2, decide_eq_false h1]; rfl)
    have d2 : decide (30 < (m.o.length : Int)) = true := by simp; omega
    obtain rfl := HF.out
    clear HT HF
    go_enter Tryz.func22, Tryz.ntmps22
    go_wp2_with fail
    go_ret
    exact ⟨rfl, HB0.out⟩
  have d2 : decide (30 < (m.o.length : Int)) = false := by simp; omega
  have HT1 : Hid ((heavyC m.c || (decide (12 < m.p.length) || m.p.any heavyP)) = T) := Lib.hid (by rw [← HT.out]; unfold heavyM; rw [decide_eq_false h2, decide_eq_false h1]; rfl)
  clear HT
  have hc0 := heap_alloc_new w (.cells #[.int .i64 m.k, .int .i64 m.f, .int .i64 m.v, .int .i64 m.i, .int .i64 m.q, .int .i64 m.r, .slice Ab m.b.length cb, .slice Ao m.o.length co, .slice Ac m.c.length cc, .slice Ap m.p.length cp] 41)
  go_enter Tryz.func22, Tryz.ntmps22
  go_wp2_with fail
  obtain ⟨W, hW⟩ : ∃ W, w.alloc (.cells #[.int .i64 m.k, .int .i64 m.f, .int .i64 m.v, .int .i64 m.i, .int .i64 m.q, .int .i64 m.r, .slice Ab m.b.length cb, .slice Ao m.o.length co, .slice Ac m.c.length cc, .slice Ap m.p.length cp] 41) = W := ⟨_, rfl⟩
  rw [hW] at hc0 HB0 ⊢
  clear hW
  refine (heavyC_any _ m.c W _ (HX.out.2.2.1.keeps (Keeps.below HB0.out))).mono ?_
  rintro e w1 ⟨rfl, rfl⟩
  have y9 : W.cell? ⟨w.heap.size, 9, none⟩ = some (.slice Ap m.p.length cp) := by rw [cell_of_row _ _ 9 _ _ _ hc0]; rfl
  cases hcc : heavyC m.c with
  | true =>
    have HF : Hid (T = true) := Lib.hid (by rw [← HT1.out, hcc]; rfl)
    obtain rfl := HF.out
    clear HT1 HF hcc
    go_wp2_with fail
    go_ret
    exact ⟨rfl, HB0.out⟩
  | false =>
    have HT2 : Hid ((decide (12 < m.p.length) || m.p.any heavyP) = T) := Lib.hid (by rw [← HT1.out, hcc]; rfl)
    clear HT1 hcc
    by_cases h3 : 12 < m.p.length
    · have HF : Hid (T = true) := Lib.hid (by rw [← HT2.out, decide_eq_true h3]; rfl)
      have d3 : decide (12 < (m.p.length : Int)) = true := by simp; omega
      obtain rfl := HF.out
      clear HT2 HF
      go_wp2_with fail
      go_ret
      exact ⟨rfl, HB0.out⟩
    have d3 : decide (12 < (m.p.length : Int)) = false := by simp; omega
    have HT3 : Hid (m.p.any heavyP = T) := Lib.hid (by rw [← HT2.out, decide_eq_false h3]; rfl)
    clear HT2
    obtain ⟨L, hL, hxp, hxL⟩ := HX.out.2.2.2
    have hn : L.length = m.p.length := by rw [← hL, List.length_map]
    obtain ⟨n, hnn⟩ : ∃ n, m.p.length = n := ⟨_, rfl⟩
    rw [hn] at hxp
    rw [hnn] at hxp hn h3 d3 y9 ⊢
    obtain ⟨_, A, c, e0, hx1, hx2, hxc⟩ := hxp.parts
    injection e0 with e1 _ e2
    subst e1 e2
    have Hxc := Lib.hid hxc
    have Hn := Lib.hid hn
    have HL := Lib.hid hL
    have HxL := Lib.hid hxL
    have Hnn := Lib.hid hnn
    have Hc0 := Lib.hid hc0
    clear hxc hn hL hxL hxp hnn hc0
    go_wp2_with fail
    go_loop [3] (fun i => ∃ k : Nat, i = .int .i64 (k : Int) ∧ k ≤ n ∧ Hid ((m.p.take k).any heavyP = false)) (fun i => n - (intOf i).toNat)
    case atStart => exact ⟨0, rfl, Nat.zero_le _, Lib.hid rfl⟩
    case round =>
      obtain ⟨k, rfl, hk, Hany⟩ := hrel
      by_cases hlt : k < n
      · obtain ⟨b1, o1, hA1, hP1, hb1, h4⟩ := Hxc.out (by omega)
        subst hA1
        have hkL : k < L.length := by have := Hn.out; omega
        have r1 := range_keep (range_elem (f := pv) (k := 4) (fun _ => rfl) h4 hkL) (HB0.out.block b1 hb1)
        have hok1 := (HxL.out _ (List.getElem_mem hkL)).keeps (Keeps.below (w := w) (w' := W) HB0.out)
        have hkl : k < m.p.length := by rw [← HL.out, List.length_map]; exact hkL
        have e1 : m.p[k] = L[k].p := by simp only [← HL.out, List.getElem_map]
        have hst : (m.p.take (k + 1)).any heavyP = heavyP L[k].p := by rw [List.take_succ_eq_append_getElem hkl, List.any_append, Hany.out, e1]; simp
        have hmem : heavyP L[k].p = true → m.p.any heavyP = true := fun h => List.any_eq_true.2 ⟨m.p[k], List.getElem_mem hkl, by rw [e1]; exact h⟩
        obtain ⟨t, ht⟩ : ∃ t, L[k] = t := ⟨_, rfl⟩
        rw [ht] at r1 hok1 hst hmem
        obtain ⟨⟨tf, tw, tc, ts⟩, vo, vc⟩ := t
        obtain ⟨g1, g2⟩ := hok1
        simp only at g1 g2 hst hmem
        obtain ⟨_, Tv, cv1, rfl, _, _, _⟩ := g1.parts
        have G2 := Lib.hid g2
        have Hst := Lib.hid hst
        have Hmem := Lib.hid hmem
        have x1 := r1 1 _ rfl
        have x2 := r1 2 _ rfl
        simp only [Nat.add_zero] at x1 x2
        have kb0 : (0 : Int) ≤ (k : Int) := by omega
        have kb1 : (k : Int) < (n : Int) := by omega
        clear r1 g1 g2 h4 ht e1 hst hmem
        by_cases h5 : 30 < tw.length
        · have d5 : decide (30 < (tw.length : Int)) = true := by simp; omega
          have HF : Hid (T = true) := Lib.hid (by rw [← HT3.out]; exact Hmem.out (by unfold heavyP; rw [decide_eq_true h5]; rfl))
          obtain rfl := HF.out
          clear HF HT3
          go_wp2_with fail
          go_ret
          exact ⟨rfl, HB0.out⟩
        · have d5 : decide (30 < (tw.length : Int)) = false := by simp; omega
          have H5 := Lib.hid h5
          clear h5
          go_wp2_with fail
          refine (heavyC_any _ tc W _ G2.out).mono ?_
          rintro e w1 ⟨rfl, rfl⟩
          cases hc2 : heavyC tc with
          | true =>
            have HF : Hid (T = true) := Lib.hid (by rw [← HT3.out]; exact Hmem.out (by unfold heavyP; rw [hc2, Bool.or_true]))
            obtain rfl := HF.out
            clear HF HT3 hc2
            go_wp2_with fail
            go_ret
            exact ⟨rfl, HB0.out⟩
          | false =>
            have Hs2 : Hid ((m.p.take (k + 1)).any heavyP = false) := Lib.hid (by rw [Hst.out]; unfold heavyP; rw [hc2, decide_eq_false H5.out]; rfl)
            clear hc2
            go_wp2_with fail
            go_round
            case rel => exact ⟨k + 1, by go_num, by omega, Hs2⟩
            case measure => simp [intOf]; omega
      · have HF : Hid (T = false) := Lib.hid (by rw [← HT3.out, ← Hany.out, List.take_of_length_le (by rw [Hnn.out]; omega)])
        obtain rfl := HF.out
        clear HF HT3
        go_wp2_with fail
        go_ret
        exact ⟨rfl, HB0.out⟩
end Go.Proofs.YtadpkjgjciodnaaGreat
end
