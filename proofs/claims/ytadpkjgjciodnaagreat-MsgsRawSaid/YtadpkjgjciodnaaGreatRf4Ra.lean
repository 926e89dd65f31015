/- The reference's form: viewChange. Printed by gen_rf4.py. -/
import Derived.Test.YtadpkjgjciodnaaGreatRf3Ra
import Derived.Test.YtadpkjgjciodnaaGreatFp3Ra
namespace Go.Proofs.YtadpkjgjciodnaaGreat
open Go.RowKit
set_option linter.unusedVariables false
set_option linter.unusedSimpArgs false

set_option maxRecDepth 100000 in
set_option maxHeartbeats 8000000 in
theorem rchange_l (view : Int) (lo : List Psp.Vote) (lc : List Psp.Cert) (vo vc : Value) (f cl : Int) (w : World) (P : Nat → Prop) (hx : RdV w P vo lo) (hc : RdC w P vc lc) (hw : ∀ v ∈ lo, wfVote v) (hwc : ∀ c ∈ lc, wfCert c) :
    Calls Tryz.prog 110 #[.int .i64 view, vo, vc, .int .i64 f, .int .i64 cl] w fun e w' => e = .returned (.bool (Psp.changeB view lo lc f cl)) ∧ Below w.heap.size w w' := by
  obtain ⟨L, hL, hr, hcs⟩ := hc
  obtain ⟨n, hn⟩ : ∃ n, L.length = n := ⟨_, rfl⟩
  rw [hn] at hr
  obtain ⟨_, Ac, cc, rfl, hc1, hc2, _⟩ := hr.parts
  obtain ⟨_, Ao, co, rfl, _⟩ := RdP.parts (show RdP _ _ 2 vo lo.length (lo.flatMap vt) from hx)
  have HX := Lib.hid hx
  have HR := Lib.hid hr
  have Hcs := Lib.hid hcs
  have Hn := Lib.hid hn
  have HLm := Lib.hid hL
  have Hw := Lib.hid hw
  have Hwc := Lib.hid hwc
  obtain ⟨b2, hb2⟩ : ∃ x, Psp.rising (lo.map (·.n)) f = x := ⟨_, rfl⟩
  obtain ⟨b3, hb3⟩ : ∃ x, Psp.sealsB lo = x := ⟨_, rfl⟩
  have Hr0 : Hid (Psp.changeB view lo lc f cl = (Psp.win view 1 12 && ((b3 && b2) && Psp.certsB view lc f cl))) := Lib.hid (by unfold Psp.changeB Psp.votesB; rw [hb2, hb3])
  clear hx hr hcs hn hL hw hwc
  go_enter Tryz.func110, Tryz.ntmps110
  by_cases hv1 : view < 1
  · have dv1 : decide (view < 1) = true := decide_eq_true hv1
    have Hr : Hid (Psp.changeB view lo lc f cl = false) := Lib.hid (by rw [Hr0.out, (Psp.win_no _ _ _).2 (by omega)]; rfl)
    go_wp2_with fail
    go_ret
    exact ⟨by rw [Hr.out]; rfl, Below.refl _ _⟩
  by_cases hv2 : 12 < view
  · have dv1 : decide (view < 1) = false := decide_eq_false hv1
    have dv2 : decide (view > 12) = true := decide_eq_true hv2
    have Hr : Hid (Psp.changeB view lo lc f cl = false) := Lib.hid (by rw [Hr0.out, (Psp.win_no _ _ _).2 (by omega)]; rfl)
    go_wp2_with fail
    go_ret
    exact ⟨by rw [Hr.out]; rfl, Below.refl _ _⟩
  have dv1 : decide (view < 1) = false := decide_eq_false hv1
  have dv2 : decide (view > 12) = false := decide_eq_false hv2
  have Hr : Hid (Psp.changeB view lo lc f cl = ((b3 && b2) && Psp.certsB view lc f cl)) := Lib.hid (by rw [Hr0.out, (Psp.win_iff _ _ _).2 ⟨by omega, by omega⟩]; rfl)
  clear Hr0 hv1 hv2
  go_wp2_with fail
  refine (rrising_l lo lo.length (.slice Ao lo.length co) f w _ HX.out rfl Hw.out).mono ?_
  rw [hb2]
  rintro e w1 ⟨rfl, hb⟩
  have HL0 := Lib.hid hb
  clear hb hb2
  cases b2 with
  | false =>
    go_wp2_with fail
    go_ret
    exact ⟨by rw [Hr.out, Bool.and_false]; rfl, HL0.out⟩
  | true =>
    go_wp2_with fail
    refine (rseals_l lo lo.length (.slice Ao lo.length co) w1 _ (RdP.keeps HX.out (Keeps.below HL0.out)) rfl).mono ?_
    rw [hb3]
    rintro e w2 ⟨rfl, rfl⟩
    clear hb3
    cases b3 with
    | false =>
      go_wp2_with fail
      go_ret
      exact ⟨by rw [Hr.out]; rfl, HL0.out⟩
    | true =>
      go_wp2_with fail
      go_loopw [11] (fun i wr => ∃ k : Nat, i = .int .i64 (k : Int) ∧ k ≤ n ∧ Hid (∀ (j : Nat) (y : Psp.Cert), j < k → lc[j]? = some y → (Psp.certB y f cl && decide (y.v < view)) = true) ∧ Hid (∀ (j : Nat) (x y : Psp.Cert), j + 1 < k → lc[j]? = some x → lc[j + 1]? = some y → Psp.ltC x y = true) ∧ Hid (Below w.heap.size w wr)) (fun i _ => n - (intOf i).toNat)
      case atStart => exact ⟨0, rfl, Nat.zero_le _, Lib.hid fun j y hj => by omega, Lib.hid fun j x y hj => by omega, HL0⟩
      case round =>
        clear HL0
        obtain ⟨k, rfl, hk, HI, HJ, HL⟩ := hrel
        by_cases hlt : k < n
        · obtain ⟨b0, o0, c0, y, he, hb0, hb1, hy, hel⟩ := rd_elem (f := cv) (k := 5) (fun _ => rfl) (by omega) HR.out Hn.out hlt
          injection he with he1 _ he2
          subst he1 he2
          have hok := Hcs.out y (List.mem_of_getElem? hy)
          obtain ⟨cy, yb, yo⟩ := y
          obtain ⟨_, A1, c1, e1, _⟩ := RdP.parts hok.1
          obtain ⟨_, A2, c2, e2, _⟩ := RdP.parts hok.2
          dsimp only at e1 e2
          subst e1 e2
          have hq : wr.rangeAt b0 (o0 + k * 5) [.int .i64 cy.v, .int .i64 cy.i, .int .i64 cy.q, .slice A1 cy.b.length c1, .slice A2 cy.o.length c2] := hel wr (HL.out.block b0 hb1)
          have HQ := Lib.hid hq
          have hyl : lc[k]? = some cy := by have := map_get (g := CertV.c) hy; rwa [HLm.out] at this
          have Hy := Lib.hid hyl
          have Hok := Lib.hid (show CertOk w P ⟨cy, .slice A1 cy.b.length c1, .slice A2 cy.o.length c2⟩ from hok)
          have Hwy := Lib.hid (Hwc.out cy (List.mem_of_getElem? hyl)).2.2.2.2
          have d1 : decide ((k : Int) < (n : Int)) = true := by simp; omega
          clear hel hyl hok hq
          go_upto_region 7 with (first | (refine list_load rfl 25 (.tmp 38) rfl b0 (o0 + k * 5) rfl [.int .i64 cy.v, .int .i64 cy.i, .int .i64 cy.q, .slice A1 cy.b.length c1, .slice A2 cy.o.length c2] _ HQ.out Tryz.underlying25 rfl sizeC ?_) | (refine list_store_new rfl 25 (.tmp 12) (.tmp 39) rfl _ _ [.int .i64 cy.v, .int .i64 cy.i, .int .i64 cy.q, .slice A1 cy.b.length c1, .slice A2 cy.o.length c2] rfl rfl rfl sizeC (by simp [Value.oneCell']) ?_; intro w1 hbw hr1 hs1))
          have HL1 := Lib.hid (Below.then HL.out hbw HL.out.size)
          have HR1 := Lib.hid hr1
          have hs1' : wr.heap.size < w1.heap.size := by omega
          clear hbw hr1 HQ hs1
          go_wp2_with (first | (refine list_load rfl 25 (.tmp 12) rfl wr.heap.size 0 rfl [.int .i64 cy.v, .int .i64 cy.i, .int .i64 cy.q, .slice A1 cy.b.length c1, .slice A2 cy.o.length c2] _ HR1.out Tryz.underlying25 rfl sizeC ?_))
          refine (rcert_l cy _ _ f cl w1 _ (Hok.out.keeps (Keeps.below HL1.out)) Hwy.out).mono ?_
          obtain ⟨sb, hsb⟩ : ∃ sb, Psp.certB cy f cl = sb := ⟨_, rfl⟩
          rw [hsb]
          rintro e w2 ⟨rfl, hb2⟩
          have HL2 := Lib.hid (Below.then HL1.out hb2 HL1.out.size)
          have HR2 := Lib.hid (range_keep HR1.out (hb2.block _ hs1'))
          have Hsb := Lib.hid hsb
          clear hb2 HL1 HR1 hs1' hsb Hok Hwy
          cases sb with
          | false =>
            have Hf := Lib.hid (certsB_not (view := view) Hy.out (by rw [Hsb.out]; rfl))
            clear HI HJ
            go_wp2_with fail
            go_ret
            exact ⟨by rw [Hr.out, Hf.out]; rfl, HL2.out⟩
          | true =>
            have kv : w2.cell? ⟨wr.heap.size, 0, none⟩ = some (.int .i64 cy.v) := by have := HR2.out 0 _ rfl; simpa using this
            by_cases hv : cy.v < view
            case' neg =>
              have dv : decide (cy.v ≥ view) = true := by simp; omega
              have Hf := Lib.hid (certsB_not (view := view) (f := f) (cl := cl) Hy.out (by rw [decide_eq_false hv, Bool.and_false]))
              clear HI HJ hv
              go_wp2_with fail
              go_ret
              exact ⟨by rw [Hr.out, Hf.out]; rfl, HL2.out⟩
            case' pos =>
              have dv : decide (cy.v ≥ view) = false := by simp; omega
              have ki : w2.cell? ⟨wr.heap.size, 1, none⟩ = some (.int .i64 cy.i) := by have := HR2.out 1 _ rfl; simpa using this
              have kq : w2.cell? ⟨wr.heap.size, 2, none⟩ = some (.int .i64 cy.q) := by have := HR2.out 2 _ rfl; simpa using this
              have HI2 : Hid (∀ (j : Nat) (z : Psp.Cert), j < k + 1 → lc[j]? = some z → (Psp.certB z f cl && decide (z.v < view)) = true) := Lib.hid fun j z hj hz => by
                by_cases he : j = k
                · subst he; have e1 := Hy.out.symm.trans hz; injection e1 with e1; subst e1; rw [Hsb.out, decide_eq_true hv]; rfl
                · exact HI.out j z (by omega) hz
              clear HI
              by_cases hk0 : k = 0
              · subst hk0
                have d2 : decide ((0 : Int) < ((0 : Nat) : Int)) = false := by simp
                have HJ2 : Hid (∀ (j : Nat) (x z : Psp.Cert), j + 1 < 0 + 1 → lc[j]? = some x → lc[j + 1]? = some z → Psp.ltC x z = true) := Lib.hid fun j x z hj => by omega
                clear HJ
                go_wp2_with fail
                go_quiet (fail)
                go_wp2_with fail
                go_roundw
                case rel => exact ⟨0 + 1, by go_num, by omega, HI2, HJ2, (by first | exact HL2 | exact Lib.hid (below_drewN HL2.out _))⟩
                case measure => simp [intOf]; omega
              · obtain ⟨p, rfl⟩ : ∃ p, k = p + 1 := ⟨k - 1, by omega⟩
                obtain ⟨b3, o3, c3, z, he, _, _, hz, hel⟩ := rd_elem (f := cv) (k := 5) (fun _ => rfl) (by omega) HR.out Hn.out (show p < n by omega)
                injection he with he1 _ he2
                injection he1 with he1
                injection he1 with he3 he4
                subst he3 he4 he2
                have hrg := hel w2 (HL2.out.block b0 hb1)
                have pi : w2.cell? ⟨b0, o0 + p * 5 + 1, none⟩ = some (.int .i64 z.c.i) := hrg 1 _ rfl
                have pq : w2.cell? ⟨b0, o0 + p * 5 + 2, none⟩ = some (.int .i64 z.c.q) := hrg 2 _ rfl
                have hzl : lc[p]? = some z.c := by have := map_get (g := CertV.c) hz; rwa [HLm.out] at this
                obtain ⟨cz, hcz⟩ : ∃ cz, z.c = cz := ⟨_, rfl⟩
                rw [hcz] at pi pq hzl
                have Hz := Lib.hid hzl
                have d2 : decide ((0 : Int) < ((p + 1 : Nat) : Int)) = true := by rw [decide_eq_true_eq]; omega
                have z1 : ((p + 1 : Nat) : Int) - 1 = (p : Int) := by omega
                clear hel hrg hz hzl hcz hk0
                by_cases h1 : cy.i < cz.i
                · have d3 : decide (cy.i < cz.i) = true := decide_eq_true h1
                  have Hf := Lib.hid (certsB_down (view := view) (f := f) (cl := cl) Hz.out Hy.out (by unfold Psp.ltC; rw [decide_eq_false_iff_not]; omega))
                  clear HJ
                  go_wp2_with fail
                  go_quiet (fail)
                  go_wp2_with fail
                  go_ret
                  exact ⟨by rw [Hr.out, Hf.out]; rfl, by first | exact HL2.out | exact below_drewN HL2.out _⟩
                · have d3 : decide (cy.i < cz.i) = false := decide_eq_false h1
                  by_cases h2 : cy.i = cz.i
                  · have d4 : (cy.i == cz.i) = true := beq_iff_eq.2 h2
                    by_cases h3 : cy.q ≤ cz.q
                    · have d5 : decide (cy.q ≤ cz.q) = true := decide_eq_true h3
                      have Hf := Lib.hid (certsB_down (view := view) (f := f) (cl := cl) Hz.out Hy.out (by unfold Psp.ltC; rw [decide_eq_false_iff_not]; omega))
                      clear HJ
                      go_wp2_with fail
                      go_quiet (fail)
                      go_wp2_with fail
                      go_ret
                      exact ⟨by rw [Hr.out, Hf.out]; rfl, by first | exact HL2.out | exact below_drewN HL2.out _⟩
                    · have d5 : decide (cy.q ≤ cz.q) = false := decide_eq_false h3
                      have Hlt : Hid (Psp.ltC cz cy = true) := Lib.hid (by unfold Psp.ltC; rw [decide_eq_true_eq]; omega)
                      have HJ2 : Hid (∀ (j : Nat) (x t : Psp.Cert), j + 1 < p + 1 + 1 → lc[j]? = some x → lc[j + 1]? = some t → Psp.ltC x t = true) := Lib.hid fun j x t hj hx ht => by
                        by_cases he : j = p
                        · subst he
                          have e1 := Hz.out.symm.trans hx
                          have e2 := Hy.out.symm.trans ht
                          injection e1 with e1
                          injection e2 with e2
                          subst e1 e2
                          exact Hlt.out
                        · exact HJ.out j x t (by omega) hx ht
                      clear HJ Hlt
                      go_wp2_with fail
                      go_quiet (fail)
                      go_wp2_with fail
                      go_roundw
                      case rel => exact ⟨p + 1 + 1, by go_num, by omega, HI2, HJ2, (by first | exact HL2 | exact Lib.hid (below_drewN HL2.out _))⟩
                      case measure => simp [intOf]; omega
                  · have d4 : (cy.i == cz.i) = false := beq_eq_false_iff_ne.2 h2
                    have Hlt : Hid (Psp.ltC cz cy = true) := Lib.hid (by unfold Psp.ltC; rw [decide_eq_true_eq]; omega)
                    have HJ2 : Hid (∀ (j : Nat) (x t : Psp.Cert), j + 1 < p + 1 + 1 → lc[j]? = some x → lc[j + 1]? = some t → Psp.ltC x t = true) := Lib.hid fun j x t hj hx ht => by
                      by_cases he : j = p
                      · subst he
                        have e1 := Hz.out.symm.trans hx
                        have e2 := Hy.out.symm.trans ht
                        injection e1 with e1
                        injection e2 with e2
                        subst e1 e2
                        exact Hlt.out
                      · exact HJ.out j x t (by omega) hx ht
                    clear HJ Hlt
                    go_wp2_with fail
                    go_quiet (fail)
                    go_wp2_with fail
                    go_roundw
                    case rel => exact ⟨p + 1 + 1, by go_num, by omega, HI2, HJ2, (by first | exact HL2 | exact Lib.hid (below_drewN HL2.out _))⟩
                    case measure => simp [intOf]; omega
        · obtain rfl : k = n := by omega
          have Hf : Hid (Psp.certsB view lc f cl = true) := Lib.hid (certsB_yes (fun j x hx => HI.out j x (by have := (List.getElem?_eq_some_iff.1 hx).1; rw [← HLm.out, List.length_map, Hn.out] at this; exact this) hx) (fun j x y hx hy => HJ.out j x y (by have := (List.getElem?_eq_some_iff.1 hy).1; rw [← HLm.out, List.length_map, Hn.out] at this; exact this) hx hy))
          clear HI HJ
          go_wp2_with fail
          go_ret
          exact ⟨by rw [Hr.out, Hf.out]; rfl, HL.out⟩
end Go.Proofs.YtadpkjgjciodnaaGreat
