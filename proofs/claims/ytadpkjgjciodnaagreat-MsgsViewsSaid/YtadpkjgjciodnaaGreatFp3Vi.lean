/- Package msgs: looks at certificates, view changes, parts. Printed by gen_fp3.py. -/
import Derived.Test.YtadpkjgjciodnaaGreatFp2Vi
import Derived.Deep.QuietTactic
namespace Go.Proofs.YtadpkjgjciodnaaGreat
open Go.RowKit
set_option linter.unusedVariables false

set_option maxRecDepth 100000 in
set_option maxHeartbeats 2000000 in
theorem cert_l (c : Psp.Cert) (vb vo : Value) (f cl : Int) (w : World) (P : Nat → Prop) (hx : CertOk w P ⟨c, vb, vo⟩) (hw : ∀ v ∈ c.o, wfVote v) :
    Calls Tryz.prog 97 #[.agg #[.int .i64 f, .int .i64 cl], .agg #[.int .i64 c.v, .int .i64 c.i, .int .i64 c.q, vb, vo]] w fun e w' => e = .returned (.bool (Psp.certB c f cl)) ∧ Below w.heap.size w w' := by
  obtain ⟨_, A1, c1, e1, _⟩ := RdP.parts hx.1
  obtain ⟨_, A2, c2, e2, _⟩ := RdP.parts hx.2
  dsimp only at e1 e2
  subst e1 e2
  have HX := Lib.hid hx
  have Hw := Lib.hid hw
  obtain ⟨W0, hW0⟩ : ∃ W0, (w.alloc (.cells #[.int .i64 f, .int .i64 cl] 104)).alloc (.cells #[.int .i64 c.v, .int .i64 c.i, .int .i64 c.q, .slice A1 c.b.length c1, .slice A2 c.o.length c2] 25) = W0 := ⟨_, rfl⟩
  have hL0 := (Lk.new w f cl).below (alloc_below _ (.cells #[.int .i64 c.v, .int .i64 c.i, .int .i64 c.q, .slice A1 c.b.length c1, .slice A2 c.o.length c2] 25))
  have hC0 := heap_alloc_new (w.alloc (.cells #[.int .i64 f, .int .i64 cl] 104)) (.cells #[.int .i64 c.v, .int .i64 c.i, .int .i64 c.q, .slice A1 c.b.length c1, .slice A2 c.o.length c2] 25)
  rw [hW0] at hL0 hC0
  rw [show (w.alloc (.cells #[.int .i64 f, .int .i64 cl] 104)).heap.size = w.heap.size + 1 by simp] at hC0
  have HL0 := Lib.hid hL0
  have HC0 := Lib.hid hC0
  clear hx hw hL0 hC0
  obtain ⟨b1, hb1⟩ : ∃ x, Psp.placeB c.v c.i c.q f = x := ⟨_, rfl⟩
  obtain ⟨b2, hb2⟩ : ∃ x, Psp.batchB c.b cl 0 4 = x := ⟨_, rfl⟩
  obtain ⟨b3, hb3⟩ : ∃ x, Psp.votesB c.o f = x := ⟨_, rfl⟩
  have Hr : Hid (Psp.certB c f cl = (b1 && (b2 && b3))) := Lib.hid (by unfold Psp.certB; rw [hb1, hb2, hb3])
  go_enter Tryz.func97, Tryz.ntmps97
  have x0 : W0.cell? ⟨w.heap.size + 1, 0, none⟩ = some (.int .i64 c.v) := by rw [cell_of_row _ _ 0 _ _ _ HC0.out]; rfl
  have x1 : W0.cell? ⟨w.heap.size + 1, 1, none⟩ = some (.int .i64 c.i) := by rw [cell_of_row _ _ 1 _ _ _ HC0.out]; rfl
  have x2 : W0.cell? ⟨w.heap.size + 1, 2, none⟩ = some (.int .i64 c.q) := by rw [cell_of_row _ _ 2 _ _ _ HC0.out]; rfl
  obtain ⟨k0, k1⟩ := HL0.out.cells
  go_wp2_with fail
  clear hW0 x0 x1 x2 k0 k1
  refine (place_any c.v c.i c.q f cl W0).mono ?_
  rw [hb1]
  rintro e w1 ⟨rfl, hb⟩
  have HL1 := Lib.hid (HL0.out.below hb)
  have HC1 := Lib.hid ((hb.block _ (Array.getElem?_eq_some_iff.1 HC0.out).1).trans HC0.out)
  clear hb HL0 HC0
  cases b1 with
  | false =>
    go_wp2_with fail
    go_ret
    exact ⟨by rw [Hr.out]; rfl, HL1.out.be⟩
  | true =>
    have kc : w1.cell? ⟨w.heap.size + 1, 3, none⟩ = some (.slice A1 c.b.length c1) := by rw [cell_of_row _ _ 3 _ _ _ HC1.out]; rfl
    obtain ⟨k0, k1⟩ := HL1.out.cells
    go_wp2_with fail
    refine (batch_l c.b c.b.length (.slice A1 c.b.length c1) f cl 0 4 w1 _ (HX.out.1.keeps (Keeps.below HL1.out.be)) rfl).mono ?_
    rw [hb2]
    rintro e w2 ⟨rfl, hb⟩
    have HL2 := Lib.hid (HL1.out.below hb)
    have HC2 := Lib.hid ((hb.block _ (Array.getElem?_eq_some_iff.1 HC1.out).1).trans HC1.out)
    clear hb HL1 HC1 kc k0 k1
    cases b2 with
    | false =>
      go_wp2_with fail
      go_ret
      exact ⟨by rw [Hr.out]; rfl, HL2.out.be⟩
    | true =>
      have kc : w2.cell? ⟨w.heap.size + 1, 4, none⟩ = some (.slice A2 c.o.length c2) := by rw [cell_of_row _ _ 4 _ _ _ HC2.out]; rfl
      obtain ⟨k0, k1⟩ := HL2.out.cells
      go_wp2_with fail
      refine (votes_l c.o c.o.length (.slice A2 c.o.length c2) f cl w2 _ (HX.out.2.keeps (Keeps.below HL2.out.be)) rfl Hw.out).mono ?_
      rw [hb3]
      rintro e w3 ⟨rfl, hb⟩
      have HL3 := Lib.hid (HL2.out.below hb)
      clear hb HL2 HC2 kc k0 k1
      go_wp2_with fail
      go_ret
      exact ⟨by rw [Hr.out]; rfl, HL3.out.be⟩

theorem certsB_not {view f cl : Int} {l : List Psp.Cert} {k : Nat} {x : Psp.Cert} (hx : l[k]? = some x) (h : (Psp.certB x f cl && decide (x.v < view)) = false) : Psp.certsB view l f cl = false := by
  unfold Psp.certsB
  rw [Psp.all_not (p := fun c => Psp.certB c f cl && decide (c.v < view)) hx h]; rfl
theorem certsB_down {view f cl : Int} {l : List Psp.Cert} {k : Nat} {x y : Psp.Cert} (hx : l[k]? = some x) (hy : l[k + 1]? = some y) (h : Psp.ltC x y = false) : Psp.certsB view l f cl = false := by
  unfold Psp.certsB
  have : Psp.upC l = false := by
    cases hu : Psp.upC l with
    | false => rfl
    | true => rw [(Psp.upC_iff l).1 hu k x y hx hy] at h; cases h
  rw [this, Bool.and_false]
theorem certsB_yes {view f cl : Int} {l : List Psp.Cert} (h1 : ∀ (j : Nat) (x : Psp.Cert), l[j]? = some x → (Psp.certB x f cl && decide (x.v < view)) = true) (h2 : ∀ (j : Nat) (x y : Psp.Cert), l[j]? = some x → l[j + 1]? = some y → Psp.ltC x y = true) : Psp.certsB view l f cl = true := by
  unfold Psp.certsB
  rw [Psp.all_take (p := fun c => Psp.certB c f cl && decide (c.v < view)) fun k _ x hx => h1 k x hx, (Psp.upC_iff l).2 h2]; rfl
theorem map_get {α β : Type} {g : α → β} {L : List α} {j : Nat} {y : α} (h : L[j]? = some y) : (L.map g)[j]? = some (g y) := by rw [List.getElem?_map, h]; rfl

set_option maxRecDepth 100000 in
set_option maxHeartbeats 8000000 in
theorem change_l (view : Int) (lo : List Psp.Vote) (lc : List Psp.Cert) (vo vc : Value) (f cl : Int) (w : World) (P : Nat → Prop) (hx : RdV w P vo lo) (hc : RdC w P vc lc) (hw : ∀ v ∈ lo, wfVote v) (hwc : ∀ c ∈ lc, wfCert c) :
    Calls Tryz.prog 95 #[.agg #[.int .i64 f, .int .i64 cl], .int .i64 view, vo, vc] w fun e w' => e = .returned (.bool (Psp.changeB view lo lc f cl)) ∧ Below w.heap.size w w' := by
  obtain ⟨L, hL, hr, hcs⟩ := hc
  obtain ⟨n, hn⟩ : ∃ n, L.length = n := ⟨_, rfl⟩
  rw [hn] at hr
  obtain ⟨_, Ac, cc, rfl, hc1, hc2, _⟩ := hr.parts
  obtain ⟨_, Ao, co, rfl, _⟩ := RdP.parts (show RdP _ _ 2 vo lo.length (lo.flatMap vt) from hx)
  have HX := Lib.hid hx
  have HR := Lib.hid hr
  have Hcs := Lib.hid hcs
  have Hn := Lib.hid hn
  have HLm := Lib.hid hL
  have Hw := Lib.hid hw
  have Hwc := Lib.hid hwc
  have HL := Lib.hid (Lk.new w f cl)
  obtain ⟨b1, hb1⟩ : ∃ x, Psp.win view 1 12 = x := ⟨_, rfl⟩
  obtain ⟨b2, hb2⟩ : ∃ x, Psp.votesB lo f = x := ⟨_, rfl⟩
  have Hr : Hid (Psp.changeB view lo lc f cl = (b1 && (b2 && Psp.certsB view lc f cl))) := Lib.hid (by unfold Psp.changeB; rw [hb1, hb2])
  clear hx hr hcs hn hL hw hwc
  go_enter Tryz.func95, Tryz.ntmps95
  go_wp2_with fail
  refine (win_any view 1 12 _).mono ?_
  rw [hb1]
  rintro e w1 ⟨rfl, rfl⟩
  cases b1 with
  | false =>
    go_wp2_with fail
    go_ret
    exact ⟨by rw [Hr.out]; rfl, HL.out.be⟩
  | true =>
    go_wp2_with fail
    refine (votes_l lo lo.length (.slice Ao lo.length co) f cl _ _ (RdP.keeps HX.out (Keeps.below HL.out.be)) rfl Hw.out).mono ?_
    rw [hb2]
    rintro e w2 ⟨rfl, hb⟩
    replace HL := Lib.hid (HL.out.below hb)
    clear hb hb1 hb2
    cases b2 with
    | false =>
      go_wp2_with fail
      go_ret
      exact ⟨by rw [Hr.out]; rfl, HL.out.be⟩
    | true =>
      go_wp2_with fail
      go_loopw [22] (fun i wr => ∃ k : Nat, i = .int .i64 (k : Int) ∧ k ≤ n ∧ Hid (∀ (j : Nat) (y : Psp.Cert), j < k → lc[j]? = some y → (Psp.certB y f cl && decide (y.v < view)) = true) ∧ Hid (∀ (j : Nat) (x y : Psp.Cert), j + 1 < k → lc[j]? = some x → lc[j + 1]? = some y → Psp.ltC x y = true) ∧ Hid (Lk w wr f cl)) (fun i _ => n - (intOf i).toNat)
      case atStart => exact ⟨0, rfl, Nat.zero_le _, Lib.hid fun j y hj => by omega, Lib.hid fun j x y hj => by omega, HL⟩
      case round =>
        clear HL
        obtain ⟨k, rfl, hk, HI, HJ, HL⟩ := hrel
        by_cases hlt : k < n
        · obtain ⟨b0, o0, c0, y, he, hb0, hb1, hy, hel⟩ := rd_elem (f := cv) (k := 5) (fun _ => rfl) (by omega) HR.out Hn.out hlt
          injection he with he1 _ he2
          subst he1 he2
          have hok := Hcs.out y (List.mem_of_getElem? hy)
          obtain ⟨cy, yb, yo⟩ := y
          obtain ⟨_, A1, c1, e1, _⟩ := RdP.parts hok.1
          obtain ⟨_, A2, c2, e2, _⟩ := RdP.parts hok.2
          dsimp only at e1 e2
          subst e1 e2
          have hq : wr.rangeAt b0 (o0 + k * 5) [.int .i64 cy.v, .int .i64 cy.i, .int .i64 cy.q, .slice A1 cy.b.length c1, .slice A2 cy.o.length c2] := hel wr (HL.out.be.block b0 hb1)
          have HQ := Lib.hid hq
          have hyl : lc[k]? = some cy := by have := map_get (g := CertV.c) hy; rwa [HLm.out] at this
          have Hy := Lib.hid hyl
          have Hok := Lib.hid (show CertOk w P ⟨cy, .slice A1 cy.b.length c1, .slice A2 cy.o.length c2⟩ from hok)
          have Hwy := Lib.hid (Hwc.out cy (List.mem_of_getElem? hyl)).2.2.2.2
          have d1 : decide ((k : Int) < (n : Int)) = true := by simp; omega
          clear hel hyl hok hq
          go_upto_region 6 with (first | (refine list_load rfl 25 (.tmp 25) rfl b0 (o0 + k * 5) rfl [.int .i64 cy.v, .int .i64 cy.i, .int .i64 cy.q, .slice A1 cy.b.length c1, .slice A2 cy.o.length c2] _ HQ.out Tryz.underlying25 rfl sizeC ?_) | (refine list_store_new rfl 25 (.tmp 10) (.tmp 26) rfl _ _ [.int .i64 cy.v, .int .i64 cy.i, .int .i64 cy.q, .slice A1 cy.b.length c1, .slice A2 cy.o.length c2] rfl rfl rfl sizeC (by simp [Value.oneCell']) ?_; intro w1 hbw hr1 hs1))
          have HL1 := Lib.hid (HL.out.below hbw)
          have HR1 := Lib.hid hr1
          obtain ⟨k0, k1⟩ := HL1.out.cells
          have hs1' : wr.heap.size < w1.heap.size := by omega
          clear hbw hr1 HQ hs1
          go_wp2_with (first | (refine list_load rfl 25 (.tmp 10) rfl wr.heap.size 0 rfl [.int .i64 cy.v, .int .i64 cy.i, .int .i64 cy.q, .slice A1 cy.b.length c1, .slice A2 cy.o.length c2] _ HR1.out Tryz.underlying25 rfl sizeC ?_))
          refine (cert_l cy _ _ f cl w1 _ (Hok.out.keeps (Keeps.below HL1.out.be)) Hwy.out).mono ?_
          obtain ⟨sb, hsb⟩ : ∃ sb, Psp.certB cy f cl = sb := ⟨_, rfl⟩
          rw [hsb]
          rintro e w2 ⟨rfl, hb2⟩
          have HL2 := Lib.hid (HL1.out.below hb2)
          have HR2 := Lib.hid (range_keep HR1.out (hb2.block _ hs1'))
          have Hsb := Lib.hid hsb
          clear hb2 HL1 HR1 k0 k1 hs1' hsb Hok Hwy
          cases sb with
          | false =>
            have Hf := Lib.hid (certsB_not (view := view) Hy.out (by rw [Hsb.out]; rfl))
            clear HI HJ
            go_wp2_with fail
            go_ret
            exact ⟨by rw [Hr.out, Hf.out]; rfl, HL2.out.be⟩
          | true =>
            have kv : w2.cell? ⟨wr.heap.size, 0, none⟩ = some (.int .i64 cy.v) := by have := HR2.out 0 _ rfl; simpa using this
            by_cases hv : cy.v < view
            case' neg =>
              have dv : decide (cy.v ≥ view) = true := by simp; omega
              have Hf := Lib.hid (certsB_not (view := view) (f := f) (cl := cl) Hy.out (by rw [decide_eq_false hv, Bool.and_false]))
              clear HI HJ hv
              go_wp2_with fail
              go_ret
              exact ⟨by rw [Hr.out, Hf.out]; rfl, HL2.out.be⟩
            case' pos =>
              have dv : decide (cy.v ≥ view) = false := by simp; omega
              have ki : w2.cell? ⟨wr.heap.size, 1, none⟩ = some (.int .i64 cy.i) := by have := HR2.out 1 _ rfl; simpa using this
              have kq : w2.cell? ⟨wr.heap.size, 2, none⟩ = some (.int .i64 cy.q) := by have := HR2.out 2 _ rfl; simpa using this
              have HI2 : Hid (∀ (j : Nat) (z : Psp.Cert), j < k + 1 → lc[j]? = some z → (Psp.certB z f cl && decide (z.v < view)) = true) := Lib.hid fun j z hj hz => by
                by_cases he : j = k
                · subst he; have e1 := Hy.out.symm.trans hz; injection e1 with e1; subst e1; rw [Hsb.out, decide_eq_true hv]; rfl
                · exact HI.out j z (by omega) hz
              clear HI
              by_cases hk0 : k = 0
              · subst hk0
                have d2 : decide ((0 : Int) < ((0 : Nat) : Int)) = false := by simp
                have HJ2 : Hid (∀ (j : Nat) (x z : Psp.Cert), j + 1 < 0 + 1 → lc[j]? = some x → lc[j + 1]? = some z → Psp.ltC x z = true) := Lib.hid fun j x z hj => by omega
                clear HJ
                go_wp2_with fail
                go_quiet (fail)
                go_wp2_with fail
                go_roundw
                case rel => exact ⟨0 + 1, by go_num, by omega, HI2, HJ2, (by first | exact HL2 | exact Lib.hid (HL2.out.below (below_drewN (Below.refl _ _) _)))⟩
                case measure => simp [intOf]; omega
              · obtain ⟨p, rfl⟩ : ∃ p, k = p + 1 := ⟨k - 1, by omega⟩
                obtain ⟨b3, o3, c3, z, he, _, _, hz, hel⟩ := rd_elem (f := cv) (k := 5) (fun _ => rfl) (by omega) HR.out Hn.out (show p < n by omega)
                injection he with he1 _ he2
                injection he1 with he1
                injection he1 with he3 he4
                subst he3 he4 he2
                have hrg := hel w2 (HL2.out.be.block b0 hb1)
                have pi : w2.cell? ⟨b0, o0 + p * 5 + 1, none⟩ = some (.int .i64 z.c.i) := hrg 1 _ rfl
                have pq : w2.cell? ⟨b0, o0 + p * 5 + 2, none⟩ = some (.int .i64 z.c.q) := hrg 2 _ rfl
                have hzl : lc[p]? = some z.c := by have := map_get (g := CertV.c) hz; rwa [HLm.out] at this
                obtain ⟨cz, hcz⟩ : ∃ cz, z.c = cz := ⟨_, rfl⟩
                rw [hcz] at pi pq hzl
                have Hz := Lib.hid hzl
                have d2 : decide ((0 : Int) < ((p + 1 : Nat) : Int)) = true := by rw [decide_eq_true_eq]; omega
                have z1 : ((p + 1 : Nat) : Int) - 1 = (p : Int) := by omega
                clear hel hrg hz hzl hcz hk0
                by_cases h1 : cz.i > cy.i
                · have d3 : decide (cz.i > cy.i) = true := decide_eq_true h1
                  have Hf := Lib.hid (certsB_down (view := view) (f := f) (cl := cl) Hz.out Hy.out (by unfold Psp.ltC; rw [decide_eq_false_iff_not]; omega))
                  clear HJ
                  go_wp2_with fail
                  go_quiet (fail)
                  go_wp2_with fail
                  go_ret
                  exact ⟨by rw [Hr.out, Hf.out]; rfl, by first | exact HL2.out.be | exact below_drewN HL2.out.be _⟩
                · have d3 : decide (cz.i > cy.i) = false := decide_eq_false h1
                  by_cases h2 : cz.i = cy.i
                  · have d4 : (cz.i == cy.i) = true := beq_iff_eq.2 h2
                    by_cases h3 : cz.q ≥ cy.q
                    · have d5 : decide (cz.q ≥ cy.q) = true := decide_eq_true h3
                      have Hf := Lib.hid (certsB_down (view := view) (f := f) (cl := cl) Hz.out Hy.out (by unfold Psp.ltC; rw [decide_eq_false_iff_not]; omega))
                      clear HJ
                      go_wp2_with fail
                      go_quiet (fail)
                      go_wp2_with fail
                      go_ret
                      exact ⟨by rw [Hr.out, Hf.out]; rfl, by first | exact HL2.out.be | exact below_drewN HL2.out.be _⟩
                    · have d5 : decide (cz.q ≥ cy.q) = false := decide_eq_false h3
                      have Hlt : Hid (Psp.ltC cz cy = true) := Lib.hid (by unfold Psp.ltC; rw [decide_eq_true_eq]; omega)
                      have HJ2 : Hid (∀ (j : Nat) (x t : Psp.Cert), j + 1 < p + 1 + 1 → lc[j]? = some x → lc[j + 1]? = some t → Psp.ltC x t = true) := Lib.hid fun j x t hj hx ht => by
                        by_cases he : j = p
                        · subst he
                          have e1 := Hz.out.symm.trans hx
                          have e2 := Hy.out.symm.trans ht
                          injection e1 with e1
                          injection e2 with e2
                          subst e1 e2
                          exact Hlt.out
                        · exact HJ.out j x t (by omega) hx ht
                      clear HJ Hlt
                      go_wp2_with fail
                      go_quiet (fail)
                      go_wp2_with fail
                      go_roundw
                      case rel => exact ⟨p + 1 + 1, by go_num, by omega, HI2, HJ2, (by first | exact HL2 | exact Lib.hid (HL2.out.below (below_drewN (Below.refl _ _) _)))⟩
                      case measure => simp [intOf]; omega
                  · have d4 : (cz.i == cy.i) = false := beq_eq_false_iff_ne.2 h2
                    have Hlt : Hid (Psp.ltC cz cy = true) := Lib.hid (by unfold Psp.ltC; rw [decide_eq_true_eq]; omega)
                    have HJ2 : Hid (∀ (j : Nat) (x t : Psp.Cert), j + 1 < p + 1 + 1 → lc[j]? = some x → lc[j + 1]? = some t → Psp.ltC x t = true) := Lib.hid fun j x t hj hx ht => by
                      by_cases he : j = p
                      · subst he
                        have e1 := Hz.out.symm.trans hx
                        have e2 := Hy.out.symm.trans ht
                        injection e1 with e1
                        injection e2 with e2
                        subst e1 e2
                        exact Hlt.out
                      · exact HJ.out j x t (by omega) hx ht
                    clear HJ Hlt
                    go_wp2_with fail
                    go_quiet (fail)
                    go_wp2_with fail
                    go_roundw
                    case rel => exact ⟨p + 1 + 1, by go_num, by omega, HI2, HJ2, (by first | exact HL2 | exact Lib.hid (HL2.out.below (below_drewN (Below.refl _ _) _)))⟩
                    case measure => simp [intOf]; omega
        · obtain rfl : k = n := by omega
          have Hf : Hid (Psp.certsB view lc f cl = true) := Lib.hid (certsB_yes (fun j x hx => HI.out j x (by have := (List.getElem?_eq_some_iff.1 hx).1; rw [← HLm.out, List.length_map, Hn.out] at this; exact this) hx) (fun j x y hx hy => HJ.out j x y (by have := (List.getElem?_eq_some_iff.1 hy).1; rw [← HLm.out, List.length_map, Hn.out] at this; exact this) hx hy))
          clear HI HJ
          go_wp2_with fail
          go_ret
          exact ⟨by rw [Hr.out, Hf.out]; rfl, HL.out.be⟩
end Go.Proofs.YtadpkjgjciodnaaGreat
