/- Viewed: msgs', the reference's. Printed by gen_vtd.py. -/
import Derived.Test.YtadpkjgjciodnaaGreatVtdVi
import Derived.Test.YtadpkjgjciodnaaGreatGbVi
import Derived.Laws.Strings
import Derived.Test.YtadpkjgjciodnaaGreatFp2Vi
import Derived.Test.YtadpkjgjciodnaaGreatFp3Vi
import Derived.Test.YtadpkjgjciodnaaGreatMrVi
import Derived.Test.YtadpkjgjciodnaaGreatFhVi
import Derived.Test.YtadpkjgjciodnaaGreatFp4Vi
import Derived.Test.YtadpkjgjciodnaaGreatJ21Vi
import Derived.Test.YtadpkjgjciodnaaGreatJ14Vi
import Derived.Test.YtadpkjgjciodnaaGreatV7Vi
namespace Go.Proofs.YtadpkjgjciodnaaGreat
open Go.RowKit
set_option linter.unusedVariables false
set_option linter.unusedSimpArgs false

set_option maxRecDepth 100000 in
set_option maxHeartbeats 8000000 in
theorem viewed_m (view : Int) (p : Psp.Part) (vo vc : Value) (f cl : Int) (g bm : Nat) (K : List Key) (w : World) (P : Nat → Prop) (hv : isI64 view) (hx : PartOk w P ⟨p, vo, vc⟩) (hw : wfPart p) (hN : Nt w g bm K) (hbig : ∀ c ∈ p.c, c.b.length ≤ 1099511627776) :
    Calls Tryz.prog 28 #[.int .i64 view, .agg #[.int .i64 p.f, vo, vc, .int .i64 p.s], .int .i64 f, .int .i64 cl, .pointer (some ⟨g, 0, none⟩)] w fun e w' => e = .returned (.bool (viewedB K view p f cl)) ∧ Below w.heap.size w w' := by
  obtain ⟨_, Ao, co, e1, _⟩ := RdP.parts hx.1
  obtain ⟨L, hL, hr, hcs⟩ := hx.2
  obtain ⟨n, hn⟩ : ∃ n, L.length = n := ⟨_, rfl⟩
  rw [hn] at hr
  dsimp only at e1 hL hr
  subst e1
  obtain ⟨_, Ac, cc, rfl, hc1, hc2, _⟩ := hr.parts
  have hpn : p.c.length = n := by rw [← hL, List.length_map, hn]
  have HRc := Lib.hid hx.2
  obtain ⟨b1, hb1⟩ : ∃ x, Psp.formM (vcM view p) f cl = x := ⟨_, rfl⟩
  obtain ⟨b2, hb2⟩ : ∃ x, sealedB K (vcM view p) p.s = x := ⟨_, rfl⟩
  obtain ⟨b3, hb3⟩ : ∃ x, changedB K (view - 1) p.o f = x := ⟨_, rfl⟩
  have Hr : Hid (viewedB K view p f cl = (b1 && (b2 && (b3 && p.c.all fun c => certifiedB K 4 c f cl)))) := Lib.hid (by unfold viewedB; rw [hb1, hb2, hb3])
  have Hv1 : Hid (b1 = true → 1 ≤ view) := Lib.hid fun h => vc_form1 (hb1.trans h)
  have HX := Lib.hid hx
  have HR := Lib.hid hr
  have Hcs := Lib.hid hcs
  have Hn := Lib.hid hn
  have HLm := Lib.hid hL
  have Hw := Lib.hid hw
  have HN := Lib.hid hN
  have Hpn := Lib.hid hpn
  have HWm := Lib.hid (vc_wf hv hw)
  have Hbig := Lib.hid hbig
  have hb0 := (alloc_below w (.cells #[.int .i64 p.f, .slice Ao p.o.length co, .slice Ac n cc, .int .i64 p.s] 62)).trans ((alloc_below (w.alloc (.cells #[.int .i64 p.f, .slice Ao p.o.length co, .slice Ac n cc, .int .i64 p.s] 62)) (.cells #[.int .i64 7, .int .i64 p.f, .int .i64 view, .int .i64 0, .int .i64 0, .int .i64 0, .slice none 0 0, .slice Ao p.o.length co, .slice Ac n cc, .slice none 0 0] 41)).mono (by simp))
  have hc0 := box_below (heap_alloc_new w (.cells #[.int .i64 p.f, .slice Ao p.o.length co, .slice Ac n cc, .int .i64 p.s] 62)) (alloc_below (w.alloc (.cells #[.int .i64 p.f, .slice Ao p.o.length co, .slice Ac n cc, .int .i64 p.s] 62)) (.cells #[.int .i64 7, .int .i64 p.f, .int .i64 view, .int .i64 0, .int .i64 0, .int .i64 0, .slice none 0 0, .slice Ao p.o.length co, .slice Ac n cc, .slice none 0 0] 41)) (Nat.le_refl _)
  have hd0 : ((w.alloc (.cells #[.int .i64 p.f, .slice Ao p.o.length co, .slice Ac n cc, .int .i64 p.s] 62)).alloc (.cells #[.int .i64 7, .int .i64 p.f, .int .i64 view, .int .i64 0, .int .i64 0, .int .i64 0, .slice none 0 0, .slice Ao p.o.length co, .slice Ac n cc, .slice none 0 0] 41)).heap[w.heap.size + 1]? = some (.cells #[.int .i64 7, .int .i64 p.f, .int .i64 view, .int .i64 0, .int .i64 0, .int .i64 0, .slice none 0 0, .slice Ao p.o.length co, .slice Ac n cc, .slice none 0 0] 41 (0, 0)) := by have h := heap_alloc_new (w.alloc (.cells #[.int .i64 p.f, .slice Ao p.o.length co, .slice Ac n cc, .int .i64 p.s] 62)) (.cells #[.int .i64 7, .int .i64 p.f, .int .i64 view, .int .i64 0, .int .i64 0, .int .i64 0, .slice none 0 0, .slice Ao p.o.length co, .slice Ac n cc, .slice none 0 0] 41); simpa using h
  clear hx hr hcs hn hL hw hN hpn hbig
  go_enter Tryz.func28, Tryz.ntmps28
  go_wp2_with fail
  obtain ⟨W0, hW0⟩ : ∃ W, (w.alloc (.cells #[.int .i64 p.f, .slice Ao p.o.length co, .slice Ac n cc, .int .i64 p.s] 62)).alloc (.cells #[.int .i64 7, .int .i64 p.f, .int .i64 view, .int .i64 0, .int .i64 0, .int .i64 0, .slice none 0 0, .slice Ao p.o.length co, .slice Ac n cc, .slice none 0 0] 41) = W := ⟨_, rfl⟩
  rw [hW0] at hb0 hc0 hd0 ⊢
  have HB0 := Lib.hid hb0
  have HC0 := Lib.hid hc0
  have HD0 := Lib.hid hd0
  clear hW0 hb0 hc0 hd0
  have HM0 : Hid (∀ W', Below w.heap.size w W' → MsgOk W' (fun b => b < W'.heap.size) ⟨vcM view p, .slice none 0 0, .slice Ao p.o.length co, .slice Ac n cc, .slice none 0 0⟩) := Lib.hid fun W' hb => by
    have kp : Keeps P (fun b => b < W'.heap.size) w W' := ⟨hb.size, fun b hP hlt => ⟨hb.block b hlt, Nat.lt_of_lt_of_le hlt hb.size⟩⟩
    exact ⟨RdP.none_, HX.out.1.keeps kp, HRc.out.keeps kp, RdA.nil⟩
  refine (form_7a (vcM view p) (.slice none 0 0) (.slice Ao p.o.length co) (.slice Ac n cc) (.slice none 0 0) f cl W0 _ (HM0.out W0 HB0.out) HWm.out rfl).mono ?_
  rw [hb1]
  rintro e w1 ⟨rfl, hq1⟩
  have HB1 := Lib.hid (Below.then HB0.out hq1 HB0.out.size)
  have HC1 := Lib.hid (box_below HC0.out hq1 (Nat.le_refl _))
  have HD1 := Lib.hid (box_below HD0.out hq1 (Nat.le_refl _))
  clear HB0 HC0 HD0 hb1 hq1
  cases b1 with
  | false =>
    go_wp2_with fail
    go_ret
    exact ⟨by rw [Hr.out]; rfl, HB1.out⟩
  | true =>
    have hv1 := Hv1.out rfl
    have hv2 : view ≤ 9223372036854775807 := hv.2
    have p3 : w1.cell? ⟨w.heap.size, 3, none⟩ = some (.int .i64 p.s) := by rw [cell_of_row _ _ 3 _ _ _ HC1.out]; rfl
    have m0 : w1.cell? ⟨(w.heap.size + 1), 0, none⟩ = some (.int .i64 7) := by rw [cell_of_row _ _ 0 _ _ _ HD1.out]; rfl
    have m1 : w1.cell? ⟨(w.heap.size + 1), 1, none⟩ = some (.int .i64 p.f) := by rw [cell_of_row _ _ 1 _ _ _ HD1.out]; rfl
    have m2 : w1.cell? ⟨(w.heap.size + 1), 2, none⟩ = some (.int .i64 view) := by rw [cell_of_row _ _ 2 _ _ _ HD1.out]; rfl
    have m3 : w1.cell? ⟨(w.heap.size + 1), 3, none⟩ = some (.int .i64 0) := by rw [cell_of_row _ _ 3 _ _ _ HD1.out]; rfl
    have m4 : w1.cell? ⟨(w.heap.size + 1), 4, none⟩ = some (.int .i64 0) := by rw [cell_of_row _ _ 4 _ _ _ HD1.out]; rfl
    have m5 : w1.cell? ⟨(w.heap.size + 1), 5, none⟩ = some (.int .i64 0) := by rw [cell_of_row _ _ 5 _ _ _ HD1.out]; rfl
    have m6 : w1.cell? ⟨(w.heap.size + 1), 6, none⟩ = some (.slice none 0 0) := by rw [cell_of_row _ _ 6 _ _ _ HD1.out]; rfl
    have m7 : w1.cell? ⟨(w.heap.size + 1), 7, none⟩ = some (.slice Ao p.o.length co) := by rw [cell_of_row _ _ 7 _ _ _ HD1.out]; rfl
    have m8 : w1.cell? ⟨(w.heap.size + 1), 8, none⟩ = some (.slice Ac n cc) := by rw [cell_of_row _ _ 8 _ _ _ HD1.out]; rfl
    have m9 : w1.cell? ⟨(w.heap.size + 1), 9, none⟩ = some (.slice none 0 0) := by rw [cell_of_row _ _ 9 _ _ _ HD1.out]; rfl
    go_wp2_with fail
    clear p3 m0 m1 m2 m3 m4 m5 m6 m7 m8 m9
    refine (sealed_m (vcM view p) (.slice none 0 0) (.slice Ao p.o.length co) (.slice Ac n cc) (.slice none 0 0) p.s g bm K w1 (HM0.out w1 HB1.out) Hw.out.1 (HN.out.below HB1.out)).mono ?_
    rw [hb2]
    rintro e w2 ⟨rfl, hq2⟩
    have HB2 := Lib.hid (Below.then HB1.out hq2 HB1.out.size)
    have HC2 := Lib.hid (box_below HC1.out hq2 (Nat.le_refl _))
    clear HB1 HC1 HD1 hb2 hq2
    cases b2 with
    | false =>
      go_wp2_with fail
      go_ret
      exact ⟨by rw [Hr.out]; rfl, HB2.out⟩
    | true =>
      have p1 : w2.cell? ⟨w.heap.size, 1, none⟩ = some (.slice Ao p.o.length co) := by rw [cell_of_row _ _ 1 _ _ _ HC2.out]; rfl
      go_wp2_with fail
      clear p1
      refine (changed_m (view - 1) _ p.o f g bm K w2 P (HX.out.1.keeps (Keeps.below HB2.out)) Hw.out.2.1 (HN.out.below HB2.out)).mono ?_
      rw [hb3]
      rintro e w3 ⟨rfl, hq3⟩
      have HB3 := Lib.hid (Below.then HB2.out hq3 HB2.out.size)
      have HC3 := Lib.hid (box_below HC2.out hq3 (Nat.le_refl _))
      clear HB2 HC2 hb3 hq3
      cases b3 with
      | false =>
        go_wp2_with fail
        go_ret
        exact ⟨by rw [Hr.out]; rfl, HB3.out⟩
      | true =>
        have p2 : w3.cell? ⟨w.heap.size, 2, none⟩ = some (.slice Ac n cc) := by rw [cell_of_row _ _ 2 _ _ _ HC3.out]; rfl
        go_wp2_with fail
        clear p2
        go_loopw [48] (fun i wr => ∃ k : Nat, i = .int .i64 (k : Int) ∧ k ≤ n ∧ Hid ((p.c.take k).all (fun c => certifiedB K 4 c f cl) = true) ∧ Hid (Below w.heap.size w wr) ∧ Hid (wr.heap[w.heap.size]? = some (.cells #[.int .i64 p.f, .slice Ao p.o.length co, .slice Ac n cc, .int .i64 p.s] 62 (0, 0)))) (fun i _ => n - (intOf i).toNat)
        case atStart => exact ⟨0, rfl, Nat.zero_le _, Lib.hid rfl, HB3, HC3⟩
        case round =>
          clear HB3 HC3
          obtain ⟨k, rfl, hk, Hall, HBr, HCr⟩ := hrel
          by_cases hlt : k < n
          · obtain ⟨bb, o0, c0, y, he, hb0, hb1, hy, hel⟩ := rd_elem (f := cv) (k := 5) (fun _ => rfl) (by omega) HR.out Hn.out hlt
            injection he with he1 _ he2
            subst he1 he2
            have hok := Hcs.out y (List.mem_of_getElem? hy)
            obtain ⟨cy, yb, yo⟩ := y
            obtain ⟨_, A1, c1, e1, _⟩ := RdP.parts hok.1
            obtain ⟨_, A2, c2, e2, _⟩ := RdP.parts hok.2
            dsimp only at e1 e2
            subst e1 e2
            have hq : wr.rangeAt bb (o0 + k * 5) [.int .i64 cy.v, .int .i64 cy.i, .int .i64 cy.q, .slice A1 cy.b.length c1, .slice A2 cy.o.length c2] := hel wr (HBr.out.block bb hb1)
            have hyl : p.c[k]? = some cy := by have := map_get (g := CertV.c) hy; rwa [HLm.out] at this
            have Hok := Lib.hid (show CertOk w P ⟨cy, .slice A1 cy.b.length c1, .slice A2 cy.o.length c2⟩ from hok)
            have Hwy := Lib.hid (Hw.out.2.2.1 cy (List.mem_of_getElem? hyl))
            have Hby := Lib.hid (Hbig.out cy (List.mem_of_getElem? hyl))
            have Hst : Hid (certifiedB K 4 cy f cl = true → (p.c.take (k + 1)).all (fun c => certifiedB K 4 c f cl) = true) := Lib.hid fun h => by rw [take_at hyl, List.all_append, Hall.out]; simp [h]
            have Hno : Hid (certifiedB K 4 cy f cl = false → (p.c.all fun c => certifiedB K 4 c f cl) = false) := Lib.hid fun h => Psp.all_not hyl h
            have d1 : decide ((k : Int) < (n : Int)) = true := by simp; omega
            have kb0 : (0 : Int) ≤ (k : Int) := by omega
            have kb1 : (k : Int) < (n : Int) := by omega
            have z0 := hq 0 _ rfl
            have z1 := hq 1 _ rfl
            have z2 := hq 2 _ rfl
            have z3 := hq 3 _ rfl
            have z4 := hq 4 _ rfl
            simp only [Nat.add_zero] at z0 z1 z2 z3 z4
            clear hel hyl hok hq
            go_wp2_with fail
            clear z0 z1 z2 z3 z4
            obtain ⟨ws, hws⟩ : ∃ ws, wr.alloc (.cells #[.int .i64 cy.v, .int .i64 cy.i, .int .i64 cy.q, .slice A1 cy.b.length c1, .slice A2 cy.o.length c2] 25) = ws := ⟨_, rfl⟩
            have hbs : Below wr.heap.size wr ws := by rw [← hws]; exact alloc_below wr _
            rw [hws]
            have HBs := Lib.hid (Below.then HBr.out hbs HBr.out.size)
            have HCs := Lib.hid (box_below HCr.out hbs (Nat.le_refl _))
            clear hws hbs
            refine (certified_m 4 cy _ _ f cl g bm K ws P (Hok.out.keeps (Keeps.below HBs.out)) Hwy.out (HN.out.below HBs.out) Hby.out).mono ?_
            rintro e w5 ⟨rfl, hq5⟩
            have HB5 := Lib.hid (Below.then HBs.out hq5 HBs.out.size)
            have HC5 := Lib.hid (box_below HCs.out hq5 (Nat.le_refl _))
            clear hq5 HBs HCs
            cases hse : certifiedB K 4 cy f cl with
            | false =>
              have Hf := Lib.hid (Hno.out hse)
              clear hse
              go_wp2_with fail
              go_ret
              exact ⟨by rw [Hr.out, Hf.out]; rfl, HB5.out⟩
            | true =>
              have Hs2 := Lib.hid (Hst.out hse)
              clear hse
              go_wp2_with fail
              first
                | (go_roundw
                   case rel => exact ⟨k + 1, by go_num, by omega, Hs2, HB5, HC5⟩
                   case measure => simp [intOf]; omega)
                | (refine ⟨⟨k + 1, by go_num, by omega, Hs2, HB5, HC5⟩, ?_⟩
                   simp [intOf]; omega)
          · have HF : Hid ((p.c.all fun c => certifiedB K 4 c f cl) = true) := Lib.hid (by rw [← Hall.out, List.take_of_length_le (by rw [Hpn.out]; omega)])
            go_wp2_with fail
            go_ret
            exact ⟨by rw [Hr.out, HF.out]; rfl, HBr.out⟩

end Go.Proofs.YtadpkjgjciodnaaGreat
