/- The reference's Checked, Voted, Certified, Changed. Printed by gen_vtd.py. -/
import Derived.Test.YtadpkjgjciodnaaGreatVtdRa
import Derived.Test.YtadpkjgjciodnaaGreatRf3Ra
import Derived.Test.YtadpkjgjciodnaaGreatMrRa
namespace Go.Proofs.YtadpkjgjciodnaaGreat
open Go.RowKit
set_option linter.unusedVariables false
set_option linter.unusedSimpArgs false

set_option maxRecDepth 100000 in
set_option maxHeartbeats 2000000 in
theorem rchecked_m (m : Psp.Msg) (vb vo vc vp : Value) (s : Int) (S : Nat → Prop) (g : Nat) (K : List Key) (w : World) (hx : MsgOk w (fun b => b < w.heap.size) ⟨m, vb, vo, vc, vp⟩) (hf : isI64 m.f) (hs : isI64 s) (hN : Ntr w S g K) (hd : K.Nodup) :
    Calls Tryz.prog 60 #[.agg #[.int .i64 m.k, .int .i64 m.f, .int .i64 m.v, .int .i64 m.i, .int .i64 m.q, .int .i64 m.r, vb, vo, vc, vp], .int .i64 s, .pointer (some ⟨g, 0, none⟩)] w fun e w' => e = .returned (.bool (sealedB K m s)) ∧ Below w.heap.size w w' := by
  obtain ⟨Ab, Ao, Ac, Ap, cb, co, cc, cp, rfl, rfl, rfl, rfl⟩ := msg_slices hx
  have HX := Lib.hid hx
  have HF := Lib.hid hf
  have HN := Lib.hid hN
  clear hx hf hN
  have hb0 := alloc_below w (.cells #[.int .i64 m.k, .int .i64 m.f, .int .i64 m.v, .int .i64 m.i, .int .i64 m.q, .int .i64 m.r, .slice Ab m.b.length cb, .slice Ao m.o.length co, .slice Ac m.c.length cc, .slice Ap m.p.length cp] 41)
  have hc0 := heap_alloc_new w (.cells #[.int .i64 m.k, .int .i64 m.f, .int .i64 m.v, .int .i64 m.i, .int .i64 m.q, .int .i64 m.r, .slice Ab m.b.length cb, .slice Ao m.o.length co, .slice Ac m.c.length cc, .slice Ap m.p.length cp] 41)
  go_enter Tryz.func60, Tryz.ntmps60
  go_wp2_with fail
  obtain ⟨W, hW⟩ : ∃ W, w.alloc (.cells #[.int .i64 m.k, .int .i64 m.f, .int .i64 m.v, .int .i64 m.i, .int .i64 m.q, .int .i64 m.r, .slice Ab m.b.length cb, .slice Ao m.o.length co, .slice Ac m.c.length cc, .slice Ap m.p.length cp] 41) = W := ⟨_, rfl⟩
  rw [hW] at hb0 hc0 ⊢
  have HB0 := Lib.hid hb0
  have HC0 := Lib.hid hc0
  clear hW hb0 hc0
  refine (rbody_m m _ _ _ _ W (HX.out.keeps (Keeps.on HB0.out))).mono ?_
  intro e w1 hh
  obtain ⟨A, c, rfl, hp, hb⟩ := Bytes.rdb hh rfl rfl
  have HB1 := Lib.hid (Below.then HB0.out hb HB0.out.size)
  have HC1 := Lib.hid (box_below HC0.out hb (Nat.le_refl _))
  have HN1 := Lib.hid (HN.out.below HB1.out)
  have HP := Lib.hid hp
  clear hh hp hb HB0 HC0
  cases hok : Psp.okB m with
  | false =>
    have Hk : Hid (sealedB K m s = false) := Lib.hid (by unfold sealedB; rw [hok]; rfl)
    clear hok HP
    go_wp2_with fail
    go_ret
    exact ⟨by rw [Hk.out]; rfl, HB1.out⟩
  | true =>
    have Hk : Hid (sealedB K m s = chkB K (kM m) s) := Lib.hid (by unfold sealedB; rw [hok]; rfl)
    rw [hok, res_yes] at HP
    clear hok
    rw [res_yes]
    have y1 : w1.cell? ⟨w.heap.size, 1, none⟩ = some (.int .i64 m.f) := by rw [cell_of_row _ _ 1 _ _ _ HC1.out]; rfl
    go_wp2_with fail
    refine (nr_check S g K m.f (Psp.encM m) s _ w1 _ HN1.out hd hs HP.out).mono ?_
    rintro e w2 ⟨rfl, q, rfl⟩
    clear y1
    go_wp2_with fail
    go_ret
    exact ⟨by rw [Hk.out]; rfl, below_drewN HB1.out q⟩

set_option maxRecDepth 100000 in
set_option maxHeartbeats 4000000 in
theorem rvoted_m (kind : Int) (c : Psp.Cert) (vb vo : Value) (f : Int) (S : Nat → Prop) (g : Nat) (K : List Key) (w : World) (P : Nat → Prop) (hx : CertOk w P ⟨c, vb, vo⟩) (hw : ∀ v ∈ c.o, wfVote v) (hN : Ntr w S g K) (hd : K.Nodup) :
    Calls Tryz.prog 20 #[.int .i64 kind, .agg #[.int .i64 c.v, .int .i64 c.i, .int .i64 c.q, vb, vo], .int .i64 f, .pointer (some ⟨g, 0, none⟩)] w fun e w' => e = .returned (.bool (votedB K kind c f)) ∧ Below w.heap.size w w' := by
  obtain ⟨_, A1, c1, e1, _⟩ := RdP.parts hx.1
  obtain ⟨_, A2, c2, e2, hx1, hx2, hxc⟩ := RdP.parts hx.2
  dsimp only at e1 e2 hx1 hxc
  subst e1 e2
  obtain ⟨T, hT⟩ : ∃ T, votedB K kind c f = T := ⟨_, rfl⟩
  rw [hT]
  have HT := Lib.hid hT
  have HX := Lib.hid hx
  have Hw := Lib.hid hw
  have HN := Lib.hid hN
  have Hd := Lib.hid hd
  have Hxc := Lib.hid hxc
  have hb0 := alloc_below w (.cells #[.int .i64 c.v, .int .i64 c.i, .int .i64 c.q, .slice A1 c.b.length c1, .slice A2 c.o.length c2] 25)
  have hc0 := heap_alloc_new w (.cells #[.int .i64 c.v, .int .i64 c.i, .int .i64 c.q, .slice A1 c.b.length c1, .slice A2 c.o.length c2] 25)
  clear hT hx hw hN hd hxc
  go_enter Tryz.func20, Tryz.ntmps20
  go_wp2_with fail
  obtain ⟨W0, hW0⟩ : ∃ W, w.alloc (.cells #[.int .i64 c.v, .int .i64 c.i, .int .i64 c.q, .slice A1 c.b.length c1, .slice A2 c.o.length c2] 25) = W := ⟨_, rfl⟩
  rw [hW0] at hb0 hc0 ⊢
  have HB0 := Lib.hid hb0
  have HC0 := Lib.hid hc0
  clear hW0 hb0 hc0
  refine (rrising_l c.o c.o.length _ f W0 P (HX.out.2.keeps (Keeps.below HB0.out)) rfl Hw.out).mono ?_
  rintro e w1 ⟨rfl, hb1⟩
  have HB1 := Lib.hid (Below.then HB0.out hb1 HB0.out.size)
  have HC1 := Lib.hid ((hb1.block _ (Array.getElem?_eq_some_iff.1 HC0.out).1).trans HC0.out)
  clear hb1 HB0 HC0
  cases hri : Psp.rising (c.o.map (·.n)) f with
  | false =>
    have HF : Hid (T = false) := Lib.hid (by rw [← HT.out]; unfold votedB; rw [hri]; rfl)
    obtain rfl := HF.out
    clear HT HF hri
    go_wp2_with fail
    go_ret
    exact ⟨rfl, HB1.out⟩
  | true =>
    have HT2 : Hid ((c.o.all fun v => sealedB K (balM kind v.n c) v.s) = T) := Lib.hid (by rw [← HT.out]; unfold votedB; rw [hri]; rfl)
    obtain ⟨n, hn⟩ : ∃ n, c.o.length = n := ⟨_, rfl⟩
    have Hn := Lib.hid hn
    rw [hn] at hx1 Hxc HC1 HX ⊢
    clear HT hri hn
    go_wp2_with fail
    go_loopw [9] (fun i wr => ∃ k : Nat, i = .int .i64 (k : Int) ∧ k ≤ n ∧ Hid ((c.o.take k).all (fun v => sealedB K (balM kind v.n c) v.s) = true) ∧ Hid (Below w.heap.size w wr) ∧ Hid (wr.heap[w.heap.size]? = some (.cells #[.int .i64 c.v, .int .i64 c.i, .int .i64 c.q, .slice A1 c.b.length c1, .slice A2 n c2] 25 (0, 0)))) (fun i _ => n - (intOf i).toNat)
    case atStart => exact ⟨0, rfl, Nat.zero_le _, Lib.hid rfl, HB1, HC1⟩
    case round =>
      clear HB1 HC1
      obtain ⟨k, rfl, hk, Hall, HBr, HCr⟩ := hrel
      have k4 : wr.cell? ⟨w.heap.size, 4, none⟩ = some (.slice A2 n c2) := by rw [cell_of_row _ _ 4 _ _ _ HCr.out]; rfl
      by_cases hlt : k < n
      · obtain ⟨b1, o1, hA1, hP1, hb1, h1⟩ := Hxc.out (by omega)
        subst hA1
        have hkl : k < c.o.length := by have := Hn.out; omega
        have r1 := range_keep (range_elem (f := vt) (k := 2) (fun _ => rfl) h1 hkl) (HBr.out.block b1 hb1)
        have hst : (c.o.take (k + 1)).all (fun v => sealedB K (balM kind v.n c) v.s) = sealedB K (balM kind c.o[k].n c) c.o[k].s := by rw [List.take_succ_eq_append_getElem hkl, List.all_append, Hall.out]; simp
        have hno : sealedB K (balM kind c.o[k].n c) c.o[k].s = false → (c.o.all fun v => sealedB K (balM kind v.n c) v.s) = false := fun h => List.all_eq_false.2 ⟨c.o[k], List.getElem_mem hkl, by simp [h]⟩
        have hwv := Hw.out _ (List.getElem_mem hkl)
        obtain ⟨t, ht⟩ : ∃ t, c.o[k] = t := ⟨_, rfl⟩
        rw [ht] at r1 hst hno hwv
        obtain ⟨tn, ts⟩ := t
        have x0 := r1 0 _ rfl
        have x1 := r1 1 _ rfl
        simp only [Nat.add_zero, iv] at x0 x1
        have Hst := Lib.hid hst
        have Hno := Lib.hid hno
        have Hwv := Lib.hid hwv
        have kb0 : (0 : Int) ≤ (k : Int) := by omega
        have kb1 : (k : Int) < (n : Int) := by omega
        have hlb : b1 < wr.heap.size := by have := HBr.out.size; omega
        have HB2 := HBr
        have HC2 := HCr
        have hx1' : wr.drew.cell? ⟨b1, o1 + k * 2 + 1, none⟩ = some (.int .i64 ts) := x1
        have hx0' : wr.drew.cell? ⟨b1, o1 + k * 2, none⟩ = some (.int .i64 tn) := x0
        have hk4' : wr.drew.cell? ⟨w.heap.size, 4, none⟩ = some (.slice (some ⟨b1, o1, none⟩) n c2) := k4
        clear r1 hst hno hwv ht h1
        go_upto_region 6 with fail
        have l0 := later_cell (w := wr.drew) hx0'
        have l1 := later_cell (w := wr.drew) hx1'
        have l4 := later_cell (w := wr.drew) hk4'
        clear x0 x1 k4 hx0' hx1' hk4'
        have HRM : Hid (∀ w' : World, (∃ p : Later wr.drew, w' = p.W) → w'.rangeAt w.heap.size 0 [.int .i64 c.v, .int .i64 c.i, .int .i64 c.q, .slice A1 c.b.length c1, .slice (some ⟨b1, o1, none⟩) n c2]) := Lib.hid (by rintro w' ⟨p, rfl⟩; exact range_of_row ((p.h.block _ (show w.heap.size < wr.heap.size from (Array.getElem?_eq_some_iff.1 HC2.out).1)).trans HC2.out))
        refine wp_region_phases [(true, 0), (true, 1), (true, 2), (true, 3), (true, 4), (true, 5), (true, 6), (true, 7), (true, 9), (true, 10), (true, 11), (true, 12), (true, 13), (true, 14), (true, 15), (false, 8), (false, 16)] (by kernel_rfl) (by kernel_rfl) ?_
        simp only [phW, List.getElem?_cons_zero, List.getElem?_cons_succ, Option.toList, List.length_cons, List.length_nil, Nat.reduceAdd, List.drop_succ_cons, List.drop_zero]
        repeat (first | go_big_quiet_step (fail) | (refine quiet_load (by simp [Region.wanted, yielded]) 25 (.tmp 5) (by rfl) w.heap.size (0) (by rfl) [.int .i64 c.v, .int .i64 c.i, .int .i64 c.q, .slice A1 c.b.length c1, .slice (some ⟨b1, o1, none⟩) n c2] _ HRM.out Tryz.underlying25 rfl sizeC ?_; intro K hK; go_simp; refine hK _ ?_; clear hK K) | quiet_step (fail) | refine wpQuiet_nil ?_)
        clear l0 l1 l4
        go_wp2_with fail
        refine (rballot_m kind tn ⟨c, .slice A1 c.b.length c1, .slice (some ⟨b1, o1, none⟩) n c2⟩ wr.drew P (HX.out.keeps (Keeps.below HB2.out.drew))).mono ?_
        rintro e w3 ⟨rfl, hb3⟩
        have HRd := Lib.hid (show RdP w3 (fun b => b < w3.heap.size) 6 (.slice A1 c.b.length c1) c.b.length (c.b.flatMap rq) from ((HX.out.1.keeps (Keeps.below (HB2.out.drew))).keeps (Keeps.below hb3)).mono fun b hb _ => hb)
        obtain ⟨A', c', hA'⟩ : ∃ A' c', A' = A1 ∧ c' = c1 := ⟨_, _, rfl, rfl⟩
        obtain ⟨rfl, rfl⟩ := hA'
        have HB3 := Lib.hid (show Below w.heap.size w w3 from Below.then HB2.out.drew hb3 HB2.out.size)
        have HC3 := Lib.hid ((hb3.block _ (show w.heap.size < wr.heap.size from (Array.getElem?_eq_some_iff.1 HC2.out).1)).trans HC2.out)
        have HL3 := Lib.hid hb3
        clear hb3
        go_wp2_with fail
        refine And.intro ⟨⟨w3, HL3.out⟩, rfl⟩ ?_
        go_wp2_with fail
        refine (rchecked_m (balM kind tn c) (.slice A' c.b.length c') (.slice none 0 0) (.slice none 0 0) (.slice none 0 0) ts S g K w3 ⟨HRd.out, RdP.none_, RdC.nil, RdA.nil⟩ Hwv.out.1 Hwv.out.2 (HN.out.below HB3.out) Hd.out).mono ?_
        rintro e w4 ⟨rfl, hb4⟩
        have HB4 := Lib.hid (Below.then HB3.out hb4 HB3.out.size)
        have HC4 := Lib.hid ((hb4.block _ (Array.getElem?_eq_some_iff.1 HC3.out).1).trans HC3.out)
        have HL4 := Lib.hid (Below.then HL3.out hb4 HL3.out.size)
        clear hb4
        cases hse : sealedB K (balM kind tn c) ts with
        | false =>
          have HF : Hid (T = false) := Lib.hid (by rw [← HT2.out]; exact Hno.out hse)
          obtain rfl := HF.out
          clear HT2 HF hse
          go_wp2_with fail
          refine And.intro ⟨⟨w4, HL4.out⟩, rfl⟩ ?_
          go_wp2_with fail
          go_ret
          exact ⟨rfl, HB4.out⟩
        | true =>
          have Hs2 : Hid ((c.o.take (k + 1)).all (fun v => sealedB K (balM kind v.n c) v.s) = true) := Lib.hid (by rw [Hst.out]; exact hse)
          clear hse
          go_wp2_with fail
          refine And.intro ⟨⟨w4, HL4.out⟩, rfl⟩ ?_
          go_wp2_with fail
          first
            | (go_roundw
               case rel => exact ⟨k + 1, by go_num, by omega, Hs2, HB4, HC4⟩
               case measure => simp [intOf]; omega)
            | (refine ⟨⟨k + 1, by go_num, by omega, Hs2, HB4, HC4⟩, ?_⟩
               simp [intOf]; omega)
      · have HF : Hid (T = true) := Lib.hid (by rw [← HT2.out, ← Hall.out, List.take_of_length_le (by rw [Hn.out]; omega)])
        obtain rfl := HF.out
        clear HF HT2
        go_wp2_with fail
        go_ret
        exact ⟨rfl, HBr.out⟩

set_option maxRecDepth 100000 in
set_option maxHeartbeats 4000000 in
theorem rcertified_m (kind : Int) (c : Psp.Cert) (vb vo : Value) (f cl : Int) (S : Nat → Prop) (g : Nat) (K : List Key) (w : World) (P : Nat → Prop) (hx : CertOk w P ⟨c, vb, vo⟩) (hw : wfCert c) (hN : Ntr w S g K) (hd : K.Nodup) :
    Calls Tryz.prog 25 #[.int .i64 kind, .agg #[.int .i64 c.v, .int .i64 c.i, .int .i64 c.q, vb, vo], .int .i64 f, .int .i64 cl, .pointer (some ⟨g, 0, none⟩)] w fun e w' => e = .returned (.bool (certifiedB K kind c f cl)) ∧ Below w.heap.size w w' := by
  obtain ⟨_, A1, c1, e1, _⟩ := RdP.parts hx.1
  obtain ⟨_, A2, c2, e2, _⟩ := RdP.parts hx.2
  dsimp only at e1 e2
  subst e1 e2
  obtain ⟨b1, hb1⟩ : ∃ x, Psp.placeB c.v c.i c.q f = x := ⟨_, rfl⟩
  obtain ⟨b2, hb2⟩ : ∃ x, rightB 4 cl K c.b = x := ⟨_, rfl⟩
  obtain ⟨b3, hb3⟩ : ∃ x, votedB K kind c f = x := ⟨_, rfl⟩
  have Hr : Hid (certifiedB K kind c f cl = (b1 && (b2 && b3))) := Lib.hid (by unfold certifiedB; rw [hb1, hb2, hb3])
  have HX := Lib.hid hx
  have Hw := Lib.hid hw
  have HN := Lib.hid hN
  have Hd := Lib.hid hd
  have hb0 := alloc_below w (.cells #[.int .i64 c.v, .int .i64 c.i, .int .i64 c.q, .slice A1 c.b.length c1, .slice A2 c.o.length c2] 25)
  have hc0 := heap_alloc_new w (.cells #[.int .i64 c.v, .int .i64 c.i, .int .i64 c.q, .slice A1 c.b.length c1, .slice A2 c.o.length c2] 25)
  clear hx hw hN hd
  go_enter Tryz.func25, Tryz.ntmps25
  go_wp2_with fail
  obtain ⟨W0, hW0⟩ : ∃ W, w.alloc (.cells #[.int .i64 c.v, .int .i64 c.i, .int .i64 c.q, .slice A1 c.b.length c1, .slice A2 c.o.length c2] 25) = W := ⟨_, rfl⟩
  rw [hW0] at hb0 hc0 ⊢
  have HB0 := Lib.hid hb0
  have HC0 := Lib.hid hc0
  clear hW0 hb0 hc0
  refine (rplace_any c.v c.i c.q f _).mono ?_
  rw [hb1]
  rintro e w1 ⟨rfl, rfl⟩
  have HB1 := HB0
  have HC1 := HC0
  clear HB0 HC0 hb1
  cases b1 with
  | false =>
    go_wp2_with fail
    go_ret
    exact ⟨by rw [Hr.out]; rfl, HB1.out⟩
  | true =>
    have x3 : W0.cell? ⟨w.heap.size, 3, none⟩ = some (.slice A1 c.b.length c1) := by rw [cell_of_row _ _ 3 _ _ _ HC1.out]; rfl
    go_wp2_with fail
    clear x3
    refine (right_any c.b c.b.length _ 4 cl S g K W0 P (HX.out.1.keeps (Keeps.below HB1.out)) rfl (HN.out.below HB1.out) Hd.out Hw.out.2.2.2.1).mono ?_
    rw [hb2]
    rintro e w2 ⟨rfl, hq2⟩
    have HB2 := Lib.hid (Below.then HB1.out hq2 HB1.out.size)
    have HC2 := Lib.hid (box_below HC1.out hq2 (Nat.le_refl _))
    clear HB1 HC1 hb2 hq2
    cases b2 with
    | false =>
      go_wp2_with fail
      go_ret
      exact ⟨by rw [Hr.out]; rfl, HB2.out⟩
    | true =>
      have x0 : w2.cell? ⟨w.heap.size, 0, none⟩ = some (.int .i64 c.v) := by rw [cell_of_row _ _ 0 _ _ _ HC2.out]; rfl
      have x1 : w2.cell? ⟨w.heap.size, 1, none⟩ = some (.int .i64 c.i) := by rw [cell_of_row _ _ 1 _ _ _ HC2.out]; rfl
      have x2 : w2.cell? ⟨w.heap.size, 2, none⟩ = some (.int .i64 c.q) := by rw [cell_of_row _ _ 2 _ _ _ HC2.out]; rfl
      have x3 : w2.cell? ⟨w.heap.size, 3, none⟩ = some (.slice A1 c.b.length c1) := by rw [cell_of_row _ _ 3 _ _ _ HC2.out]; rfl
      have x4 : w2.cell? ⟨w.heap.size, 4, none⟩ = some (.slice A2 c.o.length c2) := by rw [cell_of_row _ _ 4 _ _ _ HC2.out]; rfl
      go_wp2_with fail
      clear x0 x1 x2 x3 x4
      refine (rvoted_m kind c _ _ f S g K w2 P (HX.out.keeps (Keeps.below HB2.out)) Hw.out.2.2.2.2 (HN.out.below HB2.out) Hd.out).mono ?_
      rw [hb3]
      rintro e w3 ⟨rfl, hq3⟩
      have HB3 := Lib.hid (Below.then HB2.out hq3 HB2.out.size)
      clear hb3 hq3
      go_wp2_with fail
      go_ret
      exact ⟨by rw [Hr.out]; rfl, HB3.out⟩

set_option maxRecDepth 100000 in
set_option maxHeartbeats 4000000 in
theorem rchanged_m (view : Int) (v : Value) (l : List Psp.Vote) (f : Int) (S : Nat → Prop) (g : Nat) (K : List Key) (w : World) (P : Nat → Prop) (hx : RdP w P 2 v l.length (l.flatMap vt)) (hw : ∀ x ∈ l, wfVote x) (hN : Ntr w S g K) (hd : K.Nodup) :
    Calls Tryz.prog 27 #[.int .i64 view, v, .int .i64 f, .pointer (some ⟨g, 0, none⟩)] w fun e w' => e = .returned (.bool (changedB K view l f)) ∧ Below w.heap.size w w' := by
  obtain ⟨T, hT⟩ : ∃ T, changedB K view l f = T := ⟨_, rfl⟩
  rw [hT]
  have HT := Lib.hid hT
  have HX := Lib.hid hx
  have HN := Lib.hid hN
  have Hw := Lib.hid hw
  have Hd := Lib.hid hd
  obtain ⟨_, A, c, rfl, hx1, hx2, hxc⟩ := hx.parts
  have Hxc := Lib.hid hxc
  have Hwn : Hid (¬ (0 ≤ view ∧ view ≤ 11) → T = false) := Lib.hid fun h => by rw [← hT]; unfold changedB; rw [(Psp.win_no _ _ _).2 h]; rfl
  clear hT hx hN hw hxc hd
  by_cases hv0 : view < 0
  case' pos =>
    obtain rfl := Hwn.out (by omega)
    clear HT Hwn
    go_enter Tryz.func27, Tryz.ntmps27
    go_wp2_with fail
    go_ret
    exact ⟨rfl, Below.refl _ _⟩
  case' neg =>
  by_cases hv1 : 12 ≤ view
  case' pos =>
    obtain rfl := Hwn.out (by omega)
    clear HT Hwn
    have hd0 : decide (view < 0) = false := by simp; omega
    go_enter Tryz.func27, Tryz.ntmps27
    go_wp2_with fail
    go_ret
    exact ⟨rfl, Below.refl _ _⟩
  case' neg =>
  have hd0 : decide (view < 0) = false := by simp; omega
  have hd1 : decide (view ≥ 12) = false := by simp; omega
  have hwn : Psp.win view 0 11 = true := (Psp.win_iff _ _ _).2 (by omega)
  have HT1 : Hid ((Psp.rising (l.map (·.n)) f && l.all fun v => sealedB K (chM v.n view) v.s) = T) := Lib.hid (by rw [← HT.out]; unfold changedB; rw [hwn]; rfl)
  clear HT Hwn hwn
  go_enter Tryz.func27, Tryz.ntmps27
  go_wp2_with fail
  refine (rrising_l l l.length _ f w P HX.out rfl Hw.out).mono ?_
  rintro e w1 ⟨rfl, hb1⟩
  have HB1 := Lib.hid hb1
  clear hb1
  cases hri : Psp.rising (l.map (·.n)) f with
  | false =>
    have HF : Hid (T = false) := Lib.hid (by rw [← HT1.out, hri]; rfl)
    obtain rfl := HF.out
    clear HT1 HF hri
    go_wp2_with fail
    go_ret
    exact ⟨rfl, HB1.out⟩
  | true =>
    have HT2 : Hid ((l.all fun v => sealedB K (chM v.n view) v.s) = T) := Lib.hid (by rw [← HT1.out, hri]; rfl)
    obtain ⟨n, hn⟩ : ∃ n, l.length = n := ⟨_, rfl⟩
    have Hn := Lib.hid hn
    rw [hn] at hx1 Hxc ⊢
    clear HT1 hri hn
    go_wp2_with fail
    go_loopw [9] (fun i wr => ∃ k : Nat, i = .int .i64 (k : Int) ∧ k ≤ n ∧ Hid ((l.take k).all (fun v => sealedB K (chM v.n view) v.s) = true) ∧ Hid (Below w.heap.size w wr)) (fun i _ => n - (intOf i).toNat)
    case atStart => exact ⟨0, rfl, Nat.zero_le _, Lib.hid rfl, HB1⟩
    case round =>
      clear HB1
      obtain ⟨k, rfl, hk, Hall, HBr⟩ := hrel
      by_cases hlt : k < n
      · obtain ⟨b1, o1, hA1, hP1, hb1, h1⟩ := Hxc.out (by omega)
        subst hA1
        have hkl : k < l.length := by have := Hn.out; omega
        have r1 := range_keep (range_elem (f := vt) (k := 2) (fun _ => rfl) h1 hkl) (HBr.out.block b1 hb1)
        have hst : (l.take (k + 1)).all (fun v => sealedB K (chM v.n view) v.s) = sealedB K (chM l[k].n view) l[k].s := by rw [List.take_succ_eq_append_getElem hkl, List.all_append, Hall.out]; simp
        have hno : sealedB K (chM l[k].n view) l[k].s = false → (l.all fun v => sealedB K (chM v.n view) v.s) = false := fun h => List.all_eq_false.2 ⟨l[k], List.getElem_mem hkl, by simp [h]⟩
        have hwv := Hw.out _ (List.getElem_mem hkl)
        obtain ⟨t, ht⟩ : ∃ t, l[k] = t := ⟨_, rfl⟩
        rw [ht] at r1 hst hno hwv
        obtain ⟨tn, ts⟩ := t
        have x0 := r1 0 _ rfl
        have x1 := r1 1 _ rfl
        simp only [Nat.add_zero, iv] at x0 x1
        have Hst := Lib.hid hst
        have Hno := Lib.hid hno
        have Hwv := Lib.hid hwv
        have kb0 : (0 : Int) ≤ (k : Int) := by omega
        have kb1 : (k : Int) < (n : Int) := by omega
        have hx1' : wr.drew.cell? ⟨b1, o1 + k * 2 + 1, none⟩ = some (.int .i64 ts) := x1
        have hx0' : wr.drew.cell? ⟨b1, o1 + k * 2, none⟩ = some (.int .i64 tn) := x0
        clear r1 hst hno hwv ht h1
        go_upto_region 6 with fail
        have l0 := later_cell (w := wr.drew) hx0'
        have l1 := later_cell (w := wr.drew) hx1'
        clear x0 x1 hx0' hx1'
        refine wp_region_phases [(true, 0), (true, 1), (true, 2), (true, 3), (true, 4), (true, 5), (true, 6), (true, 7), (true, 8), (true, 9), (true, 10), (true, 11), (true, 12), (false, 13)] (by kernel_rfl) (by kernel_rfl) ?_
        simp only [phW, List.getElem?_cons_zero, List.getElem?_cons_succ, Option.toList, List.length_cons, List.length_nil, Nat.reduceAdd, List.drop_succ_cons, List.drop_zero]
        repeat (first | go_big_quiet_step (fail) | quiet_step (fail) | refine wpQuiet_nil ?_)
        clear l0 l1
        go_wp2_with fail
        refine (rchecked_m (chM tn view) (.slice none 0 0) (.slice none 0 0) (.slice none 0 0) (.slice none 0 0) ts S g K wr.drew ⟨RdP.none_, RdP.none_, RdC.nil, RdA.nil⟩ Hwv.out.1 Hwv.out.2 (HN.out.below HBr.out.drew) Hd.out).mono ?_
        rintro e w3 ⟨rfl, hb3⟩
        have HL3 := Lib.hid hb3
        have HB3 := Lib.hid (show Below w.heap.size w w3 from Below.then HBr.out.drew hb3 HBr.out.size)
        clear hb3
        cases hse : sealedB K (chM tn view) ts with
        | false =>
          have HF : Hid (T = false) := Lib.hid (by rw [← HT2.out]; exact Hno.out hse)
          obtain rfl := HF.out
          clear HT2 HF hse
          go_wp2_with fail
          refine And.intro ⟨⟨w3, HL3.out⟩, rfl⟩ ?_
          go_wp2_with fail
          go_ret
          exact ⟨rfl, HB3.out⟩
        | true =>
          have Hs2 : Hid ((l.take (k + 1)).all (fun v => sealedB K (chM v.n view) v.s) = true) := Lib.hid (by rw [Hst.out]; exact hse)
          clear hse
          go_wp2_with fail
          refine And.intro ⟨⟨w3, HL3.out⟩, rfl⟩ ?_
          go_wp2_with fail
          first
            | (go_roundw
               case rel => exact ⟨k + 1, by go_num, by omega, Hs2, HB3⟩
               case measure => simp [intOf]; omega)
            | (refine ⟨⟨k + 1, by go_num, by omega, Hs2, HB3⟩, ?_⟩
               simp [intOf]; omega)
      · have HF : Hid (T = true) := Lib.hid (by rw [← HT2.out, ← Hall.out, List.take_of_length_le (by rw [Hn.out]; omega)])
        obtain rfl := HF.out
        clear HF HT2
        go_wp2_with fail
        go_ret
        exact ⟨rfl, HBr.out⟩
end Go.Proofs.YtadpkjgjciodnaaGreat
