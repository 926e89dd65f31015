/- Package msgs: Voted, Certified. Printed by gen_vtd.py. -/
import Derived.Test.YtadpkjgjciodnaaGreatSdVi
import Derived.Test.YtadpkjgjciodnaaGreatJ14Vi
import Derived.Test.YtadpkjgjciodnaaGreatPhaseVi
import Derived.Test.YtadpkjgjciodnaaGreatFp2Vi
import Derived.Test.YtadpkjgjciodnaaGreatJ32Vi
import Derived.Test.YtadpkjgjciodnaaGreatJ24Vi
namespace Go.Proofs.YtadpkjgjciodnaaGreat
open Go.RowKit
set_option linter.unusedVariables false
set_option linter.unusedSimpArgs false

/-- Are a certificate's votes those of its nodes? -/
def votedB (K : List Key) (kind : Int) (c : Psp.Cert) (f : Int) : Bool := Psp.rising (c.o.map (·.n)) f && c.o.all fun v => sealedB K (balM kind v.n c) v.s
/-- Is it a certificate? -/
def certifiedB (K : List Key) (kind : Int) (c : Psp.Cert) (f cl : Int) : Bool := Psp.placeB c.v c.i c.q f && (rightB 4 cl K c.b && votedB K kind c f)

set_option maxRecDepth 100000 in
set_option maxHeartbeats 4000000 in
theorem voted_m (kind : Int) (c : Psp.Cert) (vb vo : Value) (f : Int) (g bm : Nat) (K : List Key) (w : World) (P : Nat → Prop) (hx : CertOk w P ⟨c, vb, vo⟩) (hw : ∀ v ∈ c.o, wfVote v) (hN : Nt w g bm K) (hbig : c.b.length ≤ 1099511627776) :
    Calls Tryz.prog 14 #[.int .i64 kind, .agg #[.int .i64 c.v, .int .i64 c.i, .int .i64 c.q, vb, vo], .int .i64 f, .pointer (some ⟨g, 0, none⟩)] w fun e w' => e = .returned (.bool (votedB K kind c f)) ∧ Below w.heap.size w w' := by
  obtain ⟨_, A1, c1, e1, _⟩ := RdP.parts hx.1
  obtain ⟨_, A2, c2, e2, hx1, hx2, hxc⟩ := RdP.parts hx.2
  dsimp only at e1 e2 hx1 hxc
  subst e1 e2
  obtain ⟨T, hT⟩ : ∃ T, votedB K kind c f = T := ⟨_, rfl⟩
  rw [hT]
  have HT := Lib.hid hT
  have HX := Lib.hid hx
  have Hw := Lib.hid hw
  have HN := Lib.hid hN
  have Hbig := Lib.hid hbig
  have Hxc := Lib.hid hxc
  have hb0 := alloc_below w (.cells #[.int .i64 c.v, .int .i64 c.i, .int .i64 c.q, .slice A1 c.b.length c1, .slice A2 c.o.length c2] 25)
  have hc0 := heap_alloc_new w (.cells #[.int .i64 c.v, .int .i64 c.i, .int .i64 c.q, .slice A1 c.b.length c1, .slice A2 c.o.length c2] 25)
  clear hT hx hw hN hbig hxc
  go_enter Tryz.func14, Tryz.ntmps14
  go_wp2_with fail
  obtain ⟨W0, hW0⟩ : ∃ W, w.alloc (.cells #[.int .i64 c.v, .int .i64 c.i, .int .i64 c.q, .slice A1 c.b.length c1, .slice A2 c.o.length c2] 25) = W := ⟨_, rfl⟩
  rw [hW0] at hb0 hc0 ⊢
  have HB0 := Lib.hid hb0
  have HC0 := Lib.hid hc0
  clear hW0 hb0 hc0
  refine (rising_l c.o c.o.length _ f W0 P (HX.out.2.keeps (Keeps.below HB0.out)) rfl Hw.out).mono ?_
  rintro e w1 ⟨rfl, hb1⟩
  have HB1 := Lib.hid (Below.then HB0.out hb1 HB0.out.size)
  have HC1 := Lib.hid ((hb1.block _ (Array.getElem?_eq_some_iff.1 HC0.out).1).trans HC0.out)
  clear hb1 HB0 HC0
  cases hri : Psp.rising (c.o.map (·.n)) f with
  | false =>
    have HF : Hid (T = false) := Lib.hid (by rw [← HT.out]; unfold votedB; rw [hri]; rfl)
    obtain rfl := HF.out
    clear HT HF hri
    go_wp2_with fail
    go_ret
    exact ⟨rfl, HB1.out⟩
  | true =>
    have HT2 : Hid ((c.o.all fun v => sealedB K (balM kind v.n c) v.s) = T) := Lib.hid (by rw [← HT.out]; unfold votedB; rw [hri]; rfl)
    obtain ⟨n, hn⟩ : ∃ n, c.o.length = n := ⟨_, rfl⟩
    have Hn := Lib.hid hn
    rw [hn] at hx1 Hxc HC1 HX ⊢
    have k4 : w1.cell? ⟨w.heap.size, 4, none⟩ = some (.slice A2 n c2) := by rw [cell_of_row _ _ 4 _ _ _ HC1.out]; rfl
    clear HT hri hn
    go_wp2_with fail
    clear k4
    go_loopw [19] (fun i wr => ∃ k : Nat, i = .int .i64 (k : Int) ∧ k ≤ n ∧ Hid ((c.o.take k).all (fun v => sealedB K (balM kind v.n c) v.s) = true) ∧ Hid (Below w.heap.size w wr) ∧ Hid (wr.heap[w.heap.size]? = some (.cells #[.int .i64 c.v, .int .i64 c.i, .int .i64 c.q, .slice A1 c.b.length c1, .slice A2 n c2] 25 (0, 0)))) (fun i _ => n - (intOf i).toNat)
    case atStart => exact ⟨0, rfl, Nat.zero_le _, Lib.hid rfl, HB1, HC1⟩
    case round =>
      clear HB1 HC1
      obtain ⟨k, rfl, hk, Hall, HBr, HCr⟩ := hrel
      by_cases hlt : k < n
      · obtain ⟨b1, o1, hA1, hP1, hb1, h1⟩ := Hxc.out (by omega)
        subst hA1
        have hkl : k < c.o.length := by have := Hn.out; omega
        have r1 := range_keep (range_elem (f := vt) (k := 2) (fun _ => rfl) h1 hkl) (HBr.out.block b1 hb1)
        have hst : (c.o.take (k + 1)).all (fun v => sealedB K (balM kind v.n c) v.s) = sealedB K (balM kind c.o[k].n c) c.o[k].s := by rw [List.take_succ_eq_append_getElem hkl, List.all_append, Hall.out]; simp
        have hno : sealedB K (balM kind c.o[k].n c) c.o[k].s = false → (c.o.all fun v => sealedB K (balM kind v.n c) v.s) = false := fun h => List.all_eq_false.2 ⟨c.o[k], List.getElem_mem hkl, by simp [h]⟩
        have hwv := Hw.out _ (List.getElem_mem hkl)
        obtain ⟨t, ht⟩ : ∃ t, c.o[k] = t := ⟨_, rfl⟩
        rw [ht] at r1 hst hno hwv
        obtain ⟨tn, ts⟩ := t
        have x0 := r1 0 _ rfl
        have x1 := r1 1 _ rfl
        simp only [Nat.add_zero, iv] at x0 x1
        have Hst := Lib.hid hst
        have Hno := Lib.hid hno
        have Hwv := Lib.hid hwv
        have kb0 : (0 : Int) ≤ (k : Int) := by omega
        have kb1 : (k : Int) < (n : Int) := by omega
        have hlb : b1 < wr.heap.size := by have := HBr.out.size; omega
        have hba := alloc_below wr (.cells #[.int .i64 tn, .int .i64 ts] 54)
        have hca := heap_alloc_new wr (.cells #[.int .i64 tn, .int .i64 ts] 54)
        clear r1 hst hno hwv ht h1
        go_upto_region 6 with fail
        clear x0 x1
        obtain ⟨Wa, hWa⟩ : ∃ W, wr.alloc (.cells #[.int .i64 tn, .int .i64 ts] 54) = W := ⟨_, rfl⟩
        rw [hWa] at hba hca ⊢
        have HB2 := Lib.hid (Below.then HBr.out hba HBr.out.size)
        have HC2 := Lib.hid ((hba.block _ (Array.getElem?_eq_some_iff.1 HCr.out).1).trans HCr.out)
        have l0 := later_cell (w := Wa.drew) (show Wa.drew.cell? ⟨wr.heap.size, 0, none⟩ = some (.int .i64 tn) by rw [cell_of_row Wa.drew _ 0 _ _ _ hca]; rfl)
        have l1 := later_cell (w := Wa.drew) (show Wa.drew.cell? ⟨wr.heap.size, 1, none⟩ = some (.int .i64 ts) by rw [cell_of_row Wa.drew _ 1 _ _ _ hca]; rfl)
        have HRM : Hid (∀ w' : World, (∃ p : Later Wa.drew, w' = p.W) → w'.rangeAt w.heap.size 0 [.int .i64 c.v, .int .i64 c.i, .int .i64 c.q, .slice A1 c.b.length c1, .slice (some ⟨b1, o1, none⟩) n c2]) := Lib.hid (by rintro w' ⟨p, rfl⟩; exact range_of_row ((p.h.block _ (show w.heap.size < Wa.heap.size from (Array.getElem?_eq_some_iff.1 HC2.out).1)).trans HC2.out))
        clear hWa hba hca
        refine wp_region_phases [(true, 0), (true, 1), (true, 2), (true, 3), (true, 5), (true, 6), (true, 7), (false, 4), (false, 8)] (by kernel_rfl) (by kernel_rfl) ?_
        simp only [phW, List.getElem?_cons_zero, List.getElem?_cons_succ, Option.toList, List.length_cons, List.length_nil, Nat.reduceAdd, List.drop_succ_cons, List.drop_zero]
        repeat (first | go_big_quiet_step (fail) | (refine quiet_load (by simp [Region.wanted, yielded]) 25 (.tmp 5) (by rfl) w.heap.size (0) (by rfl) [.int .i64 c.v, .int .i64 c.i, .int .i64 c.q, .slice A1 c.b.length c1, .slice (some ⟨b1, o1, none⟩) n c2] _ HRM.out Tryz.underlying25 rfl sizeC ?_; intro K hK; go_simp; refine hK _ ?_; clear hK K) | quiet_step (fail) | refine wpQuiet_nil ?_)
        clear l0 l1
        go_wp2_with fail
        refine (ballot_m kind tn ⟨c, .slice A1 c.b.length c1, .slice (some ⟨b1, o1, none⟩) n c2⟩ Wa.drew P (HX.out.keeps (Keeps.below HB2.out.drew)) Hbig.out).mono ?_
        rintro e w3 ⟨vb', rfl, hrd, hb3⟩
        obtain ⟨_, A', c', rfl, _⟩ := RdP.parts (show RdP _ _ 6 vb' c.b.length (c.b.flatMap rq) from hrd)
        have HRd := Lib.hid (show RdP w3 (fun b => b < w3.heap.size) 6 (.slice A' c.b.length c') c.b.length (c.b.flatMap rq) from RdP.mono (show RdP _ _ 6 _ c.b.length (c.b.flatMap rq) from hrd) fun b hb _ => hb)
        have HB3 := Lib.hid (show Below w.heap.size w w3 from Below.then HB2.out.drew hb3 HB2.out.size)
        have HC3 := Lib.hid ((hb3.block _ (show w.heap.size < Wa.heap.size from (Array.getElem?_eq_some_iff.1 HC2.out).1)).trans HC2.out)
        have HL3 := Lib.hid hb3
        clear hb3 hrd
        go_wp2_with fail
        refine And.intro ⟨⟨w3, HL3.out⟩, rfl⟩ ?_
        go_wp2_with fail
        refine (sealed_m (balM kind tn c) (.slice A' c.b.length c') (.slice none 0 0) (.slice none 0 0) (.slice none 0 0) ts g bm K w3 ⟨HRd.out, RdP.none_, RdC.nil, RdA.nil⟩ Hwv.out.1 (HN.out.below HB3.out)).mono ?_
        rintro e w4 ⟨rfl, hb4⟩
        have HB4 := Lib.hid (Below.then HB3.out hb4 HB3.out.size)
        have HC4 := Lib.hid ((hb4.block _ (Array.getElem?_eq_some_iff.1 HC3.out).1).trans HC3.out)
        have HL4 := Lib.hid (Below.then HL3.out hb4 HL3.out.size)
        clear hb4
        cases hse : sealedB K (balM kind tn c) ts with
        | false =>
          have HF : Hid (T = false) := Lib.hid (by rw [← HT2.out]; exact Hno.out hse)
          obtain rfl := HF.out
          clear HT2 HF hse
          go_wp2_with fail
          refine And.intro ⟨⟨w4, HL4.out⟩, rfl⟩ ?_
          go_wp2_with fail
          go_ret
          exact ⟨rfl, HB4.out⟩
        | true =>
          have Hs2 : Hid ((c.o.take (k + 1)).all (fun v => sealedB K (balM kind v.n c) v.s) = true) := Lib.hid (by rw [Hst.out]; exact hse)
          clear hse
          go_wp2_with fail
          refine And.intro ⟨⟨w4, HL4.out⟩, rfl⟩ ?_
          go_wp2_with fail
          first
            | (go_roundw
               case rel => exact ⟨k + 1, by go_num, by omega, Hs2, HB4, HC4⟩
               case measure => simp [intOf]; omega)
            | (refine ⟨⟨k + 1, by go_num, by omega, Hs2, HB4, HC4⟩, ?_⟩
               simp [intOf]; omega)
      · have HF : Hid (T = true) := Lib.hid (by rw [← HT2.out, ← Hall.out, List.take_of_length_le (by rw [Hn.out]; omega)])
        obtain rfl := HF.out
        clear HF HT2
        go_wp2_with fail
        go_ret
        exact ⟨rfl, HBr.out⟩

set_option maxRecDepth 100000 in
set_option maxHeartbeats 4000000 in
theorem certified_m (kind : Int) (c : Psp.Cert) (vb vo : Value) (f cl : Int) (g bm : Nat) (K : List Key) (w : World) (P : Nat → Prop) (hx : CertOk w P ⟨c, vb, vo⟩) (hw : wfCert c) (hN : Nt w g bm K) (hbig : c.b.length ≤ 1099511627776) :
    Calls Tryz.prog 18 #[.int .i64 kind, .agg #[.int .i64 c.v, .int .i64 c.i, .int .i64 c.q, vb, vo], .int .i64 f, .int .i64 cl, .pointer (some ⟨g, 0, none⟩)] w fun e w' => e = .returned (.bool (certifiedB K kind c f cl)) ∧ Below w.heap.size w w' := by
  obtain ⟨_, A1, c1, e1, _⟩ := RdP.parts hx.1
  obtain ⟨_, A2, c2, e2, _⟩ := RdP.parts hx.2
  dsimp only at e1 e2
  subst e1 e2
  obtain ⟨b1, hb1⟩ : ∃ x, Psp.placeB c.v c.i c.q f = x := ⟨_, rfl⟩
  obtain ⟨b2, hb2⟩ : ∃ x, rightB 4 cl K c.b = x := ⟨_, rfl⟩
  obtain ⟨b3, hb3⟩ : ∃ x, votedB K kind c f = x := ⟨_, rfl⟩
  have Hr : Hid (certifiedB K kind c f cl = (b1 && (b2 && b3))) := Lib.hid (by unfold certifiedB; rw [hb1, hb2, hb3])
  have HX := Lib.hid hx
  have Hw := Lib.hid hw
  have HN := Lib.hid hN
  have Hbig := Lib.hid hbig
  have hb0 := (alloc_below w (.cells #[.int .i64 c.v, .int .i64 c.i, .int .i64 c.q, .slice A1 c.b.length c1, .slice A2 c.o.length c2] 25)).trans ((alloc_below (w.alloc (.cells #[.int .i64 c.v, .int .i64 c.i, .int .i64 c.q, .slice A1 c.b.length c1, .slice A2 c.o.length c2] 25)) (.cells #[.int .i64 f, .int .i64 cl] 104)).mono (by simp))
  have hc0 := box_below (heap_alloc_new w (.cells #[.int .i64 c.v, .int .i64 c.i, .int .i64 c.q, .slice A1 c.b.length c1, .slice A2 c.o.length c2] 25)) (alloc_below (w.alloc (.cells #[.int .i64 c.v, .int .i64 c.i, .int .i64 c.q, .slice A1 c.b.length c1, .slice A2 c.o.length c2] 25)) (.cells #[.int .i64 f, .int .i64 cl] 104)) (Nat.le_refl _)
  clear hx hw hN hbig
  go_enter Tryz.func18, Tryz.ntmps18
  go_wp2_with fail
  obtain ⟨W0, hW0⟩ : ∃ W, (w.alloc (.cells #[.int .i64 c.v, .int .i64 c.i, .int .i64 c.q, .slice A1 c.b.length c1, .slice A2 c.o.length c2] 25)).alloc (.cells #[.int .i64 f, .int .i64 cl] 104) = W := ⟨_, rfl⟩
  rw [hW0] at hb0 hc0 ⊢
  have HB0 := Lib.hid hb0
  have HC0 := Lib.hid hc0
  clear hW0 hb0 hc0
  refine (place_any c.v c.i c.q f cl _).mono ?_
  rw [hb1]
  rintro e w1 ⟨rfl, hq1⟩
  have HB1 := Lib.hid (Below.then HB0.out hq1 HB0.out.size)
  have HC1 := Lib.hid (box_below HC0.out hq1 (Nat.le_refl _))
  clear HB0 HC0 hb1 hq1
  cases b1 with
  | false =>
    go_wp2_with fail
    go_ret
    exact ⟨by rw [Hr.out]; rfl, HB1.out⟩
  | true =>
    have x3 : w1.cell? ⟨w.heap.size, 3, none⟩ = some (.slice A1 c.b.length c1) := by rw [cell_of_row _ _ 3 _ _ _ HC1.out]; rfl
    go_wp2_with fail
    clear x3
    refine (batch_any c.b c.b.length _ 4 cl g bm K w1 P (HX.out.1.keeps (Keeps.below HB1.out)) rfl (HN.out.below HB1.out)).mono ?_
    rw [hb2]
    rintro e w2 ⟨rfl, hq2⟩
    have HB2 := Lib.hid (Below.then HB1.out hq2 HB1.out.size)
    have HC2 := Lib.hid (box_below HC1.out hq2 (Nat.le_refl _))
    clear HB1 HC1 hb2 hq2
    cases b2 with
    | false =>
      go_wp2_with fail
      go_ret
      exact ⟨by rw [Hr.out]; rfl, HB2.out⟩
    | true =>
      have x0 : w2.cell? ⟨w.heap.size, 0, none⟩ = some (.int .i64 c.v) := by rw [cell_of_row _ _ 0 _ _ _ HC2.out]; rfl
      have x1 : w2.cell? ⟨w.heap.size, 1, none⟩ = some (.int .i64 c.i) := by rw [cell_of_row _ _ 1 _ _ _ HC2.out]; rfl
      have x2 : w2.cell? ⟨w.heap.size, 2, none⟩ = some (.int .i64 c.q) := by rw [cell_of_row _ _ 2 _ _ _ HC2.out]; rfl
      have x3 : w2.cell? ⟨w.heap.size, 3, none⟩ = some (.slice A1 c.b.length c1) := by rw [cell_of_row _ _ 3 _ _ _ HC2.out]; rfl
      have x4 : w2.cell? ⟨w.heap.size, 4, none⟩ = some (.slice A2 c.o.length c2) := by rw [cell_of_row _ _ 4 _ _ _ HC2.out]; rfl
      go_wp2_with fail
      clear x0 x1 x2 x3 x4
      refine (voted_m kind c _ _ f g bm K w2 P (HX.out.keeps (Keeps.below HB2.out)) Hw.out.2.2.2.2 (HN.out.below HB2.out) Hbig.out).mono ?_
      rw [hb3]
      rintro e w3 ⟨rfl, hq3⟩
      have HB3 := Lib.hid (Below.then HB2.out hq3 HB2.out.size)
      clear hb3 hq3
      go_wp2_with fail
      go_ret
      exact ⟨by rw [Hr.out]; rfl, HB3.out⟩
end Go.Proofs.YtadpkjgjciodnaaGreat
