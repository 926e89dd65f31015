/- The reference's Eye: number, list, Req. Printed by gen_eye.py. -/
import Derived.Test.YtadaejpodjhkdaaRd5
import Derived.Test.YtadaejpodjhkdaaRef1
namespace Go.Proofs.Ytadaejpodjhkdaa
open Go.RowKit
set_option linter.unusedVariables false

theorem Rs.set2 {T : TypeId} {w : World} {g : Nat} {x : Value} {o o' : Option Int} (h : Rs T w g x o) {a' : Int} {bad' : Bool} (ha : isI64 a') (h1 : ∀ c, o' = some c → a' = c ∧ bad' = false) (h2 : o' = none → bad' = true) :
    Rs T ((w.setCell ⟨g, 2, none⟩ (.bool bad')).setCell ⟨g, 1, none⟩ (.int .i64 a')) g x o' ∧ Fp (fun k => k = g) w ((w.setCell ⟨g, 2, none⟩ (.bool bad')).setCell ⟨g, 1, none⟩ (.int .i64 a')) := by
  obtain ⟨a, bad, q1, q2, q3, q4⟩ := h.ex
  refine ⟨⟨a', bad', ?_, ha, h1, h2⟩, ((Fp.refl (fun k => k = g) w).setCell (p := ⟨g, 2, none⟩) (Or.inl rfl) _).setCell (p := ⟨g, 1, none⟩) (Or.inl rfl) _⟩
  have e1 := heap_setCell_same w g 2 _ _ (.bool bad') q1
  rw [heap_setCell_same _ g 1 _ _ _ e1]; rfl
/-- What a call of list leaves behind. -/
def TookM (RT : TypeId) (b : List UInt8) (x : Value) (g : Nat) (o : Option Int) (w : World) (e : Ending) (w' : World) : Prop :=
  ∃ (m : Nat) (o' : Option Int), e = .returned (.int .i64 (m : Int)) ∧ m ≤ 256 ∧ (∀ {α : Type} (d : Psp.Dec α), o.bind (Psp.dL d b) = o'.bind (Psp.dMany d b m)) ∧ Rs RT w' g x o' ∧ Fp (fun k => k = g) w w'

set_option maxRecDepth 100000 in
theorem ey_number (b : List UInt8) (x : Value) (g : Nat) (o : Option Int) (w : World) (P : Nat → Prop) (hx : RdP w P 1 x b.length (b.map bv)) (hR : Rs 51 w g x o) :
    Calls Try.prog 54 #[.pointer (some ⟨g, 0, none⟩)] w (TookN 51 b x g o w) := by
  obtain ⟨a, bad, k0, k1, k2, z1, z2, ha, hs, hn⟩ := hR.cells
  have HR := Lib.hid hR
  have hrd := hx.to_rd
  have Hrd := Lib.hid hrd
  obtain ⟨hbl, A, c, rfl, hb1, hb2, _⟩ := hx.parts
  obtain ⟨ha1, ha2⟩ := ha
  cases o with
  | none =>
    have hbad := hn rfl
    subst hbad
    clear hR hs hn hx hrd
    go_enter Try.func54, Try.ntmps54
    go_wp2_with fail
    go_ret
    exact ⟨0, rfl, by omega, by omega, Psp.is_none _ _ _, HR.out, Fp.refl _ _⟩
  | some p =>
    obtain ⟨hap, hbad⟩ := hs p rfl
    subst hap hbad
    have K0 := later_cell k0
    have K1 := later_cell k1
    have fin1 : ∀ w3, Below w.heap.size w w3 → w3.cell? ⟨g, 2, none⟩ = some (.bool false) ∧ w3.frozen? ⟨g, 2, none⟩ = false ∧ w3.cell? ⟨g, 1, none⟩ = some (.int .i64 a) ∧ w3.frozen? ⟨g, 1, none⟩ = false := fun w3 hb3 => by
      obtain ⟨a', bad', _, q1, q2, y1, y2, _, q3, _⟩ := (HR.out.below hb3).cells
      obtain ⟨rfl, rfl⟩ := q3 a rfl
      exact ⟨q2, y2, q1, y1⟩
    have Hfin := Lib.hid fin1
    clear hR hs hn hx hrd fin1
    cases ht : takeAt b a with
    | none =>
      have HT : Hid (∀ p : Later w, Calls Try.prog 75 #[.slice A b.length c, .int .i64 a] p.W fun e w' => e = .returned (.tuple #[.int .i64 0, .int .i64 0, .bool false]) ∧ p.W = w') :=
        Lib.hid fun p => r_taken_no _ _ b a p.W (Hrd.out.later (Nat.le_refl _) p) ha1 ha2 ht
      have Ht := Lib.hid ht
      clear ht
      go_enter Try.func54, Try.ntmps54
      go_wp2_with fail
      refine wp_region_later (by kernel_rfl) (by kernel_rfl) ?_
      repeat (first | go_big_quiet_step ((go_at_call 75; exact later_same _ (HT.out _))))
      refine wpQuiet_nil ?_
      intro w3 hw'
      have hb3 := later_out hw'
      clear hw'
      obtain ⟨q2, y2, q1, y1⟩ := Hfin.out w3 hb3
      have Hb3 := Lib.hid hb3
      clear hb3 k0 k1 k2 K0 K1
      go_wp2_with fail
      go_ret
      obtain ⟨f1, f2⟩ := (HR.out.below Hb3.out).set2 (a' := 0) (bad' := true) (o' := none) ⟨by omega, by omega⟩ (fun c hc => by cases hc) (fun _ => rfl)
      exact ⟨0, rfl, by omega, by omega, Psp.is_no (dN_none Ht.out) _, by rw [Psp.nxt_no (dN_none Ht.out)]; exact f1, (Fp.of_below Hb3.out _).trans f2 fun k hk => Or.inl hk⟩
    | some vm =>
      obtain ⟨v, m⟩ := vm
      have hbd := takeAt_bd ht
      have HT : Hid (∀ p : Later w, Calls Try.prog 75 #[.slice A b.length c, .int .i64 a] p.W fun e w' => e = .returned (.tuple #[.int .i64 (v : Int), .int .i64 (a + (m : Int)), .bool true]) ∧ p.W = w') :=
        Lib.hid fun p => r_taken_yes _ _ b a v m p.W (Hrd.out.later (Nat.le_refl _) p) ha2 ht
      have Ht := Lib.hid ht
      obtain ⟨hb01, hb02, hb03, hb04⟩ := hbd
      clear ht
      go_enter Try.func54, Try.ntmps54
      go_wp2_with fail
      refine wp_region_later (by kernel_rfl) (by kernel_rfl) ?_
      repeat (first | go_big_quiet_step ((go_at_call 75; exact later_same _ (HT.out _))))
      refine wpQuiet_nil ?_
      intro w3 hw'
      have hb3 := later_out hw'
      clear hw'
      obtain ⟨q2, y2, q1, y1⟩ := Hfin.out w3 hb3
      have Hb3 := Lib.hid hb3
      clear hb3 k0 k1 k2 K0 K1
      go_wp2_with fail
      go_ret
      obtain ⟨f1, f2⟩ := (HR.out.below Hb3.out).set2 (a' := a + (m : Int)) (bad' := false) (o' := some (a + (m : Int))) ⟨by omega, by omega⟩ (fun c hc => ⟨by injection hc, rfl⟩) (fun h => by cases h)
      exact ⟨(v : Int), rfl, by omega, by omega, Psp.is_yes (dN_some Ht.out), by rw [Psp.nxt_yes (dN_some Ht.out)]; exact f1, (Fp.of_below Hb3.out _).trans f2 fun k hk => Or.inl hk⟩

set_option maxRecDepth 100000 in
theorem ey_list (b : List UInt8) (x : Value) (g : Nat) (o : Option Int) (w : World) (P : Nat → Prop) (hx : RdP w P 1 x b.length (b.map bv)) (hR : Rs 51 w g x o) :
    Calls Try.prog 57 #[.pointer (some ⟨g, 0, none⟩)] w (TookM 51 b x g o w) := by
  have HX := Lib.hid hx
  have HR := Lib.hid hR
  clear hx hR
  go_enter Try.func57, Try.ntmps57
  go_wp2_with fail
  refine (ey_number b x g o w P HX.out HR.out).mono ?_
  rintro e w1 ⟨n0, rfl, h1, h2, h3, h4, h5⟩
  obtain ⟨n, rfl⟩ : ∃ n : Nat, n0 = (n : Int) := ⟨n0.toNat, by omega⟩
  obtain ⟨a, bad, k0, k1, k2, z1, z2, ha, hs, hn⟩ := h4.cells
  have H3 := Lib.hid h3
  have H4 := Lib.hid h4
  have H5 := Lib.hid h5
  have fin : ∀ c, Psp.nxt dN b o = some c → a = c ∧ bad = false := hs
  cases hd : Psp.nxt dN b o with
  | none =>
    have hbad := hn hd
    subst hbad
    have Hd := Lib.hid hd
    obtain ⟨f1, f2⟩ := h4.fail
    have F1 := Lib.hid f1
    have F2 := Lib.hid f2
    clear h3 h4 h5 hs hn fin hd f1 f2 k0 k1 z1
    go_wp2_with fail
    go_ret
    refine ⟨0, none, rfl, by omega, fun d => ?_, F1.out, H5.out.trans F2.out fun k hk => Or.inl hk⟩
    by_cases h : (n : Int) ≤ 256
    · rw [Psp.dL_of H3.out h, Hd.out]; rfl
    · rw [Psp.dL_big H3.out (by omega)]; rfl
  | some c =>
    obtain ⟨hac, hbad⟩ := hs c hd
    subst hac hbad
    have Hd := Lib.hid hd
    by_cases h256 : 256 < n
    · have d1 : decide (256 < (n : Int)) = true := by simp; omega
      obtain ⟨f1, f2⟩ := h4.fail
      have F1 := Lib.hid f1
      have F2 := Lib.hid f2
      clear h3 h4 h5 hs hn fin hd f1 f2 k0 k1 z1
      go_wp2_with fail
      go_ret
      exact ⟨0, none, rfl, by omega, fun d => by rw [Psp.dL_big H3.out (by omega)]; rfl, F1.out, H5.out.trans F2.out fun k hk => Or.inl hk⟩
    · have d1 : decide (256 < (n : Int)) = false := by simp; omega
      rw [hd] at h4
      obtain ⟨a9, b9, q1, q2, q3, q4⟩ := h4.ex
      obtain ⟨e1, e2⟩ := q3 a rfl
      subst e1 e2
      have f1 : Rs 51 (w1.setCell ⟨g, 2, none⟩ (.bool false)) g x (some a9) := ⟨a9, false, by rw [heap_setCell_same w1 g 2 _ _ _ q1]; rfl, q2, q3, q4⟩
      have f2 : Fp (fun k => k = g) w1 (w1.setCell ⟨g, 2, none⟩ (.bool false)) := (Fp.refl (fun k => k = g) w1).setCell (p := ⟨g, 2, none⟩) (Or.inl rfl) _
      have F1 := Lib.hid f1
      have F2 := Lib.hid f2
      clear h3 h4 h5 hs hn fin hd f1 f2 k0 k1 z1 q1 q2 q3 q4 H4
      go_wp2_with fail
      go_ret
      exact ⟨n, some a9, rfl, by omega, fun d => by rw [Psp.dL_of H3.out (by omega), Hd.out, Int.toNat_natCast], F1.out, H5.out.trans F2.out fun k hk => Or.inl hk⟩

set_option maxRecDepth 100000 in
set_option maxHeartbeats 1000000 in
theorem ey_req (b : List UInt8) (x : Value) (g : Nat) (o : Option Int) (w : World) (hx : RdP w (fun k => k ≠ g) 1 x b.length (b.map bv)) (hR : Rs 51 w g x o) :
    Calls Try.prog 25 #[.pointer (some ⟨g, 0, none⟩)] w (TookV 51 Psp.dR rq b x g o w) := by
  have t0 := Two.new hR #[.int .i64 0, .int .i64 0, .int .i64 0, .int .i64 0, .int .i64 0, .int .i64 0] 31
  have HX := Lib.hid hx
  have T0 := Lib.hid t0
  clear hx hR t0
  go_enter Try.func25, Try.ntmps25
  go_wp2_with fail
  refine (ey_number b x g _ _ (fun k => k ≠ g) (HX.out.fp T0.out.fp (fun k hk => hk)) T0.out.rs).mono ?_
  rintro e w1 ⟨c, rfl, h1, h2, h3, h4, h5⟩
  have t1 := T0.out.call h4 h5
  obtain ⟨x0, z0⟩ := t1.cell 0 (by simp)
  simp only [List.getElem_toArray, List.getElem_cons_zero] at x0
  have T1 := Lib.hid (t1.store 0 (.int .i64 c) (cs' := #[.int .i64 c, .int .i64 0, .int .i64 0, .int .i64 0, .int .i64 0, .int .i64 0]) rfl)
  have E0 := Lib.hid h3
  clear h1 h2 h3 h4 h5 t1
  go_wp2_with fail
  refine (ey_number b x g _ _ (fun k => k ≠ g) (HX.out.fp T1.out.fp (fun k hk => hk)) T1.out.rs).mono ?_
  rintro e w2 ⟨t, rfl, h1, h2, h3, h4, h5⟩
  have t1 := T1.out.call h4 h5
  obtain ⟨x1, z1⟩ := t1.cell 1 (by simp)
  simp only [List.getElem_toArray, List.getElem_cons_zero, List.getElem_cons_succ] at x1
  have T2 := Lib.hid (t1.store 1 (.int .i64 t) (cs' := #[.int .i64 c, .int .i64 t, .int .i64 0, .int .i64 0, .int .i64 0, .int .i64 0]) rfl)
  have E1 := Lib.hid h3
  clear h1 h2 h3 h4 h5 t1 x0 z0
  go_wp2_with fail
  refine (ey_number b x g _ _ (fun k => k ≠ g) (HX.out.fp T2.out.fp (fun k hk => hk)) T2.out.rs).mono ?_
  rintro e w3 ⟨k, rfl, h1, h2, h3, h4, h5⟩
  have t1 := T2.out.call h4 h5
  obtain ⟨x2, z2⟩ := t1.cell 2 (by simp)
  simp only [List.getElem_toArray, List.getElem_cons_zero, List.getElem_cons_succ] at x2
  have T3 := Lib.hid (t1.store 2 (.int .i64 k) (cs' := #[.int .i64 c, .int .i64 t, .int .i64 k, .int .i64 0, .int .i64 0, .int .i64 0]) rfl)
  have E2 := Lib.hid h3
  clear h1 h2 h3 h4 h5 t1 x1 z1
  go_wp2_with fail
  refine (ey_number b x g _ _ (fun k => k ≠ g) (HX.out.fp T3.out.fp (fun k hk => hk)) T3.out.rs).mono ?_
  rintro e w4 ⟨y0, rfl, h1, h2, h3, h4, h5⟩
  rw [← nxt_S] at h4
  have t1 := T3.out.call h4 h5
  obtain ⟨x3, z3⟩ := t1.cell 3 (by simp)
  simp only [List.getElem_toArray, List.getElem_cons_zero, List.getElem_cons_succ] at x3
  have T4 := Lib.hid (t1.store 3 (.int .i64 (Psp.zag y0)) (cs' := #[.int .i64 c, .int .i64 t, .int .i64 k, .int .i64 (Psp.zag y0), .int .i64 0, .int .i64 0]) rfl)
  have E3 := Lib.hid (is_S h3)
  clear h3 h4 h5 t1 x2 z2
  go_wp2_with (go_at_call 55; refine (r_zag_any _ _ (by omega) (by omega)).mono ?_; rintro e w' ⟨rfl, rfl⟩)
  clear h1 h2
  refine (ey_number b x g _ _ (fun k => k ≠ g) (HX.out.fp T4.out.fp (fun k hk => hk)) T4.out.rs).mono ?_
  rintro e w5 ⟨v0, rfl, h1, h2, h3, h4, h5⟩
  rw [← nxt_S] at h4
  have t1 := T4.out.call h4 h5
  obtain ⟨x4, z4⟩ := t1.cell 4 (by simp)
  simp only [List.getElem_toArray, List.getElem_cons_zero, List.getElem_cons_succ] at x4
  have T5 := Lib.hid (t1.store 4 (.int .i64 (Psp.zag v0)) (cs' := #[.int .i64 c, .int .i64 t, .int .i64 k, .int .i64 (Psp.zag y0), .int .i64 (Psp.zag v0), .int .i64 0]) rfl)
  have E4 := Lib.hid (is_S h3)
  clear h3 h4 h5 t1 x3 z3
  go_wp2_with (go_at_call 55; refine (r_zag_any _ _ (by omega) (by omega)).mono ?_; rintro e w' ⟨rfl, rfl⟩)
  clear h1 h2
  refine (ey_number b x g _ _ (fun k => k ≠ g) (HX.out.fp T5.out.fp (fun k hk => hk)) T5.out.rs).mono ?_
  rintro e w6 ⟨s, rfl, h1, h2, h3, h4, h5⟩
  have t1 := T5.out.call h4 h5
  obtain ⟨x5, z5⟩ := t1.cell 5 (by simp)
  simp only [List.getElem_toArray, List.getElem_cons_zero, List.getElem_cons_succ] at x5
  have T6 := Lib.hid (t1.store 5 (.int .i64 s) (cs' := #[.int .i64 c, .int .i64 t, .int .i64 k, .int .i64 (Psp.zag y0), .int .i64 (Psp.zag v0), .int .i64 s]) rfl)
  have E5 := Lib.hid h3
  clear h1 h2 h3 h4 h5 t1 x4 z4
  have hrg := T6.out.range [.int .i64 c, .int .i64 t, .int .i64 k, .int .i64 (Psp.zag y0), .int .i64 (Psp.zag v0), .int .i64 s] rfl
  have Hrg := Lib.hid hrg
  have hth := T6.out.there
  have Hth := Lib.hid hth
  clear hrg hth
  go_wp2_with (first | (refine list_load rfl 31 (.tmp 3) rfl (w.heap.size + 1) 0 rfl [.int .i64 c, .int .i64 t, .int .i64 k, .int .i64 (Psp.zag y0), .int .i64 (Psp.zag v0), .int .i64 s] _ ?_ Try.underlying31 rfl sizeR ?_; exact Hrg.out) | (refine wpList_store_mid rfl 31 (.tmp 2) _ rfl w.heap.size 0 #[.int .i64 c, .int .i64 t, .int .i64 k, .int .i64 (Psp.zag y0), .int .i64 (Psp.zag v0), .int .i64 s] rfl rfl Hth.out sizeR (by simp [Value.oneCell']) ?_))
  obtain ⟨r1, r2, r3, _⟩ := T6.out.result [.int .i64 c, .int .i64 t, .int .i64 k, .int .i64 (Psp.zag y0), .int .i64 (Psp.zag v0), .int .i64 s] rfl
  refine bodyPost_ret (v := .agg #[.int .i64 c, .int .i64 t, .int .i64 k, .int .i64 (Psp.zag y0), .int .i64 (Psp.zag v0), .int .i64 s]) ?_ rfl ?_
  · exact results_cell_row Try.results25 _ _ w.heap.size _ _ _ _ rfl r1 Try.underlying31 rfl sizeR
  · obtain ⟨c1, c2⟩ := chain_R E0.out E1.out E2.out E3.out E4.out E5.out
    exact ⟨⟨c, t, k, (Psp.zag y0), (Psp.zag v0), s⟩, rfl, c1, by rw [c2]; exact r2, r3⟩

end Go.Proofs.Ytadaejpodjhkdaa
