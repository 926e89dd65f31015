/- Has, Ready of the document's table. Printed by gen_rft2.py. -/
import Derived.Test.YtmbdailffhdonaaRft
namespace Go.Proofs.Ytmbdailffhdonaa
open Go.RowKit
set_option linter.unusedVariables false
set_option linter.unusedSimpArgs false

set_option maxRecDepth 100000 in
set_option maxHeartbeats 4000000 in
theorem rthas_m (r : Psp.Req) (n : Int) (P : Nat → Prop) (h : Nat) (f cl : Int) (A : Option Addr) (c : Nat) (L : List TRV) (w : World) (H : Rtc w P h f cl A c L) (hs : (Psp.rsOf (usOf L)).Pairwise (fun a b => Psp.cmpR a b < 0)) :
    Calls Try.prog 32 #[.pointer (some ⟨h, 0, none⟩), .agg #[.int .i64 r.c, .int .i64 r.t, .int .i64 r.k, .int .i64 r.y, .int .i64 r.v, .int .i64 r.s], .int .i64 n] w fun e w' => e = .returned (.bool (Psp.hasM (usOf L) r n)) ∧ Below w.heap.size w w' := by
  have hlt := H.lt
  have hrs : (Psp.rsOf (usOf L)).length = L.length := by simp [Psp.rsOf, usOf]
  obtain ⟨hl, A', c', e0, hc1, hc2, hx⟩ := H.rd.rd.parts
  injection e0 with e1 e2 e3
  subst e1 e3
  obtain ⟨len, hlen⟩ : ∃ len, L.length = len := ⟨_, rfl⟩
  have hrow := H.row
  rw [hlen] at hc1 hx hrow
  have Hlen := Lib.hid hlen
  have Hx := Lib.hid hx
  have Hrs := Lib.hid hrs
  have HH := Lib.hid H
  have Hs := Lib.hid hs
  have hba := alloc_below w (.cells #[.int .i64 r.c, .int .i64 r.t, .int .i64 r.k, .int .i64 r.y, .int .i64 r.v, .int .i64 r.s] 25)
  have hra := range_of_row (heap_alloc_new w (.cells #[.int .i64 r.c, .int .i64 r.t, .int .i64 r.k, .int .i64 r.y, .int .i64 r.v, .int .i64 r.s] 25))
  have HB := Lib.hid hba
  have HR : Hid ((w.alloc (.cells #[.int .i64 r.c, .int .i64 r.t, .int .i64 r.k, .int .i64 r.y, .int .i64 r.v, .int .i64 r.s] 25)).rangeAt w.heap.size 0 (rq r)) := Lib.hid hra
  have HH1 := Lib.hid (HH.out.below hba)
  clear hl hx hlen hs H hrs e2 hba hra hrow
  go_enter Try.func32, Try.ntmps32
  go_wp2_with (refine list_load rfl 25 (.tmp 4) rfl w.heap.size 0 rfl (rq r) _ HR.out Try.underlying25 rfl size_rq ?_)
  refine (rfind_m r P h f cl A c L _ HH1.out Hs.out).mono ?_
  rintro e w1 ⟨rfl, hb1⟩
  have HB1 := Lib.hid (Below.then HB.out hb1 HB.out.size)
  have HH2 := Lib.hid (HH1.out.below hb1)
  clear hb1 HH1 HR HB
  obtain ⟨b0, hb0⟩ : ∃ b0, Psp.isR (usOf L) r = b0 := ⟨_, rfl⟩
  have HI := Lib.hid hb0
  rw [hb0]
  clear hb0
  go_upto_region 2 with fail
  cases b0 with
  | false =>
    simp only [Bool.false_eq_true, if_false]
    go_wp2_with fail
    go_ret
    refine ⟨?_, HB1.out⟩
    unfold Psp.hasM
    rw [HI.out]; rfl
  | true =>
    simp only [if_true]
    obtain ⟨k, hk⟩ : ∃ k, Psp.posR (Psp.rsOf (usOf L)) r = k := ⟨_, rfl⟩
    have HK := Lib.hid hk
    rw [hk]
    have hkr : k < (Psp.rsOf (usOf L)).length := by
      obtain ⟨j, hj, he⟩ := List.mem_iff_getElem.1 (of_decide_eq_true HI.out)
      have := Psp.posR_mem Hs.out hj he
      omega
    have hkl : k < L.length := by have := Hrs.out; omega
    have hkn : k < len := by have := Hlen.out; omega
    obtain ⟨b, o, hAe, _, hb, hlies⟩ := Hx.out (by omega)
    subst hAe
    obtain ⟨x, hxe⟩ : ∃ x, L[k] = x := ⟨_, rfl⟩
    have hrg := trv_range hlies hkl
    rw [hxe] at hrg
    have hns := HH2.out.rd.ns x (by rw [← hxe]; exact List.getElem_mem hkl)
    have hbl : b < w1.heap.size := by have := HB1.out.size; omega
    have hrg1 := range_keep hrg (HB1.out.block b hb)
    have c6 : w1.cell? ⟨b, o + k * 8 + 6, none⟩ = some x.v := hrg1 6 x.v rfl
    have c2 : w1.cell? ⟨h, 2, none⟩ = some (.slice (some ⟨b, o, none⟩) L.length c) := row_c HH2.out.row 2 rfl
    have HNs := Lib.hid hns
    have HXe := Lib.hid hxe
    have k0 : (0 : Int) ≤ (k : Int) := by omega
    have k1 : (k : Int) < (len : Int) := by omega
    have hd1 : decide ((k : Int) ≥ 0) = true := decide_eq_true k0
    rw [Hlen.out] at c2
    clear hlies hxe hrg hrg1 hns hk
    go_wp2_with fail
    refine (rhas_ints x.u.ns n x.v w1 P HNs.out).mono ?_
    rintro e w' ⟨rfl, rfl⟩
    go_wp2_with fail
    go_ret
    refine ⟨?_, HB1.out⟩
    unfold Psp.hasM
    rw [HI.out, HK.out]
    have : (usOf L)[k]? = some x.u := by unfold usOf; rw [List.getElem?_map, List.getElem?_eq_getElem hkl, HXe.out]; rfl
    rw [this]; rfl
set_option maxRecDepth 100000 in
set_option maxHeartbeats 4000000 in
theorem rready_m (k : Nat) (P : Nat → Prop) (h : Nat) (f cl : Int) (A : Option Addr) (c : Nat) (L : List TRV) (w : World) (hk : k < L.length) (H : Rtc w P h f cl A c L) :
    Calls Try.prog 34 #[.pointer (some ⟨h, 0, none⟩), .int .i64 (k : Int)] w fun e w' => e = .returned (.bool (Psp.rdyR f L[k].u)) ∧ Below w.heap.size w w' := by
  have hlt := H.lt
  have hrs : (Psp.rsOf (usOf L)).length = L.length := by simp [Psp.rsOf, usOf]
  obtain ⟨hl, A', c', e0, hc1, hc2, hx⟩ := H.rd.rd.parts
  injection e0 with e1 e2 e3
  subst e1 e3
  obtain ⟨len, hlen⟩ : ∃ len, L.length = len := ⟨_, rfl⟩
  have hrow := H.row
  rw [hlen] at hc1 hx hrow
  have Hlen := Lib.hid hlen
  have Hx := Lib.hid hx
  have Hrs := Lib.hid hrs
  have HH := Lib.hid H
  have hkn : k < len := by have := Hlen.out; omega
  obtain ⟨b, o, hAe, _, hb, hlies⟩ := Hx.out (by omega)
  subst hAe
  obtain ⟨x, hxe⟩ : ∃ x, L[k] = x := ⟨_, rfl⟩
  rw [hxe]
  have hrg := trv_range hlies hk
  rw [hxe] at hrg
  obtain ⟨_, B, d, e4, hd1, hd2, _⟩ := (H.rd.ns x (by rw [← hxe]; exact List.getElem_mem hk)).parts
  have c6_ := hrg 6 x.v rfl
  rw [e4] at c6_
  have c6 := later_cell (w := w) (show w.cell? ⟨b, o + k * 8 + 6, none⟩ = some (.slice B x.u.ns.length d) from c6_)
  have c2 := later_cell (row_c hrow 2 rfl)
  have c0 := later_cell (row_c hrow 0 rfl)
  have HWk : Hid (∀ p : Later w, Calls Try.prog 41 #[.int .i64 f] p.W fun e w' => e = .returned (.int .i64 (Psp.weak f)) ∧ p.W = w') := Lib.hid fun p => r_weak_any f p.W
  obtain ⟨nw, hnw⟩ : ∃ nw, Psp.weak f = nw := ⟨_, rfl⟩
  obtain ⟨nl, hnl⟩ : ∃ nl, x.u.ns.length = nl := ⟨_, rfl⟩
  rw [hnw] at HWk
  rw [hnl] at c6
  have Hnw := Lib.hid hnw
  have Hnl := Lib.hid hnl
  have k0 : (0 : Int) ≤ (k : Int) := by omega
  have k1 : (k : Int) < (len : Int) := by omega
  clear hl hx hlen H hrs e2 hrow hlies hxe hrg c6_ hnw hnl
  go_enter Try.func34, Try.ntmps34
  go_upto_region 1 with fail
  refine wp_region_later (by kernel_rfl) (by kernel_rfl) ?_
  repeat ((with_reducible show wpQuiet _ _ _ _ _ _); first | ((with_reducible refine wpQuiet_bare ?_ ?_); (· rfl)) | (with_reducible refine wpQuiet_nil ?_) | go_big_quiet_step ((go_at_call 41; exact later_same _ (HWk.out _))) | quiet_step ((go_at_call 41; exact later_same _ (HWk.out _))))
  intro w3 hw'
  have hb3 := later_out hw'
  clear hw' c6 c2 c0
  have HB3 := Lib.hid hb3
  clear hb3
  go_wp2_with fail
  go_ret
  refine ⟨?_, HB3.out⟩
  unfold Psp.rdyR
  rw [Hnw.out, Hnl.out]; rfl
end Go.Proofs.Ytmbdailffhdonaa
