/- The walk of ClientOrder. Printed by gen_worder.py. -/
import Derived.Test.YtipmjleohadoeaaGreatCl7So
import Derived.Test.YtipmjleohadoeaaGreatCwlSo
import Derived.Test.YtipmjleohadoeaaGreatJ42So
import Derived.Test.YtipmjleohadoeaaGreatGeSo
import Derived.Test.YtipmjleohadoeaaGreatWk22So
import Derived.Test.YtipmjleohadoeaaGreatQbSo
import Derived.Deep.CutBlock
namespace Go.Proofs.YtipmjleohadoeaaGreat.clientOrder
open Go.RowKit
set_option linter.unusedVariables false
set_option linter.unusedSimpArgs false

set_option maxRecDepth 100000 in
set_option maxHeartbeats 16000000 in
theorem walk (f0 : Int) (v1 : Value) (l1 : List (Int × Int × Int)) (res0 : Int) (w : World) (hf0 : isI64 f0) (hr1 : Rd w w.heap.size 3 v1 l1.length (l1.flatMap fun o => [iv o.1, iv o.2.1, iv o.2.2])) (hl1 : ∀ o ∈ l1, isI64 o.1 ∧ isI64 o.2.1 ∧ isI64 o.2.2) (hres0 : isI64 res0) :
    Calls Tryz.prog 5 #[.int .i64 f0, v1, .int .i64 res0] w fun e w' => e = .returned (.bool true) ∧ Below w.heap.size w w' := by
  have fw0 := Psp.within_lo f0 4
  have fw1 := Psp.within_hi f0 4 (by omega)
  have rw0 := Psp.within_lo res0 1000
  have rw1 := Psp.within_hi res0 1000 (by omega)
  have hwf : IntKind.i64.wrap (1 + Psp.within f0 4) = 1 + Psp.within f0 4 := IntWalk.i64_in _ (by omega)
  obtain ⟨hrl1, A1, cp1, rfl, hc11, hc12, hcell1⟩ := hr1
  obtain ⟨len1, hlen1⟩ : ∃ len, l1.length = len := ⟨_, rfl⟩
  rw [hlen1] at hcell1 hc11 ⊢
  unfold maxLen at hc12
  have Hlen1 := Lib.hid hlen1
  have Hl1 := Lib.hid hl1
  have Hcell1 := Lib.hid hcell1
  clear hlen1 hl1 hrl1 hcell1
  have HSTD := Lib.hid fun W => std_any (1 + Psp.within f0 4) W
  go_enter Tryz.func5, Tryz.ntmps5
  go_upto_region 2 with (first | (go_at_call 11; refine (HSTD.out _).mono ?_; rintro e w0 ⟨rfl, hb0⟩; have HB0 := Lib.hid hb0; clear hb0) | (go_at_call 8; refine (within_i _ _ _ (by first | assumption | exact ⟨by omega, by omega⟩) (by exact ⟨by omega, by omega⟩)).mono ?_; rintro e w' ⟨rfl, rfl⟩))
  clear hwf HSTD
  obtain ⟨f, hfx⟩ : ∃ f, 1 + Psp.within f0 4 = f := ⟨_, rfl⟩
  rw [hfx]
  have hf : 1 ≤ f ∧ f ≤ 4 := ⟨by omega, by omega⟩
  have hfs : 1 ≤ (stdC f).f ∧ (stdC f).f ≤ 4 := hf
  clear hfx fw0 fw1
  have hba := alloc_below w0 (.cells #[.int .i64 f, .int .i64 2, .int .i64 2, .int .i64 4, .int .i64 64, .int .i64 8, .int .i64 8, .int .i64 8, .int .i64 1, .int .i64 2, .int .i64 12, .int .i64 8, .int .i64 6, .int .i64 2, .int .i64 6] 37)
  have hca := heap_alloc_new w0 (.cells #[.int .i64 f, .int .i64 2, .int .i64 2, .int .i64 4, .int .i64 64, .int .i64 8, .int .i64 8, .int .i64 8, .int .i64 1, .int .i64 2, .int .i64 12, .int .i64 8, .int .i64 6, .int .i64 2, .int .i64 6] 37)
  have hsa : (w0.alloc (.cells #[.int .i64 f, .int .i64 2, .int .i64 2, .int .i64 4, .int .i64 64, .int .i64 8, .int .i64 8, .int .i64 8, .int .i64 1, .int .i64 2, .int .i64 12, .int .i64 8, .int .i64 6, .int .i64 2, .int .i64 6] 37)).heap.size = w0.heap.size + 1 := by simp
  obtain ⟨cb, hcb_⟩ : ∃ cb, w0.heap.size = cb := ⟨_, rfl⟩
  obtain ⟨wa, hwa_⟩ : ∃ wa, w0.alloc (.cells #[.int .i64 f, .int .i64 2, .int .i64 2, .int .i64 4, .int .i64 64, .int .i64 8, .int .i64 8, .int .i64 8, .int .i64 1, .int .i64 2, .int .i64 12, .int .i64 8, .int .i64 6, .int .i64 2, .int .i64 6] 37) = wa := ⟨_, rfl⟩
  have hwc : w.heap.size ≤ cb := by rw [← hcb_]; exact HB0.out.size
  rw [hwa_] at hba hca hsa ⊢
  have HBA := Lib.hid (Below.then HB0.out hba HB0.out.size)
  rw [hcb_] at hca hsa ⊢
  have HCF := Lib.hid hca
  clear hba hca hwa_ hcb_ HB0
  go_wp2_with fail
  refine (nt_new wa).mono ?_
  rintro e w1 ⟨g, bm, rfl, hN, hb1, hg1, hg2⟩
  have hz1 := hb1.size
  have hgl := hN.lt
  go_upto_region 3 with fail
  have hba := alloc_below w1 (.cells #[.slice none 0 0, .slice none 0 0] 29)
  have hca := heap_alloc_new w1 (.cells #[.slice none 0 0, .slice none 0 0] 29)
  have hsa1 : (w1.alloc (.cells #[.slice none 0 0, .slice none 0 0] 29)).heap.size = w1.heap.size + 1 := by simp
  obtain ⟨h, hh⟩ : ∃ h, w1.heap.size = h := ⟨_, rfl⟩
  have hbb := alloc_below (w1.alloc (.cells #[.slice none 0 0, .slice none 0 0] 29)) (.cells #[.pointer (some ⟨g, 0, none⟩), .pointer (some ⟨w1.heap.size, 0, none⟩)] 31)
  have hcb := heap_alloc_new (w1.alloc (.cells #[.slice none 0 0, .slice none 0 0] 29)) (.cells #[.pointer (some ⟨g, 0, none⟩), .pointer (some ⟨w1.heap.size, 0, none⟩)] 31)
  rw [hsa1] at hcb
  have hsb : ((w1.alloc (.cells #[.slice none 0 0, .slice none 0 0] 29)).alloc (.cells #[.pointer (some ⟨g, 0, none⟩), .pointer (some ⟨w1.heap.size, 0, none⟩)] 31)).heap.size = w1.heap.size + 2 := by simp
  have hnb := (hbb.block w1.heap.size (by omega)).trans hca
  obtain ⟨w2, hw2⟩ : ∃ w2, (w1.alloc (.cells #[.slice none 0 0, .slice none 0 0] 29)).alloc (.cells #[.pointer (some ⟨g, 0, none⟩), .pointer (some ⟨w1.heap.size, 0, none⟩)] 31) = w2 := ⟨_, rfl⟩
  rw [hw2] at hbb hcb hsb hnb ⊢
  rw [hh] at hnb hcb ⊢
  have hb2 : Below w1.heap.size w1 w2 := hba.trans (hbb.mono (by omega))
  have hTv : Tv w2 (fun b => b = h) g bm h [] [] := ⟨hN.below hb2, ⟨_, _, hnb, ⟨rfl, Or.inl ⟨rfl, rfl⟩⟩, ⟨rfl, Or.inl ⟨rfl, rfl⟩⟩, rfl, fun b hb => (by cases hb), fun b hb => (by cases hb)⟩, ⟨by omega, by omega⟩, fun b hb => by omega, rfl⟩
  have HTv := Lib.hid hTv
  have hbA2 : Below wa.heap.size wa w2 := Below.then hb1 hb2 hb1.size
  have HB2 := Lib.hid (Below.then HBA.out hbA2 HBA.out.size)
  have hcf2 := (hbA2.block cb (by omega)).trans HCF.out
  have HRc : Hid (w2.rangeAt cb 0 [.int .i64 f, .int .i64 2, .int .i64 2, .int .i64 4, .int .i64 64, .int .i64 8, .int .i64 8, .int .i64 8, .int .i64 1, .int .i64 2, .int .i64 12, .int .i64 8, .int .i64 6, .int .i64 2, .int .i64 6]) := Lib.hid (range_of_row hcf2)
  have HCF2 := Lib.hid hcf2
  have HCB := Lib.hid hcb
  have hh1 : h < w2.heap.size := by omega
  have hh2 : h + 1 < w2.heap.size := by omega
  have hwh : w.heap.size ≤ h := by omega
  have hch : cb < h := by omega
  have hcg : cb < g := by omega
  have hcm : cb < bm := by omega
  have hgh : g < h := by omega
  have hbh : bm < h := by omega
  have f0 : w2.cell? ⟨h + 1, 0, none⟩ = some (.pointer (some ⟨g, 0, none⟩)) := rowc hcb 0 rfl
  clear hN hb1 hba hca hsa hsa1 hbb hcb hsb hnb hw2 hb2 hTv hh hbA2 hcf2 HBA HCF hz1 hgl
  go_upto_region 5 with fail
  go_wp2_with (refine list_load rfl 37 (.tmp 7) rfl cb 0 rfl [.int .i64 f, .int .i64 2, .int .i64 2, .int .i64 4, .int .i64 64, .int .i64 8, .int .i64 8, .int .i64 8, .int .i64 1, .int .i64 2, .int .i64 12, .int .i64 8, .int .i64 6, .int .i64 2, .int .i64 6] _ HRc.out Tryz.underlying37 rfl sizeCf ?_)
  clear f0 HRc
  refine (new_yes (stdC f) 0 g w2 (std_ok (by first | assumption | exact ⟨by omega, by omega⟩)) ⟨by decide, by show (0 : Int) < 2; decide⟩).mono ?_
  rintro e w4 ⟨k, ct, rfl, hcl, hb4, hk4, hct4⟩
  have hz4 := hb4.size
  have HT : Hid (Cw w4 (fun b => b = h ∨ (b = k ∨ b = ct)) g bm h [] [] k ct (stdC f) 0 cs0) := Lib.hid (Cw.start (HTv.out.below hb4) hcl fun b hb => by rcases hb with hb | hb <;> (subst hb; exact ⟨by omega, by omega, by omega⟩))
  have Ht : Hid (Rw w4 (fun b => b = h ∨ (b = k ∨ b = ct)) bm (h + 1) (.cells #[.pointer (some ⟨g, 0, none⟩), .pointer (some ⟨h, 0, none⟩)] 31 (0, 0))) := Lib.hid ⟨(hb4.block _ hh2).trans HCB.out, by omega, by rintro (hh | hh | hh) <;> omega, by omega⟩
  have Hc : Hid (Rw w4 (fun b => b = h ∨ (b = k ∨ b = ct)) bm cb (.cells #[.int .i64 f, .int .i64 2, .int .i64 2, .int .i64 4, .int .i64 64, .int .i64 8, .int .i64 8, .int .i64 8, .int .i64 1, .int .i64 2, .int .i64 12, .int .i64 8, .int .i64 6, .int .i64 2, .int .i64 6] 37 (0, 0))) := Lib.hid ⟨(hb4.block _ (by omega)).trans HCF2.out, by omega, by rintro (hh | hh | hh) <;> omega, by omega⟩
  have HB : Hid (Below w.heap.size w w4) := Lib.hid (Below.then HB2.out hb4 HB2.out.size)
  have HSn : Hid (∀ b, (b = h ∨ (b = k ∨ b = ct)) → w.heap.size ≤ b) := Lib.hid fun b hb => by rcases hb with hb | hb | hb <;> omega
  clear hb4 hcl HTv HCB HB2 HCF2
  go_upto_region 10 with (go_at_call 8; refine (within_i _ _ _ (by first | assumption | exact ⟨by omega, by omega⟩) (by exact ⟨by omega, by omega⟩)).mono ?_; rintro e w' ⟨rfl, rfl⟩)
  obtain ⟨res, hrx⟩ : ∃ res, Psp.within res0 1000 = res := ⟨_, rfl⟩
  rw [hrx] at rw0 rw1 ⊢
  clear hrx
  have HO0 : Hid (Od cs0 0 res) := Lib.hid ⟨rfl, rfl, rfl, fun i x h_ => by simp [cs0] at h_⟩
  have hwn : ∀ n : Nat, n ≤ 20 → IntKind.i64.wrap ((n : Int) + 1) = (n : Int) + 1 := fun n hn => IntWalk.i64_in _ (by omega)
  have HWN := Lib.hid hwn
  clear hwn
  go_upto_block 0 with fail
  go_cut [11, 12, 13, 14, 15] from 44 to 140 (fun n_ i_ r_ e_ j_ wx => ∃ (n : Nat) (S' : Nat → Prop) (K L : List Key) (s : CS), n_ = .int .i64 (n : Int) ∧ n ≤ 20 ∧ K.length ≤ 240 ∧ L.length ≤ 200 ∧ Hid (Od s n res) ∧ Hid (Cw wx S' g bm h K L k ct (stdC f) 0 s) ∧ Hid (∀ b, S' b → w.heap.size ≤ b) ∧ Hid (Below w.heap.size w wx) ∧ Hid (Rw wx S' bm (h + 1) (.cells #[.pointer (some ⟨g, 0, none⟩), .pointer (some ⟨h, 0, none⟩)] 31 (0, 0))))
  case first =>
    go_wp2_with fail
    go_loopw [11, 12] (fun n_ i wr => ∃ (j n : Nat) (S' : Nat → Prop) (K L : List Key) (s : CS), n_ = .int .i64 (n : Int) ∧ i = .int .i64 (j : Int) ∧ n ≤ j ∧ j ≤ 20 ∧ j ≤ len1 ∧ K.length ≤ 12 * j ∧ L.length ≤ 10 * j ∧ s.out.length ≤ 20 * j ∧ Hid (Od s n res) ∧ Hid (Cw wr S' g bm h K L k ct (stdC f) 0 s) ∧ Hid (∀ b, S' b → w.heap.size ≤ b) ∧ Hid (Below w.heap.size w wr) ∧ Hid (Rw wr S' bm (h + 1) (.cells #[.pointer (some ⟨g, 0, none⟩), .pointer (some ⟨h, 0, none⟩)] 31 (0, 0))) ∧ Hid (Rw wr S' bm cb (.cells #[.int .i64 f, .int .i64 2, .int .i64 2, .int .i64 4, .int .i64 64, .int .i64 8, .int .i64 8, .int .i64 8, .int .i64 1, .int .i64 2, .int .i64 12, .int .i64 8, .int .i64 6, .int .i64 2, .int .i64 6] 37 (0, 0)))) (fun n_ i _ => 20 - (intOf i).toNat)
    case atStart => exact ⟨0, 0, _, [], [], cs0, rfl, rfl, by omega, by omega, by omega, by simp, by simp, by simp [cs0], HO0, HT, HSn, HB, Ht, Hc⟩
    case round =>
      clear HT HSn HB Ht Hc HO0
      obtain ⟨j, n, S', K, L, s, rfl, rfl, hnj, hj20, hjl, hKl, hLl, hol, HO, HT, HSn, HB, Ht, Hc⟩ := hrel
      by_cases hlt : j < len1
      case neg =>
        have hd1 : decide ((j : Int) < (len1 : Int)) = false := by simp; omega
        go_wp2_with fail
        go_meet
        exact ⟨n, S', K, L, s, rfl, by omega, by omega, by omega, HO, HT, HSn, HB, Ht⟩
      by_cases h20 : j < 20
      case neg =>
        have hd1 : decide ((j : Int) < (len1 : Int)) = true := by simp; omega
        have hd2 : decide ((j : Int) < 20) = false := by simp; omega
        go_wp2_with fail
        go_meet
        exact ⟨n, S', K, L, s, rfl, by omega, by omega, by omega, HO, HT, HSn, HB, Ht⟩
      have hd1 : decide ((j : Int) < (len1 : Int)) = true := by simp; omega
      have hd2 : decide ((j : Int) < 20) = true := by simp; omega
      obtain ⟨b1, o1, hAe, hb1, hlies⟩ := Hcell1.out (by omega)
      subst hAe
      have hx0 : j < l1.length := by have := Hlen1.out; omega
      have hrw := ops_range hlies hx0
      have hxm := Hl1.out l1[j] (List.getElem_mem hx0)
      obtain ⟨⟨kk, y, v⟩, hy⟩ : ∃ x, l1[j] = x := ⟨_, rfl⟩
      rw [hy] at hrw hxm
      have HRw : Hid (w.rangeAt b1 (o1 + j * 3) [.int .i64 kk, .int .i64 y, .int .i64 v]) := Lib.hid hrw
      obtain ⟨hk1, hk2, hk3⟩ := hxm
      have HRo := Lib.hid (range_keep HRw.out (HB.out.block b1 hb1))
      have k0 : (0 : Int) ≤ (j : Int) := by omega
      have k1 : (j : Int) < (len1 : Int) := by omega
      have hwj := HWN.out n (by omega)
      obtain ⟨q, hq⟩ : ∃ q, (n : Int) + 1 = q := ⟨_, rfl⟩
      rw [hq] at hwj
      have hwj' : IntKind.i64.wrap ((n : Int) + 1) = q := by rw [HWN.out n (by omega)]; exact hq
      clear hwj
      have hq1 : 1 ≤ q ∧ q ≤ 20 := ⟨by omega, by omega⟩
      have HQ := Lib.hid hq
      clear hq
      have hln := HO.out.ln
      clear hlies hy hrw hx0
      by_cases hv : Psp.valid (bareQ 0 s kk y v) 2 = true
      case neg =>
        replace hv : Psp.valid (bareQ 0 s kk y v) 2 = false := by simpa using hv
        have HV := Lib.hid hv
        clear hv
        go_wp2_with (refine list_load rfl 40 (.tmp 58) rfl b1 (o1 + j * 3) rfl [.int .i64 kk, .int .i64 y, .int .i64 v] _ HRo.out Tryz.underlying40 rfl val_size ?_)
        refine (Cw.ask HT.out fun U hU => issue_no U g k ct (stdC f) 0 s kk y v wr hU HO.out.w (by omega) HV.out).mono ?_
        rintro e w7 ⟨rfl, hbq⟩
        have hb17 : b1 < w7.heap.size := by have := hbq.size; have := HB.out.size; omega
        have HR7 := Lib.hid (range_keep HRo.out (hbq.block b1 (by have := HB.out.size; omega)))
        replace Ht := Lib.hid (Ht.out.below hbq)
        replace Hc := Lib.hid (Hc.out.below hbq)
        replace HT := Lib.hid (HT.out.below hbq)
        replace HB := Lib.hid (Below.then HB.out hbq HB.out.size)
        clear hbq
        go_upto_region 14 with fail
        have hba := alloc_below w7 (.cells #[.int .i64 0, .int .i64 0, .int .i64 0, .int .i64 0, .int .i64 0, .int .i64 0] 42)
        have hra : Rw (w7.alloc (.cells #[.int .i64 0, .int .i64 0, .int .i64 0, .int .i64 0, .int .i64 0, .int .i64 0] 42)) S' bm w7.heap.size (.cells #[.int .i64 0, .int .i64 0, .int .i64 0, .int .i64 0, .int .i64 0, .int .i64 0] 42 (0, 0)) := Rw.new (.cells #[.int .i64 0, .int .i64 0, .int .i64 0, .int .i64 0, .int .i64 0, .int .i64 0] 42) HT.out.lt HT.out.nt.lt.2
        have hsa : (w7.alloc (.cells #[.int .i64 0, .int .i64 0, .int .i64 0, .int .i64 0, .int .i64 0, .int .i64 0] 42)).heap.size = w7.heap.size + 1 := by simp
        obtain ⟨w8, hWa⟩ : ∃ W_, w7.alloc (.cells #[.int .i64 0, .int .i64 0, .int .i64 0, .int .i64 0, .int .i64 0, .int .i64 0] 42) = W_ := ⟨_, rfl⟩
        rw [hWa] at hba hra hsa ⊢
        have Hs_w8 := Lib.hid hsa
        have Hb_w8 := Lib.hid hba
        have Hx := Lib.hid hra
        clear hWa hra hsa
        replace Ht := Lib.hid (Ht.out.below hba)
        replace Hc := Lib.hid (Hc.out.below hba)
        replace HT := Lib.hid (HT.out.below hba)
        replace HB := Lib.hid (Below.then HB.out hba HB.out.size)
        clear hba
        clear Hx
        have HR8 := Lib.hid (range_keep HR7.out (Hb_w8.out.block b1 hb17))
        go_wp2_with (refine list_load rfl 40 (.tmp 67) rfl b1 (o1 + j * 3) rfl [.int .i64 kk, .int .i64 y, .int .i64 v] _ HR8.out Tryz.underlying40 rfl val_size ?_)
        refine (rvalid_any ⟨0, q, kk, y, v, 0⟩ 1 w8).mono ?_
        rintro e w9 ⟨rfl, hbq⟩
        have hvf : Psp.valid ⟨0, q, kk, y, v, 0⟩ 1 = false := by rw [valid_12, ← HQ.out, ← hln]; exact HV.out
        rw [hvf]
        clear hvf
        replace Ht := Lib.hid (Ht.out.below hbq)
        replace Hc := Lib.hid (Hc.out.below hbq)
        replace HT := Lib.hid (HT.out.below hbq)
        replace HB := Lib.hid (Below.then HB.out hbq HB.out.size)
        clear hbq
        go_wp2_with fail
        refine ⟨⟨j + 1, n, S', K, L, s, rfl, by go_num, by omega, by omega, by omega, by omega, by omega, by omega, HO, HT, HSn, HB, Ht, Hc⟩, ?_⟩
        simp [intOf]; omega
      go_wp2_with (refine list_load rfl 40 (.tmp 58) rfl b1 (o1 + j * 3) rfl [.int .i64 kk, .int .i64 y, .int .i64 v] _ HRo.out Tryz.underlying40 rfl val_size ?_)
      obtain ⟨r, hr⟩ : ∃ r : Psp.Req, r = { bareQ 0 s kk y v with s := sealN K (kR (bareQ 0 s kk y v)) } := ⟨_, rfl⟩
      obtain ⟨P_, hP_⟩ : ∃ P_, sendS (stdC f) 0 (sealL K (kR (bareQ 0 s kk y v))) { s with issued := s.issued ++ [r], waits := true, at_ := s.now, ans := [] } = P_ := ⟨_, rfl⟩
      obtain ⟨s1, K1⟩ := P_
      have hfa := issue_facts (c := stdC f) (by first | assumption | exact ⟨by decide, by decide⟩) hP_
      refine (cw_issue S' g bm h K L k ct (stdC f) 0 s kk y v r s1 K1 wr HT.out (by first | assumption | exact ⟨by decide, by decide⟩) (by show (2 : Int) ≤ 4; decide) ⟨by decide, by decide⟩ HO.out.w (by omega) (by omega) (by omega) hv hr hP_).mono ?_
      rintro e w5 ⟨rfl, S5, hT', hS', hF'⟩
      have HFa := Lib.hid hfa
      have Hr_ := Lib.hid hr
      clear hP_ hfa hr
      replace Ht := Lib.hid (Ht.out.seal hF' hS')
      replace Hc := Lib.hid (Hc.out.seal hF' hS')
      have hzb := HB.out.size
      replace HB := Lib.hid (HB.out.trans ((hF').to_below (B := w.heap.size) hzb (fun k hk hh => by rcases hh with hh | hh; (have := HSn.out k hh; omega); omega)))
      replace HSn : Hid (∀ b, (S5) b → w.heap.size ≤ b) := Lib.hid fun b hb => by rcases hS' b hb with h1 | h1; exact HSn.out b h1; omega
      clear hzb
      replace HT := Lib.hid hT'
      clear hT' hS' hF'
      obtain ⟨sN, hsN⟩ : ∃ sN, r = ⟨0, q, kk, y, v, sN⟩ := ⟨_, by rw [Hr_.out, ← HQ.out, ← hln]; rfl⟩
      clear Hr_ HRo
      subst hsN
      go_upto_region 14 with fail
      have hba := alloc_below w5 (.cells #[.int .i64 0, .int .i64 q, .int .i64 kk, .int .i64 y, .int .i64 v, .int .i64 sN] 42)
      have hra : Rw (w5.alloc (.cells #[.int .i64 0, .int .i64 q, .int .i64 kk, .int .i64 y, .int .i64 v, .int .i64 sN] 42)) S5 bm w5.heap.size (.cells #[.int .i64 0, .int .i64 q, .int .i64 kk, .int .i64 y, .int .i64 v, .int .i64 sN] 42 (0, 0)) := Rw.new (.cells #[.int .i64 0, .int .i64 q, .int .i64 kk, .int .i64 y, .int .i64 v, .int .i64 sN] 42) HT.out.lt HT.out.nt.lt.2
      have hsa : (w5.alloc (.cells #[.int .i64 0, .int .i64 q, .int .i64 kk, .int .i64 y, .int .i64 v, .int .i64 sN] 42)).heap.size = w5.heap.size + 1 := by simp
      obtain ⟨w6, hWa⟩ : ∃ W_, w5.alloc (.cells #[.int .i64 0, .int .i64 q, .int .i64 kk, .int .i64 y, .int .i64 v, .int .i64 sN] 42) = W_ := ⟨_, rfl⟩
      rw [hWa] at hba hra hsa ⊢
      have Hs_w6 := Lib.hid hsa
      have Hb_w6 := Lib.hid hba
      have Hr := Lib.hid hra
      clear hWa hra hsa
      replace Ht := Lib.hid (Ht.out.below hba)
      replace Hc := Lib.hid (Hc.out.below hba)
      replace HT := Lib.hid (HT.out.below hba)
      replace HB := Lib.hid (Below.then HB.out hba HB.out.size)
      clear hba
      have HRo := Lib.hid (range_keep HRw.out (HB.out.block b1 hb1))
      go_wp2_with (refine list_load rfl 40 (.tmp 67) rfl b1 (o1 + j * 3) rfl [.int .i64 kk, .int .i64 y, .int .i64 v] _ HRo.out Tryz.underlying40 rfl val_size ?_)
      refine (rvalid_any ⟨0, q, kk, y, v, 0⟩ 1 w6).mono ?_
      rintro e w9 ⟨rfl, hbq⟩
      have hvf : Psp.valid ⟨0, q, kk, y, v, 0⟩ 1 = true := by rw [valid_12, ← HQ.out, ← hln]; exact hv
      rw [hvf]
      clear hvf hv HRo
      replace Ht := Lib.hid (Ht.out.below hbq)
      replace Hc := Lib.hid (Hc.out.below hbq)
      replace Hr := Lib.hid (Hr.out.below hbq)
      replace HT := Lib.hid (HT.out.below hbq)
      replace HB := Lib.hid (Below.then HB.out hbq HB.out.size)
      clear hbq
      go_upto_region 18 with fail
      have l1 := later_cell (w := w9) (show w9.cell? ⟨w5.heap.size, 1, none⟩ = some (.int .i64 q) from Hr.out.cell rfl)
      have HRA : Hid (∀ w' : World, (∃ p : Later w9, w' = p.W) → w'.rangeAt w5.heap.size 2 [.int .i64 kk, .int .i64 y, .int .i64 v]) := Lib.hid (by
        rintro w' ⟨p, rfl⟩ j_ u_ h_
        have h2 := range_of_row ((p.h.block _ Hr.out.lt).trans Hr.out.row) (j_ + 2) u_ (by have h3 : j_ < 3 := (List.getElem?_eq_some_iff.1 h_).1; rcases j_ with _ | _ | _ | j_ <;> first | exact h_ | exact absurd h3 (by omega))
        rw [Nat.zero_add] at h2
        rw [Nat.add_comm 2 j_]; exact h2)
      have HRB : Hid (∀ w' : World, (∃ p : Later w9, w' = p.W) → w'.rangeAt b1 (o1 + j * 3) [.int .i64 kk, .int .i64 y, .int .i64 v]) := Lib.hid (by
        have hb19 : b1 < w9.heap.size := by have := HB.out.size; omega
        rintro w' ⟨p, rfl⟩; exact range_keep (range_keep HRw.out (HB.out.block b1 hb1)) (p.h.block b1 hb19))
      refine wp_region_later (by kernel_rfl) (by kernel_rfl) ?_
      repeat ((with_reducible show wpQuiet _ _ _ _ _ _); first | ((with_reducible refine wpQuiet_bare ?_ ?_); (· rfl)) | (refine quiet_load (by simp [Region.wanted, yielded]) 40 (.tmp 85) (by rfl) w5.heap.size 2 (by rfl) [.int .i64 kk, .int .i64 y, .int .i64 v] _ HRA.out Tryz.underlying40 rfl val_size ?_; intro K hK; go_simp; refine hK _ ?_; clear hK K) | (refine quiet_load (by simp [Region.wanted, yielded]) 40 (.tmp 89) (by rfl) b1 (o1 + j * 3) (by rfl) [.int .i64 kk, .int .i64 y, .int .i64 v] _ HRB.out Tryz.underlying40 rfl val_size ?_; intro K hK; go_simp; refine hK _ ?_; clear hK K) | (refine quiet_val (by simp [Region.wanted, yielded]) (.bool false) (fun w hC => exec_neq_op (.tmp 86) (.tmp 90) _ rfl kk y v rfl rfl) ?_; intro K hK; go_simp; refine hK _ ?_; clear hK K) | go_big_quiet_step (fail) | quiet_step (fail))
      refine wpQuiet_nil ?_
      intro wz hw'
      have hbz := later_out hw'
      clear l1 HRA HRB hw' 
      replace Ht := Lib.hid (Ht.out.below hbz)
      replace Hc := Lib.hid (Hc.out.below hbz)
      replace Hr := Lib.hid (Hr.out.below hbz)
      replace HT := Lib.hid (HT.out.below hbz)
      replace HB := Lib.hid (Below.then HB.out hbz HB.out.size)
      clear hbz
      clear Hr Hb_w6 Hs_w6
      obtain ⟨i1, i2, i3, i4, i5, i6, _, _⟩ := HFa.out
      have HW2 : Hid (Wk2 s1 s.issued ⟨0, q, kk, y, v, sN⟩ s.acc f 0 (res + q) 0) := Lib.hid (Wk2.start i1 i2 i3 i4 hf.1)
      have hlast : s1.last = ⟨0, q, kk, y, v, sN⟩ := last_of i2
      have hil : s1.issued.length ≤ 21 := by rw [i2, List.length_append, List.length_singleton]; omega
      have hne : s1.issued ≠ [] := by rw [i2]; simp
      have hal1 : s1.ans.length ≤ 0 := by rw [i3]; exact Nat.le_refl _
      have hacl : s1.acc.length ≤ 20 := by rw [i4, HO.out.la]; omega
      have hol1 : s1.out.length ≤ 20 * j + 13 := by omega
      have hkl0 : K1.length ≤ K.length + 2 := i6
      have Hlast := Lib.hid hlast
      have Hne := Lib.hid hne
      have hw1 : IntKind.i64.wrap (q - 1) = q - 1 := IntWalk.i64_in _ (by omega)
      have hw2 : IntKind.i64.wrap (q + 1) = q + 1 := IntWalk.i64_in _ (by omega)
      clear i1 i2 i3 i4 i5 i6 HFa hlast hne
      go_upto_region 20 with fail
      go_cut [123] from 93 to 122 (fun t_ wx => t_ = .bool false ∧ ∃ (S2 : Nat → Prop) (K2 L2 : List Key), K2.length ≤ K.length + 5 ∧ L2.length ≤ L.length + 3 ∧ Hid (Cw wx S2 g bm h K2 L2 k ct (stdC f) 0 s1) ∧ Hid (∀ b, S2 b → w.heap.size ≤ b) ∧ Hid (Below w.heap.size w wx) ∧ Hid (Rw wx S2 bm (h + 1) (.cells #[.pointer (some ⟨g, 0, none⟩), .pointer (some ⟨h, 0, none⟩)] 31 (0, 0))) ∧ Hid (Rw wx S2 bm cb (.cells #[.int .i64 f, .int .i64 2, .int .i64 2, .int .i64 4, .int .i64 64, .int .i64 8, .int .i64 8, .int .i64 8, .int .i64 1, .int .i64 2, .int .i64 12, .int .i64 8, .int .i64 6, .int .i64 2, .int .i64 6] 37 (0, 0))))
      case first =>
        have f_t0 : wz.cell? ⟨h + 1, 0, none⟩ = some (.pointer (some ⟨g, 0, none⟩)) := Ht.out.cell rfl
        have f_t1 : wz.cell? ⟨h + 1, 1, none⟩ = some (.pointer (some ⟨h, 0, none⟩)) := Ht.out.cell rfl
        go_wp2_with fail
        clear f_t0 f_t1
        obtain ⟨bs, hbs⟩ : ∃ bs, envB K1 (repM 0 1 q res) = bs := ⟨_, rfl⟩
        obtain ⟨Kp, hKp⟩ : ∃ K2, sealK K1 (repM 0 1 q res) = K2 := ⟨_, rfl⟩
        obtain ⟨Lp, hLp⟩ : ∃ L2, sealK L (repM 0 1 q res) = L2 := ⟨_, rfl⟩
        have hkl1 := sealK_len K1 (repM 0 1 q res)
        have hkl2 := sealK_len L (repM 0 1 q res)
        refine (cw_reply S5 g bm h K1 L k ct (stdC f) 0 s1 0 1 q res bs wz HT.out ⟨by omega, by omega⟩ (by omega) (by omega) (by rw [env_res (by first | assumption | exact ⟨by omega, by omega⟩) (by exact ⟨by omega, by omega⟩) (by exact ⟨by omega, by omega⟩) (by exact ⟨by omega, by omega⟩) (by omega)]; exact hbs)).mono ?_
        rintro e wb ⟨A_, cp_, Sb, rfl, hT', hS', hF', hbk⟩
        rw [hKp, hLp] at hT'
        rw [hKp] at hkl1
        rw [hLp] at hkl2
        have Hbs := Lib.hid hbk
        have Hb_bs := Lib.hid hbs
        have Hk_bs := Lib.hid hKp
        clear hbk hbs hKp hLp
        replace Ht := Lib.hid (Ht.out.seal hF' hS')
        replace Hc := Lib.hid (Hc.out.seal hF' hS')
        have hzb := HB.out.size
        replace HB := Lib.hid (HB.out.trans ((hF').to_below (B := w.heap.size) hzb (fun k hk hh => by rcases hh with hh | hh; (have := HSn.out k hh; omega); omega)))
        replace HSn : Hid (∀ b, (Sb) b → w.heap.size ≤ b) := Lib.hid fun b hb => by rcases hS' b hb with h1 | h1; exact HSn.out b h1; omega
        clear hzb
        replace HT := Lib.hid hT'
        clear hT' hS' hF'
        go_wp2_with fail
        refine (cw_told Sb g bm h K1 Lp k ct (stdC f) 0 0 1 q res s1 _ wb false (s1) bs Kp Hb_bs.out Hk_bs.out HT.out Hbs.out (by first | assumption | exact ⟨by decide, by decide⟩) ⟨by omega, by show (0 : Int) ≤ 3 * f; omega⟩ ⟨by decide, by show _ < (2 : Int); decide⟩ (by show (2 : Int) ≤ 4; decide) ⟨by omega, by omega⟩ ⟨by omega, by omega⟩ (by omega) (fun _ => Hne.out) (by omega) (by omega) (by omega) (by rw [hears_rep, decide_eq_false (show ¬ ((1 : Int) = 0) by decide), Bool.false_and, Bool.and_false]) (if_neg (by decide)).symm).mono ?_
        rintro e wd ⟨rfl, Sd, hT', hS', hF'⟩
        clear Hbs
        replace Ht := Lib.hid (Ht.out.seal hF' hS')
        replace Hc := Lib.hid (Hc.out.seal hF' hS')
        have hzb := HB.out.size
        replace HB := Lib.hid (HB.out.trans ((hF').to_below (B := w.heap.size) hzb (fun k hk hh => by rcases hh with hh | hh; (have := HSn.out k hh; omega); omega)))
        replace HSn : Hid (∀ b, (Sd) b → w.heap.size ≤ b) := Lib.hid fun b hb => by rcases hS' b hb with h1 | h1; exact HSn.out b h1; omega
        clear hzb
        replace HT := Lib.hid hT'
        clear hT' hS' hF'
        by_cases hq2 : 1 < q
        case neg =>
          have hd3 : decide (1 < q) = false := decide_eq_false hq2
          clear hq2
          have f_t0 : wd.cell? ⟨h + 1, 0, none⟩ = some (.pointer (some ⟨g, 0, none⟩)) := Ht.out.cell rfl
          have f_t1 : wd.cell? ⟨h + 1, 1, none⟩ = some (.pointer (some ⟨h, 0, none⟩)) := Ht.out.cell rfl
          go_wp2_with fail
          clear f_t0 f_t1
          obtain ⟨bsx, hbsx⟩ : ∃ bs, envB Kp (repM 0 0 (q + 1) res) = bs := ⟨_, rfl⟩
          obtain ⟨K4, hK4⟩ : ∃ K2, sealK Kp (repM 0 0 (q + 1) res) = K2 := ⟨_, rfl⟩
          obtain ⟨L4, hL4⟩ : ∃ L2, sealK Lp (repM 0 0 (q + 1) res) = L2 := ⟨_, rfl⟩
          have hkl1 := sealK_len Kp (repM 0 0 (q + 1) res)
          have hkl2 := sealK_len Lp (repM 0 0 (q + 1) res)
          refine (cw_reply Sd g bm h Kp Lp k ct (stdC f) 0 s1 0 0 (q + 1) res bsx wd HT.out ⟨by omega, by omega⟩ (by omega) (by omega) (by rw [env_res (by first | assumption | exact ⟨by omega, by omega⟩) (by exact ⟨by omega, by omega⟩) (by exact ⟨by omega, by omega⟩) (by exact ⟨by omega, by omega⟩) (by omega)]; exact hbsx)).mono ?_
          rintro e xb ⟨A_, cp_, Sxb, rfl, hT', hS', hF', hbk⟩
          rw [hK4, hL4] at hT'
          rw [hK4] at hkl1
          rw [hL4] at hkl2
          have Hbsx := Lib.hid hbk
          have Hb_bsx := Lib.hid hbsx
          have Hk_bsx := Lib.hid hK4
          clear hbk hbsx hK4 hL4
          replace Ht := Lib.hid (Ht.out.seal hF' hS')
          replace Hc := Lib.hid (Hc.out.seal hF' hS')
          have hzb := HB.out.size
          replace HB := Lib.hid (HB.out.trans ((hF').to_below (B := w.heap.size) hzb (fun k hk hh => by rcases hh with hh | hh; (have := HSn.out k hh; omega); omega)))
          replace HSn : Hid (∀ b, (Sxb) b → w.heap.size ≤ b) := Lib.hid fun b hb => by rcases hS' b hb with h1 | h1; exact HSn.out b h1; omega
          clear hzb
          replace HT := Lib.hid hT'
          clear hT' hS' hF'
          go_wp2_with fail
          refine (cw_told Sxb g bm h Kp L4 k ct (stdC f) 0 0 0 (q + 1) res s1 _ xb false (s1) bsx K4 Hb_bsx.out Hk_bsx.out HT.out Hbsx.out (by first | assumption | exact ⟨by decide, by decide⟩) ⟨by omega, by show (0 : Int) ≤ 3 * f; omega⟩ ⟨by decide, by show _ < (2 : Int); decide⟩ (by show (2 : Int) ≤ 4; decide) ⟨by omega, by omega⟩ ⟨by omega, by omega⟩ (by omega) (fun _ => Hne.out) (by omega) (by omega) (by omega) (by rw [hears_rep, Hlast.out, decide_eq_false (show ¬ (q + 1 = q) by omega), Bool.false_and, Bool.and_false, Bool.and_false]) (if_neg (by decide)).symm).mono ?_
          rintro e xd ⟨rfl, Sxd, hT', hS', hF'⟩
          clear Hbsx
          replace Ht := Lib.hid (Ht.out.seal hF' hS')
          replace Hc := Lib.hid (Hc.out.seal hF' hS')
          have hzb := HB.out.size
          replace HB := Lib.hid (HB.out.trans ((hF').to_below (B := w.heap.size) hzb (fun k hk hh => by rcases hh with hh | hh; (have := HSn.out k hh; omega); omega)))
          replace HSn : Hid (∀ b, (Sxd) b → w.heap.size ≤ b) := Lib.hid fun b hb => by rcases hS' b hb with h1 | h1; exact HSn.out b h1; omega
          clear hzb
          replace HT := Lib.hid hT'
          clear hT' hS' hF'
          go_wp2_with fail
          go_meet
          exact ⟨rfl, Sxd, K4, L4, by omega, by omega, HT, HSn, HB, Ht, Hc⟩
        have hd3 : decide (1 < q) = true := decide_eq_true hq2
        have f_t0 : wd.cell? ⟨h + 1, 0, none⟩ = some (.pointer (some ⟨g, 0, none⟩)) := Ht.out.cell rfl
        have f_t1 : wd.cell? ⟨h + 1, 1, none⟩ = some (.pointer (some ⟨h, 0, none⟩)) := Ht.out.cell rfl
        go_wp2_with fail
        clear f_t0 f_t1
        obtain ⟨bsu, hbsu⟩ : ∃ bs, envB Kp (repM 0 0 (q - 1) res) = bs := ⟨_, rfl⟩
        obtain ⟨K3, hK3⟩ : ∃ K2, sealK Kp (repM 0 0 (q - 1) res) = K2 := ⟨_, rfl⟩
        obtain ⟨L3, hL3⟩ : ∃ L2, sealK Lp (repM 0 0 (q - 1) res) = L2 := ⟨_, rfl⟩
        have hkl1 := sealK_len Kp (repM 0 0 (q - 1) res)
        have hkl2 := sealK_len Lp (repM 0 0 (q - 1) res)
        refine (cw_reply Sd g bm h Kp Lp k ct (stdC f) 0 s1 0 0 (q - 1) res bsu wd HT.out ⟨by omega, by omega⟩ (by omega) (by omega) (by rw [env_res (by first | assumption | exact ⟨by omega, by omega⟩) (by exact ⟨by omega, by omega⟩) (by exact ⟨by omega, by omega⟩) (by exact ⟨by omega, by omega⟩) (by omega)]; exact hbsu)).mono ?_
        rintro e ub ⟨A_, cp_, Sub, rfl, hT', hS', hF', hbk⟩
        rw [hK3, hL3] at hT'
        rw [hK3] at hkl1
        rw [hL3] at hkl2
        have Hbsu := Lib.hid hbk
        have Hb_bsu := Lib.hid hbsu
        have Hk_bsu := Lib.hid hK3
        clear hbk hbsu hK3 hL3
        replace Ht := Lib.hid (Ht.out.seal hF' hS')
        replace Hc := Lib.hid (Hc.out.seal hF' hS')
        have hzb := HB.out.size
        replace HB := Lib.hid (HB.out.trans ((hF').to_below (B := w.heap.size) hzb (fun k hk hh => by rcases hh with hh | hh; (have := HSn.out k hh; omega); omega)))
        replace HSn : Hid (∀ b, (Sub) b → w.heap.size ≤ b) := Lib.hid fun b hb => by rcases hS' b hb with h1 | h1; exact HSn.out b h1; omega
        clear hzb
        replace HT := Lib.hid hT'
        clear hT' hS' hF'
        go_wp2_with fail
        refine (cw_told Sub g bm h Kp L3 k ct (stdC f) 0 0 0 (q - 1) res s1 _ ub false (s1) bsu K3 Hb_bsu.out Hk_bsu.out HT.out Hbsu.out (by first | assumption | exact ⟨by decide, by decide⟩) ⟨by omega, by show (0 : Int) ≤ 3 * f; omega⟩ ⟨by decide, by show _ < (2 : Int); decide⟩ (by show (2 : Int) ≤ 4; decide) ⟨by omega, by omega⟩ ⟨by omega, by omega⟩ (by omega) (fun _ => Hne.out) (by omega) (by omega) (by omega) (by rw [hears_rep, Hlast.out, decide_eq_false (show ¬ (q - 1 = q) by omega), Bool.false_and, Bool.and_false, Bool.and_false]) (if_neg (by decide)).symm).mono ?_
        rintro e ud ⟨rfl, Sud, hT', hS', hF'⟩
        clear Hbsu
        replace Ht := Lib.hid (Ht.out.seal hF' hS')
        replace Hc := Lib.hid (Hc.out.seal hF' hS')
        have hzb := HB.out.size
        replace HB := Lib.hid (HB.out.trans ((hF').to_below (B := w.heap.size) hzb (fun k hk hh => by rcases hh with hh | hh; (have := HSn.out k hh; omega); omega)))
        replace HSn : Hid (∀ b, (Sud) b → w.heap.size ≤ b) := Lib.hid fun b hb => by rcases hS' b hb with h1 | h1; exact HSn.out b h1; omega
        clear hzb
        replace HT := Lib.hid hT'
        clear hT' hS' hF'
        have f_t0 : ud.cell? ⟨h + 1, 0, none⟩ = some (.pointer (some ⟨g, 0, none⟩)) := Ht.out.cell rfl
        have f_t1 : ud.cell? ⟨h + 1, 1, none⟩ = some (.pointer (some ⟨h, 0, none⟩)) := Ht.out.cell rfl
        go_wp2_with fail
        clear f_t0 f_t1
        obtain ⟨bsx, hbsx⟩ : ∃ bs, envB K3 (repM 0 0 (q + 1) res) = bs := ⟨_, rfl⟩
        obtain ⟨K4, hK4⟩ : ∃ K2, sealK K3 (repM 0 0 (q + 1) res) = K2 := ⟨_, rfl⟩
        obtain ⟨L4, hL4⟩ : ∃ L2, sealK L3 (repM 0 0 (q + 1) res) = L2 := ⟨_, rfl⟩
        have hkl1 := sealK_len K3 (repM 0 0 (q + 1) res)
        have hkl2 := sealK_len L3 (repM 0 0 (q + 1) res)
        refine (cw_reply Sud g bm h K3 L3 k ct (stdC f) 0 s1 0 0 (q + 1) res bsx ud HT.out ⟨by omega, by omega⟩ (by omega) (by omega) (by rw [env_res (by first | assumption | exact ⟨by omega, by omega⟩) (by exact ⟨by omega, by omega⟩) (by exact ⟨by omega, by omega⟩) (by exact ⟨by omega, by omega⟩) (by omega)]; exact hbsx)).mono ?_
        rintro e xb ⟨A_, cp_, Sxb, rfl, hT', hS', hF', hbk⟩
        rw [hK4, hL4] at hT'
        rw [hK4] at hkl1
        rw [hL4] at hkl2
        have Hbsx := Lib.hid hbk
        have Hb_bsx := Lib.hid hbsx
        have Hk_bsx := Lib.hid hK4
        clear hbk hbsx hK4 hL4
        replace Ht := Lib.hid (Ht.out.seal hF' hS')
        replace Hc := Lib.hid (Hc.out.seal hF' hS')
        have hzb := HB.out.size
        replace HB := Lib.hid (HB.out.trans ((hF').to_below (B := w.heap.size) hzb (fun k hk hh => by rcases hh with hh | hh; (have := HSn.out k hh; omega); omega)))
        replace HSn : Hid (∀ b, (Sxb) b → w.heap.size ≤ b) := Lib.hid fun b hb => by rcases hS' b hb with h1 | h1; exact HSn.out b h1; omega
        clear hzb
        replace HT := Lib.hid hT'
        clear hT' hS' hF'
        go_wp2_with fail
        refine (cw_told Sxb g bm h K3 L4 k ct (stdC f) 0 0 0 (q + 1) res s1 _ xb false (s1) bsx K4 Hb_bsx.out Hk_bsx.out HT.out Hbsx.out (by first | assumption | exact ⟨by decide, by decide⟩) ⟨by omega, by show (0 : Int) ≤ 3 * f; omega⟩ ⟨by decide, by show _ < (2 : Int); decide⟩ (by show (2 : Int) ≤ 4; decide) ⟨by omega, by omega⟩ ⟨by omega, by omega⟩ (by omega) (fun _ => Hne.out) (by omega) (by omega) (by omega) (by rw [hears_rep, Hlast.out, decide_eq_false (show ¬ (q + 1 = q) by omega), Bool.false_and, Bool.and_false, Bool.and_false]) (if_neg (by decide)).symm).mono ?_
        rintro e xd ⟨rfl, Sxd, hT', hS', hF'⟩
        clear Hbsx
        replace Ht := Lib.hid (Ht.out.seal hF' hS')
        replace Hc := Lib.hid (Hc.out.seal hF' hS')
        have hzb := HB.out.size
        replace HB := Lib.hid (HB.out.trans ((hF').to_below (B := w.heap.size) hzb (fun k hk hh => by rcases hh with hh | hh; (have := HSn.out k hh; omega); omega)))
        replace HSn : Hid (∀ b, (Sxd) b → w.heap.size ≤ b) := Lib.hid fun b hb => by rcases hS' b hb with h1 | h1; exact HSn.out b h1; omega
        clear hzb
        replace HT := Lib.hid hT'
        clear hT' hS' hF'
        go_wp2_with fail
        go_meet
        exact ⟨rfl, Sxd, K4, L4, by omega, by omega, HT, HSn, HB, Ht, Hc⟩
      case rest =>
        clear HT HSn HB Ht Hc
        obtain ⟨rfl, S2, K2, L2, hK2, hL2, HT, HSn, HB, Ht, Hc⟩ := hcut
        go_wp2_with fail
        go_loopw [15] (fun i2 wr2 => ∃ (m : Nat) (S3 : Nat → Prop) (K3 L3 : List Key) (s3 : CS), i2 = .int .i64 (m : Int) ∧ (m : Int) ≤ f + 1 ∧ K3.length ≤ K.length + 5 + m ∧ L3.length ≤ L.length + 3 + m ∧ s3.ans.length ≤ m ∧ s3.out.length ≤ 20 * j + 13 ∧ Hid (Wk2 s3 s.issued ⟨0, q, kk, y, v, sN⟩ s.acc f 0 (res + q) m) ∧ Hid (Cw wr2 S3 g bm h K3 L3 k ct (stdC f) 0 s3) ∧ Hid (∀ b, S3 b → w.heap.size ≤ b) ∧ Hid (Below w.heap.size w wr2) ∧ Hid (Rw wr2 S3 bm (h + 1) (.cells #[.pointer (some ⟨g, 0, none⟩), .pointer (some ⟨h, 0, none⟩)] 31 (0, 0))) ∧ Hid (Rw wr2 S3 bm cb (.cells #[.int .i64 f, .int .i64 2, .int .i64 2, .int .i64 4, .int .i64 64, .int .i64 8, .int .i64 8, .int .i64 8, .int .i64 1, .int .i64 2, .int .i64 12, .int .i64 8, .int .i64 6, .int .i64 2, .int .i64 6] 37 (0, 0)))) (fun i2 _ => 6 - (intOf i2).toNat)
        case atStart => exact ⟨0, S2, K2, L2, s1, rfl, by omega, by omega, by omega, by omega, hol1, HW2, HT, HSn, HB, Ht, Hc⟩
        case round =>
          clear HT HSn HB Ht Hc HW2 hK2 hL2 hal1 hol1 hacl hil Hne Hlast hw1 hw2 hkl0
          obtain ⟨m, S3, K3, L3, s3, rfl, hm, hKl, hLl, hal, hol3, HW, HT, HSn, HB, Ht, Hc⟩ := hrel
          by_cases hlt : (m : Int) ≤ f
          case pos =>
            have hd4 : decide ((m : Int) ≤ f) = true := decide_eq_true hlt
            have hwrs : IntKind.i64.wrap (res + q) = res + q := IntWalk.i64_in _ (by omega)
            have hne : s3.issued ≠ [] := by rw [HW.out.is]; simp
            have hil : s3.issued.length ≤ 21 := by rw [HW.out.is, List.length_append, List.length_singleton]; omega
            have hacl : s3.acc.length ≤ 21 := by
              rw [HW.out.ac, if_pos hlt, HO.out.la]; omega
            have hhe : (s3.waits && s3.hears 0 (repM (m : Int) 0 q (res + q))) = true := by have h_ := HW.out.hears (id := 0) hlt; rw [Int.zero_add] at h_; exact h_
            have hst : Wk2 (s3.heard (stdC f) (repM (m : Int) 0 q (res + q))) s.issued ⟨0, q, kk, y, v, sN⟩ s.acc f 0 (res + q) (m + 1) := by have h_ := HW.out.step (id := 0) (c := stdC f) hf rfl hlt; rw [Int.zero_add] at h_; exact h_
            have hha := heard_ans (s := s3) (c := stdC f) (m := repM (m : Int) 0 q (res + q))
            obtain ⟨s4, hs4⟩ : ∃ s4, s3.heard (stdC f) (repM (m : Int) 0 q (res + q)) = s4 := ⟨_, rfl⟩
            rw [hs4] at hst hha
            have Hs4 := Lib.hid hs4
            have Hne := Lib.hid hne
            have Hhe := Lib.hid hhe
            have Hst := Lib.hid hst
            obtain ⟨ha1, _, _, ha4⟩ := hha
            have hal4 : s4.ans.length ≤ m + 1 := by omega
            have hol4 : s4.out.length ≤ 20 * j + 13 := by rw [ha4]; omega
            clear hs4 hne hhe hst ha1 ha4
            have f_t0 : wr.cell? ⟨h + 1, 0, none⟩ = some (.pointer (some ⟨g, 0, none⟩)) := Ht.out.cell rfl
            have f_t1 : wr.cell? ⟨h + 1, 1, none⟩ = some (.pointer (some ⟨h, 0, none⟩)) := Ht.out.cell rfl
            have f_c0 : wr.cell? ⟨cb, 0, none⟩ = some (.int .i64 f) := Hc.out.cell rfl
            go_wp2_with fail
            clear f_t0 f_t1 f_c0
            obtain ⟨bs, hbs⟩ : ∃ bs, envB K3 (repM (m : Int) 0 q (res + q)) = bs := ⟨_, rfl⟩
            obtain ⟨K4, hK4⟩ : ∃ K2, sealK K3 (repM (m : Int) 0 q (res + q)) = K2 := ⟨_, rfl⟩
            obtain ⟨L4, hL4⟩ : ∃ L2, sealK L3 (repM (m : Int) 0 q (res + q)) = L2 := ⟨_, rfl⟩
            have hkl1 := sealK_len K3 (repM (m : Int) 0 q (res + q))
            have hkl2 := sealK_len L3 (repM (m : Int) 0 q (res + q))
            refine (cw_reply S3 g bm h K3 L3 k ct (stdC f) 0 s3 (m : Int) 0 q (res + q) bs wr HT.out ⟨by omega, by omega⟩ (by omega) (by omega) (by rw [env_res (by first | assumption | exact ⟨by omega, by omega⟩) (by exact ⟨by omega, by omega⟩) (by exact ⟨by omega, by omega⟩) (by exact ⟨by omega, by omega⟩) (by omega)]; exact hbs)).mono ?_
            rintro e wb ⟨A_, cp_, Sb, rfl, hT', hS', hF', hbk⟩
            rw [hK4, hL4] at hT'
            rw [hK4] at hkl1
            rw [hL4] at hkl2
            have Hbs := Lib.hid hbk
            have Hb_bs := Lib.hid hbs
            have Hk_bs := Lib.hid hK4
            clear hbk hbs hK4 hL4
            replace Ht := Lib.hid (Ht.out.seal hF' hS')
            replace Hc := Lib.hid (Hc.out.seal hF' hS')
            have hzb := HB.out.size
            replace HB := Lib.hid (HB.out.trans ((hF').to_below (B := w.heap.size) hzb (fun k hk hh => by rcases hh with hh | hh; (have := HSn.out k hh; omega); omega)))
            replace HSn : Hid (∀ b, (Sb) b → w.heap.size ≤ b) := Lib.hid fun b hb => by rcases hS' b hb with h1 | h1; exact HSn.out b h1; omega
            clear hzb
            replace HT := Lib.hid hT'
            clear hT' hS' hF'
            go_wp2_with fail
            refine (cw_told Sb g bm h K3 L4 k ct (stdC f) 0 (m : Int) 0 q (res + q) s3 _ wb true (s4) bs K4 Hb_bs.out Hk_bs.out HT.out Hbs.out (by first | assumption | exact ⟨by decide, by decide⟩) ⟨by omega, by show (m : Int) ≤ 3 * f; omega⟩ ⟨by decide, by show _ < (2 : Int); decide⟩ (by show (2 : Int) ≤ 4; decide) ⟨by omega, by omega⟩ ⟨by omega, by omega⟩ (by omega) (fun _ => Hne.out) (by omega) (by omega) (by omega) Hhe.out (by rw [if_pos rfl]; exact Hs4.out.symm)).mono ?_
            rintro e wd ⟨rfl, Sd, hT', hS', hF'⟩
            clear Hbs
            replace Ht := Lib.hid (Ht.out.seal hF' hS')
            replace Hc := Lib.hid (Hc.out.seal hF' hS')
            have hzb := HB.out.size
            replace HB := Lib.hid (HB.out.trans ((hF').to_below (B := w.heap.size) hzb (fun k hk hh => by rcases hh with hh | hh; (have := HSn.out k hh; omega); omega)))
            replace HSn : Hid (∀ b, (Sd) b → w.heap.size ≤ b) := Lib.hid fun b hb => by rcases hS' b hb with h1 | h1; exact HSn.out b h1; omega
            clear hzb
            replace HT := Lib.hid hT'
            clear hT' hS' hF'
            go_wp2_with fail
            refine ⟨⟨m + 1, Sd, K4, L4, s4, by go_num, by omega, by omega, by omega, hal4, hol4, Hst, HT, HSn, HB, Ht, Hc⟩, ?_⟩
            simp [intOf]; omega
          have hd4 : decide ((m : Int) ≤ f) = false := decide_eq_false hlt
          have hod : Od s3 (n + 1) res := by
            have hmf : m = f.toNat + 1 := by omega
            have h_ := HW.out
            rw [hmf, ← HQ.out] at h_
            exact HO.out.next (is0 := []) h_ hf.1 (by rw [HQ.out])
          have Hod := Lib.hid hod
          clear hod
          have f_c0 : wr.cell? ⟨cb, 0, none⟩ = some (.int .i64 f) := Hc.out.cell rfl
          go_wp2_with fail
          clear f_c0
          refine ⟨⟨j + 1, n + 1, S3, K3, L3, s3, by rw [← HQ.out]; simp, by go_num, by omega, by omega, by omega, by omega, by omega, by omega, Hod, HT, HSn, HB, Ht, Hc⟩, ?_⟩
          simp [intOf]; omega
  case rest =>
    clear HT HSn HB Ht Hc HO0
    obtain ⟨n, S', K, L, s, rfl, hn20, hKl, hLl, HO, HT, HSn, HB, Ht⟩ := hcut
    go_wp2_with fail
    refine (Cw.ask HT.out fun U hU => accepted_m U k ct g (stdC f) 0 s wc hU (by rw [HO.out.la]; omega)).mono ?_
    rintro e w5 ⟨A_, c_, rfl, hown, hbq⟩
    obtain ⟨len, hlen⟩ : ∃ len, s.acc.length = len := ⟨_, rfl⟩
    have Hown := Lib.hid hown
    rw [hlen] at ⊢
    have Hlen := Lib.hid hlen
    have hlenn : len = n := by rw [← hlen]; exact HO.out.la
    subst hlenn
    clear hown hlen
    replace Ht := Lib.hid (Ht.out.below hbq)
    replace HT := Lib.hid (HT.out.below hbq)
    replace HB := Lib.hid (Below.then HB.out hbq HB.out.size)
    clear hbq
    go_upto_region 29 with fail
    go_loopw [145] (fun ix wr => ∃ i : Nat, ix = .int .i64 (i : Int) ∧ i ≤ len ∧ Hid (Below w5.heap.size w5 wr)) (fun ix _ => len - (intOf ix).toNat)
    case atStart => exact ⟨0, rfl, Nat.zero_le _, Lib.hid (Below.refl _ _)⟩
    case round =>
      obtain ⟨i, rfl, hi, HBr⟩ := hrel
      by_cases hlt : i < len
      case pos =>
        have hd1 : decide ((i : Int) < (len : Int)) = true := by simp; omega
        have hx0 : i < s.acc.length := by rw [Hlen.out]; exact hlt
        obtain ⟨A', c', e_, hcap, _, hxl⟩ := own_slice Hown.out
        obtain ⟨b0, rfl, _, hb0, hli⟩ := hxl (by omega)
        injection e_ with e1 _ e3
        subst e1 e3
        have hli' : Lies w5 b0 0 (s.acc.flatMap eq7) := hli
        obtain ⟨⟨r_, x_⟩, hr_⟩ : ∃ p_, s.acc[i] = p_ := ⟨_, rfl⟩
        have hac := HO.out.ac i _ (List.getElem?_eq_getElem hx0)
        have hq1 := ents_at hli' hx0 1 (v := .int .i64 ((i : Int) + 1)) (by rw [← hac.1]; rfl)
        have hq6 := ents_at hli' hx0 6 (v := .int .i64 (res + (i : Int) + 1)) (by rw [← hac.2]; rfl)
        have f1 : wr.cell? ⟨b0, i * 7 + 1, none⟩ = some (.int .i64 ((i : Int) + 1)) := (World.cell?_of_block (a := ⟨b0, i * 7 + 1, none⟩) (HBr.out.block b0 hb0)).trans hq1
        have f6 : wr.cell? ⟨b0, i * 7 + 6, none⟩ = some (.int .i64 (res + (i : Int) + 1)) := (World.cell?_of_block (a := ⟨b0, i * 7 + 6, none⟩) (HBr.out.block b0 hb0)).trans hq6
        have hw1 : IntKind.i64.wrap ((i : Int) + 1) = (i : Int) + 1 := IntWalk.i64_in _ (by omega)
        have hw2 : IntKind.i64.wrap (res + (i : Int)) = res + (i : Int) := IntWalk.i64_in _ (by omega)
        have hw3 : IntKind.i64.wrap (res + (i : Int) + 1) = res + (i : Int) + 1 := IntWalk.i64_in _ (by omega)
        have k0 : (0 : Int) ≤ (i : Int) := by omega
        have k1 : (i : Int) < (len : Int) := by omega
        clear hxl hli hli' hr_ hac hq1 hq6
        go_wp2_with fail
        refine ⟨⟨i + 1, by go_num, by omega, HBr⟩, ?_⟩
        simp [intOf]; omega
      case neg =>
        have hd1 : decide ((i : Int) < (len : Int)) = false := by simp; omega
        have hbq := HBr.out
        clear Hown
        replace Ht := Lib.hid (Ht.out.below hbq)
        replace HT := Lib.hid (HT.out.below hbq)
        replace HB := Lib.hid (Below.then HB.out hbq HB.out.size)
        clear hbq
        go_wp2_with fail
        refine (Cw.ask HT.out fun U hU => issued_m U k ct g (stdC f) 0 s wr hU (by rw [HO.out.ln]; omega)).mono ?_
        rintro e w6 ⟨A2_, c2_, rfl, hown, hbq⟩
        rw [HO.out.ln]
        clear hown
        replace Ht := Lib.hid (Ht.out.below hbq)
        replace HT := Lib.hid (HT.out.below hbq)
        replace HB := Lib.hid (Below.then HB.out hbq HB.out.size)
        clear hbq
        go_wp2_with (go_at_call 17; refine (wakes22 _).mono ?_; rintro e wk ⟨rfl, hbk⟩)
        go_ret
        exact ⟨rfl, Below.then HB.out hbk HB.out.size⟩
end Go.Proofs.YtipmjleohadoeaaGreat.clientOrder
