/- The walk of ClientSplit. Printed by gen_wsplit.py. -/
import Derived.Test.YtipmjleohadoeaaGreatArrCsp
import Derived.Test.YtipmjleohadoeaaGreatWtCsp
import Derived.Test.YtipmjleohadoeaaGreatWk22Csp
import Derived.Test.YtipmjleohadoeaaGreatQbCsp
import Derived.Deep.CutBlock
namespace Go.Proofs.YtipmjleohadoeaaGreat.clientSplit
open Go.RowKit
set_option linter.unusedVariables false
set_option linter.unusedSimpArgs false

set_option maxRecDepth 100000 in
set_option maxHeartbeats 16000000 in
theorem walk (f0 : Int) (v1 : Value) (l1 : List Int) (v2 : Value) (l2 : List Int) (w : World) (hf0 : isI64 f0) (hr1 : Rd w w.heap.size 1 v1 l1.length (l1.flatMap fun n => [iv n])) (hl1 : ∀ n ∈ l1, isI64 n) (hr2 : Rd w w.heap.size 1 v2 l2.length (l2.flatMap fun n => [iv n])) (hl2 : ∀ n ∈ l2, isI64 n) :
    Calls Tryz.prog 3 #[.int .i64 f0, v1, v2] w fun e w' => e = .returned (.bool true) ∧ Below w.heap.size w w' := by
  rw [flat_one] at hr1 hr2
  have fw0 := Psp.within_lo f0 4
  have fw1 := Psp.within_hi f0 4 (by omega)
  have hwf : IntKind.i64.wrap (1 + Psp.within f0 4) = 1 + Psp.within f0 4 := IntWalk.i64_in _ (by omega)
  obtain ⟨hrl1, A1, cp1, rfl, hc11, hc12, hcell1⟩ := hr1
  obtain ⟨len1, hlen1⟩ : ∃ len, l1.length = len := ⟨_, rfl⟩
  rw [hlen1] at hcell1 hc11 ⊢
  unfold maxLen at hc12
  have Hlen1 := Lib.hid hlen1
  have Hl1 := Lib.hid hl1
  have Hcell1 := Lib.hid hcell1
  clear hlen1 hl1 hrl1 hcell1
  obtain ⟨hrl2, A2, cp2, rfl, hc21, hc22, hcell2⟩ := hr2
  obtain ⟨len2, hlen2⟩ : ∃ len, l2.length = len := ⟨_, rfl⟩
  rw [hlen2] at hcell2 hc21 ⊢
  unfold maxLen at hc22
  have Hlen2 := Lib.hid hlen2
  have Hl2 := Lib.hid hl2
  have Hcell2 := Lib.hid hcell2
  clear hlen2 hl2 hrl2 hcell2
  go_enter Tryz.func3, Tryz.ntmps3
  go_upto_region 2 with (go_at_call 8; refine (within_i _ _ _ (by first | assumption | exact ⟨by omega, by omega⟩) (by exact ⟨by omega, by omega⟩)).mono ?_; rintro e w' ⟨rfl, rfl⟩)
  clear hwf
  obtain ⟨f, hfx⟩ : ∃ f, 1 + Psp.within f0 4 = f := ⟨_, rfl⟩
  rw [hfx]
  have hf : 1 ≤ f ∧ f ≤ 4 := ⟨by omega, by omega⟩
  have hfs : 1 ≤ (stdC f).f ∧ (stdC f).f ≤ 4 := hf
  clear hfx fw0 fw1
  go_wp2_with fail
  refine (nt_new w).mono ?_
  rintro e w1 ⟨g, bm, rfl, hN, hb1, hg1, hg2⟩
  have hz1 := hb1.size
  have hgl := hN.lt
  go_upto_region 3 with fail
  have hba := alloc_below w1 (.cells #[.slice none 0 0, .slice none 0 0] 29)
  have hca := heap_alloc_new w1 (.cells #[.slice none 0 0, .slice none 0 0] 29)
  have hsa : (w1.alloc (.cells #[.slice none 0 0, .slice none 0 0] 29)).heap.size = w1.heap.size + 1 := by simp
  obtain ⟨h, hh⟩ : ∃ h, w1.heap.size = h := ⟨_, rfl⟩
  have hbb := alloc_below (w1.alloc (.cells #[.slice none 0 0, .slice none 0 0] 29)) (.cells #[.pointer (some ⟨g, 0, none⟩), .pointer (some ⟨w1.heap.size, 0, none⟩)] 31)
  have hcb := heap_alloc_new (w1.alloc (.cells #[.slice none 0 0, .slice none 0 0] 29)) (.cells #[.pointer (some ⟨g, 0, none⟩), .pointer (some ⟨w1.heap.size, 0, none⟩)] 31)
  rw [hsa] at hcb
  have hsb : ((w1.alloc (.cells #[.slice none 0 0, .slice none 0 0] 29)).alloc (.cells #[.pointer (some ⟨g, 0, none⟩), .pointer (some ⟨w1.heap.size, 0, none⟩)] 31)).heap.size = w1.heap.size + 2 := by simp
  have hnb := (hbb.block w1.heap.size (by omega)).trans hca
  obtain ⟨w2, hw2⟩ : ∃ w2, (w1.alloc (.cells #[.slice none 0 0, .slice none 0 0] 29)).alloc (.cells #[.pointer (some ⟨g, 0, none⟩), .pointer (some ⟨w1.heap.size, 0, none⟩)] 31) = w2 := ⟨_, rfl⟩
  rw [hw2] at hbb hcb hsb hnb ⊢
  rw [hh] at hnb hcb ⊢
  have hb2 : Below w1.heap.size w1 w2 := hba.trans (hbb.mono (by omega))
  have hTv : Tv w2 (fun b => b = h) g bm h [] [] := ⟨hN.below hb2, ⟨_, _, hnb, ⟨rfl, Or.inl ⟨rfl, rfl⟩⟩, ⟨rfl, Or.inl ⟨rfl, rfl⟩⟩, rfl, fun b hb => (by cases hb), fun b hb => (by cases hb)⟩, ⟨by omega, by omega⟩, fun b hb => by omega, rfl⟩
  have HTv := Lib.hid hTv
  have HB2 := Lib.hid (Below.then hb1 hb2 hb1.size)
  have HCB := Lib.hid hcb
  have hh1 : h < w2.heap.size := by omega
  have hh2 : h + 1 < w2.heap.size := by omega
  have hwh : w.heap.size ≤ h := by omega
  have hgh : g < h := by omega
  have hbh : bm < h := by omega
  have f0 : w2.cell? ⟨h + 1, 0, none⟩ = some (.pointer (some ⟨g, 0, none⟩)) := rowc hcb 0 rfl
  clear hN hb1 hba hca hsa hbb hcb hsb hnb hw2 hb2 hTv hh
  go_upto_region 5 with fail
  clear f0
  have l0 := later_cell (w := w2.drew) (show w2.drew.cell? ⟨h + 1, 0, none⟩ = some (.pointer (some ⟨g, 0, none⟩)) from rowc HCB.out 0 rfl)
  refine wp_region_phases [(true, 0), (true, 2), (true, 3), (false, 1), (false, 4), (true, 5), (true, 6), (true, 7), (true, 8), (true, 9)] (by kernel_rfl) (by kernel_rfl) ?_
  simp only [phW, List.getElem?_cons_zero, List.getElem?_cons_succ, Option.toList, List.length_cons, List.length_nil, Nat.reduceAdd, List.drop_succ_cons, List.drop_zero]
  repeat (first | go_big_quiet_step (fail) | quiet_step (fail) | refine wpQuiet_nil ?_)
  clear l0
  go_wp2_with fail
  refine (std_any f w2.drew).mono ?_
  rintro e w3 ⟨rfl, hb3⟩
  have hb23 : Below w2.heap.size w2 w3 := (Below.refl _ _).drew.trans hb3
  have HB23 := Lib.hid hb23
  have HBd := Lib.hid hb3
  have hz3 := hb23.size
  clear hb3 hb23
  go_wp2_with fail
  refine And.intro ⟨⟨w3, HBd.out⟩, rfl⟩ ?_
  go_wp2_with fail
  refine (new_yes (stdC f) 0 g w3 (std_ok (by first | assumption | exact ⟨by omega, by omega⟩)) ⟨by decide, by show (0 : Int) < 2; decide⟩).mono ?_
  rintro e w4 ⟨k, ct, rfl, hcl, hb4, hk4, hct4⟩
  have hz4 := hb4.size
  have HT : Hid (Cw w4 (fun b => b = h ∨ (b = k ∨ b = ct)) g bm h [] [] k ct (stdC f) 0 cs0) := Lib.hid (Cw.start ((HTv.out.below HB23.out).below hb4) hcl fun b hb => by rcases hb with hb | hb <;> (subst hb; exact ⟨by omega, by omega, by omega⟩))
  have Ht : Hid (Rw w4 (fun b => b = h ∨ (b = k ∨ b = ct)) bm (h + 1) (.cells #[.pointer (some ⟨g, 0, none⟩), .pointer (some ⟨h, 0, none⟩)] 31 (0, 0))) := Lib.hid ⟨(hb4.block _ (by omega)).trans ((HB23.out.block _ hh2).trans HCB.out), by omega, by rintro (hh | hh | hh) <;> omega, by omega⟩
  have HB : Hid (Below w.heap.size w w4) := Lib.hid (Below.then (Below.then HB2.out HB23.out HB2.out.size) hb4 (Below.then HB2.out HB23.out HB2.out.size).size)
  have HSn : Hid (∀ b, (b = h ∨ (b = k ∨ b = ct)) → w.heap.size ≤ b) := Lib.hid fun b hb => by rcases hb with hb | hb | hb <;> omega
  have HLF := Lib.hid (Below.then HBd.out hb4 HBd.out.size)
  clear hb4 hcl HTv HCB
  go_wp2_with fail
  refine And.intro ⟨⟨w4, HLF.out⟩, rfl⟩ ?_
  repeat (first | go_big_quiet_step (fail) | quiet_step (fail) | refine wpQuiet_nil ?_)
  clear HB2 HB23 HBd HLF hz3 hz4 hz1
  go_wp2_with fail
  obtain ⟨r, hr⟩ : ∃ r : Psp.Req, r = { bareQ 0 cs0 5 0 0 with s := sealN [] (kR (bareQ 0 cs0 5 0 0)) } := ⟨_, rfl⟩
  obtain ⟨P_, hP_⟩ : ∃ P_, sendS (stdC f) 0 (sealL [] (kR (bareQ 0 cs0 5 0 0))) { cs0 with issued := cs0.issued ++ [r], waits := true, at_ := cs0.now, ans := [] } = P_ := ⟨_, rfl⟩
  obtain ⟨s1, K1⟩ := P_
  have hfa := issue_facts (c := stdC f) (by first | assumption | exact ⟨by decide, by decide⟩) hP_
  refine (cw_issue (fun b => b = h ∨ (b = k ∨ b = ct)) g bm h [] [] k ct (stdC f) 0 cs0 5 0 0 r s1 K1 w4 HT.out (by first | assumption | exact ⟨by decide, by decide⟩) (by show (2 : Int) ≤ 4; decide) ⟨by decide, by decide⟩ rfl (by decide) (by decide) (by decide) (by show Psp.valid (bareQ 0 cs0 5 0 0) 2 = true; decide) hr hP_).mono ?_
  rintro e w5 ⟨rfl, S5, hT', hS', hF'⟩
  have HFa := Lib.hid hfa
  have Hr_ := Lib.hid hr
  clear hP_ hfa hr
  replace Ht := Lib.hid (Ht.out.seal hF' hS')
  have hzb := HB.out.size
  replace HB := Lib.hid (HB.out.trans ((hF').to_below (B := w.heap.size) hzb (fun k hk hh => by rcases hh with hh | hh; (have := HSn.out k hh; omega); omega)))
  replace HSn : Hid (∀ b, (S5) b → w.heap.size ≤ b) := Lib.hid fun b hb => by rcases hS' b hb with h1 | h1; exact HSn.out b h1; omega
  clear hzb
  replace HT := Lib.hid hT'
  clear hT' hS' hF'
  obtain ⟨sN, hsN⟩ : ∃ sN, r = ⟨0, 1, 5, 0, 0, sN⟩ := ⟨_, Hr_.out⟩
  clear Hr_
  subst hsN
  go_upto_region 9 with fail
  have hba := alloc_below w5 (.cells #[.int .i64 0, .int .i64 1, .int .i64 5, .int .i64 0, .int .i64 0, .int .i64 sN] 42)
  have hra : Rw (w5.alloc (.cells #[.int .i64 0, .int .i64 1, .int .i64 5, .int .i64 0, .int .i64 0, .int .i64 sN] 42)) S5 bm w5.heap.size (.cells #[.int .i64 0, .int .i64 1, .int .i64 5, .int .i64 0, .int .i64 0, .int .i64 sN] 42 (0, 0)) := Rw.new (.cells #[.int .i64 0, .int .i64 1, .int .i64 5, .int .i64 0, .int .i64 0, .int .i64 sN] 42) HT.out.lt HT.out.nt.lt.2
  have hsa : (w5.alloc (.cells #[.int .i64 0, .int .i64 1, .int .i64 5, .int .i64 0, .int .i64 0, .int .i64 sN] 42)).heap.size = w5.heap.size + 1 := by simp
  obtain ⟨w6, hWa⟩ : ∃ W_, w5.alloc (.cells #[.int .i64 0, .int .i64 1, .int .i64 5, .int .i64 0, .int .i64 0, .int .i64 sN] 42) = W_ := ⟨_, rfl⟩
  rw [hWa] at hba hra hsa ⊢
  have Hs_w6 := Lib.hid hsa
  have Hb_w6 := Lib.hid hba
  have Hr := Lib.hid hra
  clear hWa hra hsa
  replace Ht := Lib.hid (Ht.out.below hba)
  replace HT := Lib.hid (HT.out.below hba)
  replace HB := Lib.hid (Below.then HB.out hba HB.out.size)
  clear hba
  clear Hr
  go_upto_region 12 with fail
  have HT_ := HT.out
  have Ht_ := Ht.out
  have HB_ := HB.out
  have hba := alloc_below w6 (.cells #[.bool false, .bool false, .bool false, .bool false, .bool false, .bool false, .bool false, .bool false, .bool false, .bool false, .bool false, .bool false, .bool false] 45)
  have hra : Rw (w6.alloc (.cells #[.bool false, .bool false, .bool false, .bool false, .bool false, .bool false, .bool false, .bool false, .bool false, .bool false, .bool false, .bool false, .bool false] 45)) S5 bm w6.heap.size (.cells #[.bool false, .bool false, .bool false, .bool false, .bool false, .bool false, .bool false, .bool false, .bool false, .bool false, .bool false, .bool false, .bool false] 45 (0, 0)) := Rw.new (.cells #[.bool false, .bool false, .bool false, .bool false, .bool false, .bool false, .bool false, .bool false, .bool false, .bool false, .bool false, .bool false, .bool false] 45) HT.out.lt HT.out.nt.lt.2
  have hsa : (w6.alloc (.cells #[.bool false, .bool false, .bool false, .bool false, .bool false, .bool false, .bool false, .bool false, .bool false, .bool false, .bool false, .bool false, .bool false] 45)).heap.size = w6.heap.size + 1 := by simp
  obtain ⟨w7, hWa⟩ : ∃ W_, w6.alloc (.cells #[.bool false, .bool false, .bool false, .bool false, .bool false, .bool false, .bool false, .bool false, .bool false, .bool false, .bool false, .bool false, .bool false] 45) = W_ := ⟨_, rfl⟩
  rw [hWa] at hba hra hsa ⊢
  have Hs_w7 := Lib.hid hsa
  have Hb_w7 := Lib.hid hba
  have Ha := Lib.hid hra
  clear hWa hra hsa
  replace Ht := Lib.hid (Ht.out.below hba)
  replace HT := Lib.hid (HT.out.below hba)
  replace HB := Lib.hid (Below.then HB.out hba HB.out.size)
  clear hba
  have hga : g < w6.heap.size := HT_.nt.lt.1
  have hba_ : bm < w6.heap.size := HT_.nt.lt.2
  have hta : h + 1 < w6.heap.size := Ht_.lt
  have hwa : w.heap.size ≤ w6.heap.size := HB_.size
  have hs7 := Hs_w7.out
  clear HT_ Ht_ HB_
  go_upto_region 13 with fail
  have hba := alloc_below w7 (.cells #[.int .i64 0, .int .i64 0, .int .i64 0] 46)
  have hra : Rw (w7.alloc (.cells #[.int .i64 0, .int .i64 0, .int .i64 0] 46)) S5 bm w7.heap.size (.cells #[.int .i64 0, .int .i64 0, .int .i64 0] 46 (0, 0)) := Rw.new (.cells #[.int .i64 0, .int .i64 0, .int .i64 0] 46) HT.out.lt HT.out.nt.lt.2
  have hsa : (w7.alloc (.cells #[.int .i64 0, .int .i64 0, .int .i64 0] 46)).heap.size = w7.heap.size + 1 := by simp
  obtain ⟨w8, hWa⟩ : ∃ W_, w7.alloc (.cells #[.int .i64 0, .int .i64 0, .int .i64 0] 46) = W_ := ⟨_, rfl⟩
  rw [hWa] at hba hra hsa ⊢
  have Hs_w8 := Lib.hid hsa
  have Hb_w8 := Lib.hid hba
  have Hv := Lib.hid hra
  clear hWa hra hsa
  replace Ht := Lib.hid (Ht.out.below hba)
  replace Ha := Lib.hid (Ha.out.below hba)
  replace HT := Lib.hid (HT.out.below hba)
  replace HB := Lib.hid (Below.then HB.out hba HB.out.size)
  clear hba
  obtain ⟨a, ha⟩ : ∃ a, w6.heap.size = a := ⟨_, rfl⟩
  rw [hs7, ha] at Hv
  rw [ha] at Ha hga hba_ hta hwa
  rw [ha]
  clear ha hs7 Hs_w7 Hb_w7
  obtain ⟨hw1, hi1, ha1, hc1, ho1, hk1, _, _⟩ := HFa.out
  have HW0 : Hid (Sl2 s1 ⟨0, 1, 5, 0, 0, sN⟩ f (List.replicate 13 false) (List.replicate 3 0) false 0) := Lib.hid ⟨hw1, hi1, rfl, rfl, fun n hn => by rw [ha1, List.getElem?_replicate, if_pos hn]; rfl, fun n hn => by rw [ha1, List.getElem?_replicate, if_pos hn]; rfl, fun _ => ⟨hc1, fun n hn => by rw [ha1]; show (0 : Int) ≤ f; omega⟩, fun h_ => (by cases h_)⟩
  replace Ha : Hid (Rw w8 S5 bm a (.cells (arB (List.replicate 13 false)) 45 (0, 0))) := Lib.hid Ha.out
  replace Hv : Hid (Rw w8 S5 bm (a + 1) (.cells (arI (List.replicate 3 0)) 46 (0, 0))) := Lib.hid Hv.out
  have hal0 : s1.ans.length ≤ 0 := by rw [ha1]; exact Nat.le_refl _
  have hkl0 : K1.length ≤ 2 := hk1
  clear hw1 hi1 ha1 hc1 ho1 hk1 HFa
  go_upto_block 0 with fail
  go_cut [14, 15, 16, 17, 18, 19] from 53 to 111 (fun d_ o_ i_ n_ v_ x_ wx => ∃ (S' : Nat → Prop) (K L : List Key) (s : CS) (has : List Bool) (vo : List Int) (done : Bool) (won : Int), d_ = .bool done ∧ o_ = .int .i64 won ∧ K.length ≤ 42 ∧ L.length ≤ 40 ∧ s.ans.length ≤ 40 ∧ Hid (Sl2 s ⟨0, 1, 5, 0, 0, sN⟩ f has vo done won) ∧ Hid (Cw wx S' g bm h K L k ct (stdC f) 0 s) ∧ Hid (∀ b, S' b → w.heap.size ≤ b) ∧ Hid (Below w.heap.size w wx) ∧ Hid (Rw wx S' bm (h + 1) (.cells #[.pointer (some ⟨g, 0, none⟩), .pointer (some ⟨h, 0, none⟩)] 31 (0, 0))))
  case first =>
    go_wp2_with fail
    go_loopw [14, 15, 16] (fun d_ o_ i wr => ∃ (j : Nat) (S' : Nat → Prop) (K L : List Key) (s : CS) (has : List Bool) (vo : List Int) (done : Bool) (won : Int), d_ = .bool done ∧ o_ = .int .i64 won ∧ i = .int .i64 (j : Int) ∧ j ≤ 40 ∧ j ≤ len1 ∧ K.length ≤ 2 + j ∧ L.length ≤ j ∧ s.ans.length ≤ j ∧ Hid (Sl2 s ⟨0, 1, 5, 0, 0, sN⟩ f has vo done won) ∧ Hid (Cw wr S' g bm h K L k ct (stdC f) 0 s) ∧ Hid (∀ b, S' b → w.heap.size ≤ b) ∧ Hid (Below w.heap.size w wr) ∧ Hid (Rw wr S' bm (h + 1) (.cells #[.pointer (some ⟨g, 0, none⟩), .pointer (some ⟨h, 0, none⟩)] 31 (0, 0))) ∧ Hid (Rw wr S' bm a (.cells (arB has) 45 (0, 0))) ∧ Hid (Rw wr S' bm (a + 1) (.cells (arI vo) 46 (0, 0)))) (fun d_ o_ i _ => 40 - (intOf i).toNat)
    case atStart => exact ⟨0, S5, K1, [], s1, _, _, false, 0, rfl, rfl, rfl, by omega, by omega, by omega, by simp, hal0, HW0, HT, HSn, HB, Ht, Ha, Hv⟩
    case round =>
      clear HT HSn HB Ht Ha Hv HW0 hal0 hkl0
      obtain ⟨j, S', K, L, s, has, vo, done, won, rfl, rfl, rfl, hj40, hjl, hKl, hLl, hal, HW, HT, HSn, HB, Ht, Ha, Hv⟩ := hrel
      by_cases hlt : j < len1
      case neg =>
        have hd1 : decide ((j : Int) < (len1 : Int)) = false := by simp; omega
        go_wp2_with fail
        go_meet
        exact ⟨S', K, L, s, has, vo, done, won, rfl, rfl, by omega, by omega, by omega, HW, HT, HSn, HB, Ht⟩
      by_cases h40 : j < 40
      case neg =>
        have hd1 : decide ((j : Int) < (len1 : Int)) = true := by simp; omega
        have hd2 : decide ((j : Int) < 40) = false := by simp; omega
        go_wp2_with fail
        go_meet
        exact ⟨S', K, L, s, has, vo, done, won, rfl, rfl, by omega, by omega, by omega, HW, HT, HSn, HB, Ht⟩
      have hd1 : decide ((j : Int) < (len1 : Int)) = true := by simp; omega
      have hd2 : decide ((j : Int) < 40) = true := by simp; omega
      obtain ⟨b1, o1, hAe, hb1, hlies⟩ := Hcell1.out (by omega)
      subst hAe
      have hx0 : j < l1.length := by have := Hlen1.out; omega
      have hcy := ((hlies.keep (HB.out.block b1 hb1)).at_ (j := j) (by simpa using hx0))
      obtain ⟨y, hy⟩ : ∃ x, l1[j] = x := ⟨_, rfl⟩
      obtain ⟨hy1, hy2⟩ := Hl1.out y (by rw [← hy]; exact List.getElem_mem hx0)
      simp only [List.getElem_map, hy, iv] at hcy
      clear hlies hy hx0
      have hnf : Psp.nodes f = 3 * f + 1 := by rw [Psp.nodes, if_pos hf]
      have z0 := Psp.within_lo y (3 * f + 1)
      have z1 := Psp.within_hi y (3 * f + 1) (by omega)
      have k0 : (0 : Int) ≤ (j : Int) := by omega
      have k1 : (j : Int) < (len1 : Int) := by omega
      go_upto_region 17 with fail
      have l0 := later_cell (w := wr.drew) (show wr.drew.cell? ⟨b1, o1 + j, none⟩ = some (.int .i64 y) from hcy)
      refine wp_region_phases [(true, 0), (true, 1), (true, 2), (true, 3), (true, 4), (false, 5), (false, 6), (true, 7)] (by kernel_rfl) (by kernel_rfl) ?_
      simp only [phW, List.getElem?_cons_zero, List.getElem?_cons_succ, Option.toList, List.length_cons, List.length_nil, Nat.reduceAdd, List.drop_succ_cons, List.drop_zero]
      repeat (first | go_big_quiet_step (fail) | quiet_step (fail) | refine wpQuiet_nil ?_)
      clear l0 hcy
      go_wp2_with fail
      refine (r_nodes_any f wr.drew).mono ?_
      rintro e w' ⟨rfl, rfl⟩
      go_wp2_with fail
      refine And.intro ⟨⟨wr.drew, Below.refl _ _⟩, rfl⟩ ?_
      go_wp2_with fail
      refine (within_i _ _ _ ⟨by omega, by omega⟩ ⟨by omega, by omega⟩).mono ?_
      rintro e w' ⟨rfl, rfl⟩
      go_wp2_with fail
      refine And.intro ⟨⟨wr.drew, Below.refl _ _⟩, rfl⟩ ?_
      repeat (first | go_big_quiet_step (fail) | quiet_step (fail) | refine wpQuiet_nil ?_)
      try rw [hnf]
      obtain ⟨wd, hwd⟩ : ∃ W_, wr.drew = W_ := ⟨_, rfl⟩
      have hdr : Below wr.heap.size wr wd := hwd ▸ (Below.refl _ _).drew
      rw [hwd]
      clear hwd
      replace Ht := Lib.hid (Ht.out.below hdr)
      replace Ha := Lib.hid (Ha.out.below hdr)
      replace Hv := Lib.hid (Hv.out.below hdr)
      replace HT := Lib.hid (HT.out.below hdr)
      replace HB := Lib.hid (Below.then HB.out hdr HB.out.size)
      clear hdr
      obtain ⟨nn, hnn⟩ : ∃ nn, Psp.within y (3 * f + 1) = nn := ⟨_, rfl⟩
      rw [hnn] at z0 z1 ⊢
      clear hnn hnf
      obtain ⟨m, rfl⟩ : ∃ m : Nat, nn = (m : Int) := ⟨nn.toNat, by omega⟩
      have hm13 : m < 13 := by omega
      have hhl := HW.out.hl
      have hvl := HW.out.vl
      obtain ⟨b, hb⟩ : ∃ b, has[m]? = some b := ⟨has[m]'(by omega), List.getElem?_eq_getElem _⟩
      by_cases h2 : j < len2
      case neg =>
        have hd3 : decide ((j : Int) < (len2 : Int)) = false := by simp; omega
        go_upto_region 21 with fail
        have vz : (0 : Nat) < 3 := by omega
        have hv3 : 0 < 3 := by omega
        obtain ⟨q, hq⟩ : ∃ q, vo[0]? = some q := ⟨vo[0]'(by omega), List.getElem?_eq_getElem _⟩
        have hne : s.issued ≠ [] := by rw [HW.out.is]; simp
        have hil : s.issued.length ≤ 1 := by rw [HW.out.is]; simp
        have Hne := Lib.hid hne
        have hhr := HW.out.hears (id := 0) hm13 hb (v := 0)
        clear hne
        cases done
        case false =>
          cases b
          case false =>
            have hacl : s.acc.length ≤ 1 := by rw [(HW.out.un rfl).1]; simp
            have hhr' : (s.waits && s.hears 0 (repM (m : Int) 0 1 0)) = true := hhr
            have Hhr := Lib.hid hhr'
            clear hhr hhr'
            have f_a : wd.cell? ⟨a, m, none⟩ = some (.bool false) := Ha.out.cell (arB_at hb)
            have m0 : (0 : Int) ≤ (m : Int) := by omega
            have m1 : (m : Int) < 13 := by omega
            go_upto_region 22 with fail
            clear f_a
            have f_t0 : wd.cell? ⟨h + 1, 0, none⟩ = some (.pointer (some ⟨g, 0, none⟩)) := Ht.out.cell rfl
            have f_t1 : wd.cell? ⟨h + 1, 1, none⟩ = some (.pointer (some ⟨h, 0, none⟩)) := Ht.out.cell rfl
            go_wp2_with fail
            clear f_t0 f_t1
            obtain ⟨bs, hbs⟩ : ∃ bs, envB K (repM (m : Int) 0 1 0) = bs := ⟨_, rfl⟩
            obtain ⟨K9, hK9⟩ : ∃ K2, sealK K (repM (m : Int) 0 1 0) = K2 := ⟨_, rfl⟩
            obtain ⟨L9, hL9⟩ : ∃ L2, sealK L (repM (m : Int) 0 1 0) = L2 := ⟨_, rfl⟩
            have hkl1 := sealK_len K (repM (m : Int) 0 1 0)
            have hkl2 := sealK_len L (repM (m : Int) 0 1 0)
            refine (cw_reply S' g bm h K L k ct (stdC f) 0 s (m : Int) 0 1 0 bs wd HT.out ⟨by omega, by omega⟩ (by omega) (by omega) (by rw [env_res (by first | assumption | exact ⟨by omega, by omega⟩) (by exact ⟨by omega, by omega⟩) (by exact ⟨by omega, by omega⟩) (by exact ⟨by omega, by omega⟩) (by omega)]; exact hbs)).mono ?_
            rintro e w9 ⟨A_, cp_, S9, rfl, hT', hS', hF', hbk⟩
            rw [hK9, hL9] at hT'
            rw [hK9] at hkl1
            rw [hL9] at hkl2
            have Hbs := Lib.hid hbk
            have Hb_bs := Lib.hid hbs
            have Hk_bs := Lib.hid hK9
            clear hbk hbs hK9 hL9
            replace Ht := Lib.hid (Ht.out.seal hF' hS')
            replace Ha := Lib.hid (Ha.out.seal hF' hS')
            replace Hv := Lib.hid (Hv.out.seal hF' hS')
            have hzb := HB.out.size
            replace HB := Lib.hid (HB.out.trans ((hF').to_below (B := w.heap.size) hzb (fun k hk hh => by rcases hh with hh | hh; (have := HSn.out k hh; omega); omega)))
            replace HSn : Hid (∀ b, (S9) b → w.heap.size ≤ b) := Lib.hid fun b hb => by rcases hS' b hb with h1 | h1; exact HSn.out b h1; omega
            clear hzb
            replace HT := Lib.hid hT'
            clear hT' hS' hF'
            go_wp2_with fail
            refine (cw_told S9 g bm h K L9 k ct (stdC f) 0 (m : Int) 0 1 0 s _ w9 true (s.heard (stdC f) (repM (m : Int) 0 1 0)) bs K9 Hb_bs.out Hk_bs.out HT.out Hbs.out (by first | assumption | exact ⟨by decide, by decide⟩) ⟨by omega, by show (m : Int) ≤ 3 * f; omega⟩ ⟨by decide, by show _ < (2 : Int); decide⟩ (by show (2 : Int) ≤ 4; decide) ⟨by omega, by omega⟩ ⟨by omega, by omega⟩ (by omega) (fun _ => Hne.out) (by omega) (by omega) (by omega) Hhr.out (if_pos rfl).symm).mono ?_
            rintro e wa ⟨rfl, Sa, hT', hS', hF'⟩
            clear Hbs
            replace Ht := Lib.hid (Ht.out.seal hF' hS')
            replace Ha := Lib.hid (Ha.out.seal hF' hS')
            replace Hv := Lib.hid (Hv.out.seal hF' hS')
            have hzb := HB.out.size
            replace HB := Lib.hid (HB.out.trans ((hF').to_below (B := w.heap.size) hzb (fun k hk hh => by rcases hh with hh | hh; (have := HSn.out k hh; omega); omega)))
            replace HSn : Hid (∀ b, (Sa) b → w.heap.size ≤ b) := Lib.hid fun b hb => by rcases hS' b hb with h1 | h1; exact HSn.out b h1; omega
            clear hzb
            replace HT := Lib.hid hT'
            clear hT' hS' hF'
            have hst := HW.out.step (id := 0) (c := stdC f) hf rfl rfl hm13 hv3 hq
            have hha := (heard_ans (s := s) (c := stdC f) (m := repM (m : Int) 0 1 0)).1
            obtain ⟨s', hs'⟩ : ∃ s', s.heard (stdC f) (repM (m : Int) 0 1 0) = s' := ⟨_, rfl⟩
            have hst' : Sl2 s' ⟨0, 1, 5, 0, 0, sN⟩ f (has.set m true) (vo.set 0 (q + 1)) (decide (q + 1 = f + 1)) (if q + 1 = f + 1 then 0 else won) := by rw [← hs']; exact hst
            rw [hs'] at HT hha
            have hal2 : s'.ans.length ≤ j + 1 := by omega
            have hqk := (HW.out.un rfl).2 0 hv3
            have hqe := HW.out.vv 0 hv3
            rw [hq] at hqe
            have hqe2 := Option.some.inj hqe
            rw [← hqe2] at hqk
            have hq0 : 0 ≤ q := by omega
            have Hst := Lib.hid hst'
            clear hst hs' hst' hha hqe hqe2
            have f_a : wa.frozen? ⟨a, m, none⟩ = false := Ha.out.ice _
            have m0 : (0 : Int) ≤ (m : Int) := by omega
            have m1 : (m : Int) < 13 := by omega
            have f_b : wa.cell? ⟨a, m, none⟩ = some (.bool false) := Ha.out.cell (arB_at hb)
            go_upto_region 26 with fail
            clear f_a f_b
            have hpf := put_fp wa (a) m (.bool true)
            have hpr := Ha.out.put m (.bool true)
            rw [arB_set] at hpr
            obtain ⟨wb, hWp⟩ : ∃ W_, wa.setCell ⟨a, m, none⟩ (.bool true) = W_ := ⟨_, rfl⟩
            rw [hWp] at hpf hpr ⊢
            clear hWp
            replace Ht := Lib.hid (Ht.out.other hpf (show ¬ ((h + 1) = a) by omega))
            replace Hv := Lib.hid (Hv.out.other hpf (show ¬ ((a + 1) = a) by omega))
            replace HB := Lib.hid (HB.out.trans (hpf.to_below (B := w.heap.size) HB.out.size (fun k_ _ hh => by have h_ : k_ = a := hh; omega)))
            replace HT := Lib.hid (HT.out.fp hpf (show ¬ g = a by omega) (show ¬ bm = a by omega) (fun b_ hb_ he_ => Ha.out.off.2.1 ((show b_ = a from he_) ▸ hb_)))
            replace Ha := Lib.hid hpr
            clear hpf hpr
            have v0 : (0 : Int) ≤ 0 := by omega
            have v1 : 0 < (3 : Int) := by omega
            have hwq : IntKind.i64.wrap (q + 1) = q + 1 := IntWalk.i64_in _ (by omega)
            have hwf : IntKind.i64.wrap (f + 1) = f + 1 := IntWalk.i64_in _ (by omega)
            have f_a : wb.cell? ⟨a + 1, 0, none⟩ = some (.int .i64 q) := Hv.out.cell (arI_at hq)
            have f_b : wb.frozen? ⟨a + 1, 0, none⟩ = false := Hv.out.ice _
            go_upto_region 27 with fail
            clear f_a f_b
            have hpf := put_fp wb (a + 1) 0 (.int .i64 (q + 1))
            have hpr := Hv.out.put 0 (.int .i64 (q + 1))
            rw [arI_set] at hpr
            obtain ⟨wy, hWp⟩ : ∃ W_, wb.setCell ⟨a + 1, 0, none⟩ (.int .i64 (q + 1)) = W_ := ⟨_, rfl⟩
            rw [hWp] at hpf hpr ⊢
            clear hWp
            replace Ht := Lib.hid (Ht.out.other hpf (show ¬ ((h + 1) = a + 1) by omega))
            replace Ha := Lib.hid (Ha.out.other hpf (show ¬ ((a) = a + 1) by omega))
            replace HB := Lib.hid (HB.out.trans (hpf.to_below (B := w.heap.size) HB.out.size (fun k_ _ hh => by have h_ : k_ = a + 1 := hh; omega)))
            replace HT := Lib.hid (HT.out.fp hpf (show ¬ g = a + 1 by omega) (show ¬ bm = a + 1 by omega) (fun b_ hb_ he_ => Hv.out.off.2.1 ((show b_ = a + 1 from he_) ▸ hb_)))
            replace Hv := Lib.hid hpr
            clear hpf hpr
            obtain ⟨q1, hq1⟩ : ∃ q1, q + 1 = q1 := ⟨_, rfl⟩
            obtain ⟨f1, hf1⟩ : ∃ f1, f + 1 = f1 := ⟨_, rfl⟩
            rw [hq1] at Hv Hst
            rw [hq1]
            rw [hf1] at Hst
            replace hwf : IntKind.i64.wrap (f + 1) = f1 := by rw [hwf, hf1]
            clear hf1
            clear hq1 hwq hq hqk
            have f_a : wy.cell? ⟨a + 1, 0, none⟩ = some (.int .i64 q1) := Hv.out.cell (arI_at (List.getElem?_set_self (by omega)))
            iterate 22 (first | go_values | go_skip | go_guarded | go_step | go_upon | go_back)
            clear f_a v0 v1 hwf hq0
            by_cases hqf : q1 = f1
            case pos =>
              have hd4 : decide (q1 = f1) = true := decide_eq_true hqf
              have HS2 : Hid (Sl2 s' ⟨0, 1, 5, 0, 0, sN⟩ f (has.set m true) (vo.set 0 q1) true 0) := Lib.hid (by have h_ := Hst.out; rwa [decide_eq_true hqf, if_pos hqf] at h_)
              clear Hst hqf
              refine wp_cond_true (congrArg Value.bool hd4) ?_
              go_wp2_with fail
              refine ⟨⟨j + 1, Sa, K9, L9, s', _, _, true, 0, rfl, rfl, by go_num, by omega, by omega, by omega, by omega, hal2, HS2, HT, HSn, HB, Ht, Ha, Hv⟩, ?_⟩
              simp [intOf]; omega
            have hd4 : decide (q1 = f1) = false := decide_eq_false hqf
            have HS2 : Hid (Sl2 s' ⟨0, 1, 5, 0, 0, sN⟩ f (has.set m true) (vo.set 0 q1) false won) := Lib.hid (by have h_ := Hst.out; rwa [decide_eq_false hqf, if_neg hqf] at h_)
            clear Hst hqf
            refine wp_cond_false (congrArg Value.bool hd4) ?_
            clear hd4
            go_wp2_with fail
            refine ⟨⟨j + 1, Sa, K9, L9, s', _, _, false, won, rfl, rfl, by go_num, by omega, by omega, by omega, by omega, hal2, HS2, HT, HSn, HB, Ht, Ha, Hv⟩, ?_⟩
            simp [intOf]; omega
          case true =>
            have hacl : s.acc.length ≤ 1 := by rw [(HW.out.un rfl).1]; simp
            have hhr' : (s.waits && s.hears 0 (repM (m : Int) 0 1 0)) = false := hhr
            have Hhr := Lib.hid hhr'
            clear hhr hhr'
            have f_a : wd.cell? ⟨a, m, none⟩ = some (.bool true) := Ha.out.cell (arB_at hb)
            have m0 : (0 : Int) ≤ (m : Int) := by omega
            have m1 : (m : Int) < 13 := by omega
            go_upto_region 22 with fail
            clear f_a
            have f_t0 : wd.cell? ⟨h + 1, 0, none⟩ = some (.pointer (some ⟨g, 0, none⟩)) := Ht.out.cell rfl
            have f_t1 : wd.cell? ⟨h + 1, 1, none⟩ = some (.pointer (some ⟨h, 0, none⟩)) := Ht.out.cell rfl
            go_wp2_with fail
            clear f_t0 f_t1
            obtain ⟨bs, hbs⟩ : ∃ bs, envB K (repM (m : Int) 0 1 0) = bs := ⟨_, rfl⟩
            obtain ⟨K9, hK9⟩ : ∃ K2, sealK K (repM (m : Int) 0 1 0) = K2 := ⟨_, rfl⟩
            obtain ⟨L9, hL9⟩ : ∃ L2, sealK L (repM (m : Int) 0 1 0) = L2 := ⟨_, rfl⟩
            have hkl1 := sealK_len K (repM (m : Int) 0 1 0)
            have hkl2 := sealK_len L (repM (m : Int) 0 1 0)
            refine (cw_reply S' g bm h K L k ct (stdC f) 0 s (m : Int) 0 1 0 bs wd HT.out ⟨by omega, by omega⟩ (by omega) (by omega) (by rw [env_res (by first | assumption | exact ⟨by omega, by omega⟩) (by exact ⟨by omega, by omega⟩) (by exact ⟨by omega, by omega⟩) (by exact ⟨by omega, by omega⟩) (by omega)]; exact hbs)).mono ?_
            rintro e w9 ⟨A_, cp_, S9, rfl, hT', hS', hF', hbk⟩
            rw [hK9, hL9] at hT'
            rw [hK9] at hkl1
            rw [hL9] at hkl2
            have Hbs := Lib.hid hbk
            have Hb_bs := Lib.hid hbs
            have Hk_bs := Lib.hid hK9
            clear hbk hbs hK9 hL9
            replace Ht := Lib.hid (Ht.out.seal hF' hS')
            replace Ha := Lib.hid (Ha.out.seal hF' hS')
            replace Hv := Lib.hid (Hv.out.seal hF' hS')
            have hzb := HB.out.size
            replace HB := Lib.hid (HB.out.trans ((hF').to_below (B := w.heap.size) hzb (fun k hk hh => by rcases hh with hh | hh; (have := HSn.out k hh; omega); omega)))
            replace HSn : Hid (∀ b, (S9) b → w.heap.size ≤ b) := Lib.hid fun b hb => by rcases hS' b hb with h1 | h1; exact HSn.out b h1; omega
            clear hzb
            replace HT := Lib.hid hT'
            clear hT' hS' hF'
            go_wp2_with fail
            refine (cw_told S9 g bm h K L9 k ct (stdC f) 0 (m : Int) 0 1 0 s _ w9 false (s) bs K9 Hb_bs.out Hk_bs.out HT.out Hbs.out (by first | assumption | exact ⟨by decide, by decide⟩) ⟨by omega, by show (m : Int) ≤ 3 * f; omega⟩ ⟨by decide, by show _ < (2 : Int); decide⟩ (by show (2 : Int) ≤ 4; decide) ⟨by omega, by omega⟩ ⟨by omega, by omega⟩ (by omega) (fun _ => Hne.out) (by omega) (by omega) (by omega) Hhr.out (if_neg (by decide)).symm).mono ?_
            rintro e wa ⟨rfl, Sa, hT', hS', hF'⟩
            clear Hbs
            replace Ht := Lib.hid (Ht.out.seal hF' hS')
            replace Ha := Lib.hid (Ha.out.seal hF' hS')
            replace Hv := Lib.hid (Hv.out.seal hF' hS')
            have hzb := HB.out.size
            replace HB := Lib.hid (HB.out.trans ((hF').to_below (B := w.heap.size) hzb (fun k hk hh => by rcases hh with hh | hh; (have := HSn.out k hh; omega); omega)))
            replace HSn : Hid (∀ b, (Sa) b → w.heap.size ≤ b) := Lib.hid fun b hb => by rcases hS' b hb with h1 | h1; exact HSn.out b h1; omega
            clear hzb
            replace HT := Lib.hid hT'
            clear hT' hS' hF'
            go_wp2_with fail
            refine ⟨⟨j + 1, Sa, K9, L9, s, has, vo, false, won, rfl, rfl, by go_num, by omega, by omega, by omega, by omega, by omega, HW, HT, HSn, HB, Ht, Ha, Hv⟩, ?_⟩
            simp [intOf]; omega
        case true =>
          have hacl : s.acc.length ≤ 1 := by rw [HW.out.dn rfl]; simp
          have hhr' : (s.waits && s.hears 0 (repM (m : Int) 0 1 0)) = false := hhr
          have Hhr := Lib.hid hhr'
          clear hhr hhr'
          go_upto_region 22 with fail
          have f_t0 : wd.cell? ⟨h + 1, 0, none⟩ = some (.pointer (some ⟨g, 0, none⟩)) := Ht.out.cell rfl
          have f_t1 : wd.cell? ⟨h + 1, 1, none⟩ = some (.pointer (some ⟨h, 0, none⟩)) := Ht.out.cell rfl
          go_wp2_with fail
          clear f_t0 f_t1
          obtain ⟨bs, hbs⟩ : ∃ bs, envB K (repM (m : Int) 0 1 0) = bs := ⟨_, rfl⟩
          obtain ⟨K9, hK9⟩ : ∃ K2, sealK K (repM (m : Int) 0 1 0) = K2 := ⟨_, rfl⟩
          obtain ⟨L9, hL9⟩ : ∃ L2, sealK L (repM (m : Int) 0 1 0) = L2 := ⟨_, rfl⟩
          have hkl1 := sealK_len K (repM (m : Int) 0 1 0)
          have hkl2 := sealK_len L (repM (m : Int) 0 1 0)
          refine (cw_reply S' g bm h K L k ct (stdC f) 0 s (m : Int) 0 1 0 bs wd HT.out ⟨by omega, by omega⟩ (by omega) (by omega) (by rw [env_res (by first | assumption | exact ⟨by omega, by omega⟩) (by exact ⟨by omega, by omega⟩) (by exact ⟨by omega, by omega⟩) (by exact ⟨by omega, by omega⟩) (by omega)]; exact hbs)).mono ?_
          rintro e w9 ⟨A_, cp_, S9, rfl, hT', hS', hF', hbk⟩
          rw [hK9, hL9] at hT'
          rw [hK9] at hkl1
          rw [hL9] at hkl2
          have Hbs := Lib.hid hbk
          have Hb_bs := Lib.hid hbs
          have Hk_bs := Lib.hid hK9
          clear hbk hbs hK9 hL9
          replace Ht := Lib.hid (Ht.out.seal hF' hS')
          replace Ha := Lib.hid (Ha.out.seal hF' hS')
          replace Hv := Lib.hid (Hv.out.seal hF' hS')
          have hzb := HB.out.size
          replace HB := Lib.hid (HB.out.trans ((hF').to_below (B := w.heap.size) hzb (fun k hk hh => by rcases hh with hh | hh; (have := HSn.out k hh; omega); omega)))
          replace HSn : Hid (∀ b, (S9) b → w.heap.size ≤ b) := Lib.hid fun b hb => by rcases hS' b hb with h1 | h1; exact HSn.out b h1; omega
          clear hzb
          replace HT := Lib.hid hT'
          clear hT' hS' hF'
          go_wp2_with fail
          refine (cw_told S9 g bm h K L9 k ct (stdC f) 0 (m : Int) 0 1 0 s _ w9 false (s) bs K9 Hb_bs.out Hk_bs.out HT.out Hbs.out (by first | assumption | exact ⟨by decide, by decide⟩) ⟨by omega, by show (m : Int) ≤ 3 * f; omega⟩ ⟨by decide, by show _ < (2 : Int); decide⟩ (by show (2 : Int) ≤ 4; decide) ⟨by omega, by omega⟩ ⟨by omega, by omega⟩ (by omega) (fun _ => Hne.out) (by omega) (by omega) (by omega) Hhr.out (if_neg (by decide)).symm).mono ?_
          rintro e wa ⟨rfl, Sa, hT', hS', hF'⟩
          clear Hbs
          replace Ht := Lib.hid (Ht.out.seal hF' hS')
          replace Ha := Lib.hid (Ha.out.seal hF' hS')
          replace Hv := Lib.hid (Hv.out.seal hF' hS')
          have hzb := HB.out.size
          replace HB := Lib.hid (HB.out.trans ((hF').to_below (B := w.heap.size) hzb (fun k hk hh => by rcases hh with hh | hh; (have := HSn.out k hh; omega); omega)))
          replace HSn : Hid (∀ b, (Sa) b → w.heap.size ≤ b) := Lib.hid fun b hb => by rcases hS' b hb with h1 | h1; exact HSn.out b h1; omega
          clear hzb
          replace HT := Lib.hid hT'
          clear hT' hS' hF'
          go_wp2_with fail
          refine ⟨⟨j + 1, Sa, K9, L9, s, has, vo, true, won, rfl, rfl, by go_num, by omega, by omega, by omega, by omega, by omega, HW, HT, HSn, HB, Ht, Ha, Hv⟩, ?_⟩
          simp [intOf]; omega
      have hd3 : decide ((j : Int) < (len2 : Int)) = true := by simp; omega
      obtain ⟨b2, o2, hAe, hb2, hlies⟩ := Hcell2.out (by omega)
      subst hAe
      have hx0 : j < l2.length := by have := Hlen2.out; omega
      have hcx := ((hlies.keep (HB.out.block b2 hb2)).at_ (j := j) (by simpa using hx0))
      obtain ⟨x, hy⟩ : ∃ x, l2[j] = x := ⟨_, rfl⟩
      obtain ⟨hx1, hx2⟩ := Hl2.out x (by rw [← hy]; exact List.getElem_mem hx0)
      simp only [List.getElem_map, hy, iv] at hcx
      clear hlies hy hx0
      have y0 := Psp.within_lo x 3
      have y1 := Psp.within_hi x 3 (by omega)
      have k2 : (j : Int) < (len2 : Int) := by omega
      go_upto_region 21 with (go_at_call 8; refine (within_i _ _ _ (by first | assumption | exact ⟨by omega, by omega⟩) (by exact ⟨by omega, by omega⟩)).mono ?_; rintro e w' ⟨rfl, rfl⟩)
      clear hcx
      obtain ⟨vv, hvv⟩ : ∃ vv, Psp.within x 3 = vv := ⟨_, rfl⟩
      rw [hvv] at y0 y1 ⊢
      clear hvv
      obtain ⟨v, rfl⟩ : ∃ v : Nat, vv = (v : Int) := ⟨vv.toNat, by omega⟩
      have hv3 : v < 3 := by omega
      obtain ⟨q, hq⟩ : ∃ q, vo[v]? = some q := ⟨vo[v]'(by omega), List.getElem?_eq_getElem _⟩
      have hne : s.issued ≠ [] := by rw [HW.out.is]; simp
      have hil : s.issued.length ≤ 1 := by rw [HW.out.is]; simp
      have Hne := Lib.hid hne
      have hhr := HW.out.hears (id := 0) hm13 hb (v := (v : Int))
      clear hne
      cases done
      case false =>
        cases b
        case false =>
          have hacl : s.acc.length ≤ 1 := by rw [(HW.out.un rfl).1]; simp
          have hhr' : (s.waits && s.hears 0 (repM (m : Int) 0 1 (v : Int))) = true := hhr
          have Hhr := Lib.hid hhr'
          clear hhr hhr'
          have f_a : wd.cell? ⟨a, m, none⟩ = some (.bool false) := Ha.out.cell (arB_at hb)
          have m0 : (0 : Int) ≤ (m : Int) := by omega
          have m1 : (m : Int) < 13 := by omega
          go_upto_region 22 with fail
          clear f_a
          have f_t0 : wd.cell? ⟨h + 1, 0, none⟩ = some (.pointer (some ⟨g, 0, none⟩)) := Ht.out.cell rfl
          have f_t1 : wd.cell? ⟨h + 1, 1, none⟩ = some (.pointer (some ⟨h, 0, none⟩)) := Ht.out.cell rfl
          go_wp2_with fail
          clear f_t0 f_t1
          obtain ⟨bs, hbs⟩ : ∃ bs, envB K (repM (m : Int) 0 1 (v : Int)) = bs := ⟨_, rfl⟩
          obtain ⟨K9, hK9⟩ : ∃ K2, sealK K (repM (m : Int) 0 1 (v : Int)) = K2 := ⟨_, rfl⟩
          obtain ⟨L9, hL9⟩ : ∃ L2, sealK L (repM (m : Int) 0 1 (v : Int)) = L2 := ⟨_, rfl⟩
          have hkl1 := sealK_len K (repM (m : Int) 0 1 (v : Int))
          have hkl2 := sealK_len L (repM (m : Int) 0 1 (v : Int))
          refine (cw_reply S' g bm h K L k ct (stdC f) 0 s (m : Int) 0 1 (v : Int) bs wd HT.out ⟨by omega, by omega⟩ (by omega) (by omega) (by rw [env_res (by first | assumption | exact ⟨by omega, by omega⟩) (by exact ⟨by omega, by omega⟩) (by exact ⟨by omega, by omega⟩) (by exact ⟨by omega, by omega⟩) (by omega)]; exact hbs)).mono ?_
          rintro e w9 ⟨A_, cp_, S9, rfl, hT', hS', hF', hbk⟩
          rw [hK9, hL9] at hT'
          rw [hK9] at hkl1
          rw [hL9] at hkl2
          have Hbs := Lib.hid hbk
          have Hb_bs := Lib.hid hbs
          have Hk_bs := Lib.hid hK9
          clear hbk hbs hK9 hL9
          replace Ht := Lib.hid (Ht.out.seal hF' hS')
          replace Ha := Lib.hid (Ha.out.seal hF' hS')
          replace Hv := Lib.hid (Hv.out.seal hF' hS')
          have hzb := HB.out.size
          replace HB := Lib.hid (HB.out.trans ((hF').to_below (B := w.heap.size) hzb (fun k hk hh => by rcases hh with hh | hh; (have := HSn.out k hh; omega); omega)))
          replace HSn : Hid (∀ b, (S9) b → w.heap.size ≤ b) := Lib.hid fun b hb => by rcases hS' b hb with h1 | h1; exact HSn.out b h1; omega
          clear hzb
          replace HT := Lib.hid hT'
          clear hT' hS' hF'
          go_wp2_with fail
          refine (cw_told S9 g bm h K L9 k ct (stdC f) 0 (m : Int) 0 1 (v : Int) s _ w9 true (s.heard (stdC f) (repM (m : Int) 0 1 (v : Int))) bs K9 Hb_bs.out Hk_bs.out HT.out Hbs.out (by first | assumption | exact ⟨by decide, by decide⟩) ⟨by omega, by show (m : Int) ≤ 3 * f; omega⟩ ⟨by decide, by show _ < (2 : Int); decide⟩ (by show (2 : Int) ≤ 4; decide) ⟨by omega, by omega⟩ ⟨by omega, by omega⟩ (by omega) (fun _ => Hne.out) (by omega) (by omega) (by omega) Hhr.out (if_pos rfl).symm).mono ?_
          rintro e wa ⟨rfl, Sa, hT', hS', hF'⟩
          clear Hbs
          replace Ht := Lib.hid (Ht.out.seal hF' hS')
          replace Ha := Lib.hid (Ha.out.seal hF' hS')
          replace Hv := Lib.hid (Hv.out.seal hF' hS')
          have hzb := HB.out.size
          replace HB := Lib.hid (HB.out.trans ((hF').to_below (B := w.heap.size) hzb (fun k hk hh => by rcases hh with hh | hh; (have := HSn.out k hh; omega); omega)))
          replace HSn : Hid (∀ b, (Sa) b → w.heap.size ≤ b) := Lib.hid fun b hb => by rcases hS' b hb with h1 | h1; exact HSn.out b h1; omega
          clear hzb
          replace HT := Lib.hid hT'
          clear hT' hS' hF'
          have hst := HW.out.step (id := 0) (c := stdC f) hf rfl rfl hm13 hv3 hq
          have hha := (heard_ans (s := s) (c := stdC f) (m := repM (m : Int) 0 1 (v : Int))).1
          obtain ⟨s', hs'⟩ : ∃ s', s.heard (stdC f) (repM (m : Int) 0 1 (v : Int)) = s' := ⟨_, rfl⟩
          have hst' : Sl2 s' ⟨0, 1, 5, 0, 0, sN⟩ f (has.set m true) (vo.set v (q + 1)) (decide (q + 1 = f + 1)) (if q + 1 = f + 1 then (v : Int) else won) := by rw [← hs']; exact hst
          rw [hs'] at HT hha
          have hal2 : s'.ans.length ≤ j + 1 := by omega
          have hqk := (HW.out.un rfl).2 v hv3
          have hqe := HW.out.vv v hv3
          rw [hq] at hqe
          have hqe2 := Option.some.inj hqe
          rw [← hqe2] at hqk
          have hq0 : 0 ≤ q := by omega
          have Hst := Lib.hid hst'
          clear hst hs' hst' hha hqe hqe2
          have f_a : wa.frozen? ⟨a, m, none⟩ = false := Ha.out.ice _
          have m0 : (0 : Int) ≤ (m : Int) := by omega
          have m1 : (m : Int) < 13 := by omega
          have f_b : wa.cell? ⟨a, m, none⟩ = some (.bool false) := Ha.out.cell (arB_at hb)
          go_upto_region 26 with fail
          clear f_a f_b
          have hpf := put_fp wa (a) m (.bool true)
          have hpr := Ha.out.put m (.bool true)
          rw [arB_set] at hpr
          obtain ⟨wb, hWp⟩ : ∃ W_, wa.setCell ⟨a, m, none⟩ (.bool true) = W_ := ⟨_, rfl⟩
          rw [hWp] at hpf hpr ⊢
          clear hWp
          replace Ht := Lib.hid (Ht.out.other hpf (show ¬ ((h + 1) = a) by omega))
          replace Hv := Lib.hid (Hv.out.other hpf (show ¬ ((a + 1) = a) by omega))
          replace HB := Lib.hid (HB.out.trans (hpf.to_below (B := w.heap.size) HB.out.size (fun k_ _ hh => by have h_ : k_ = a := hh; omega)))
          replace HT := Lib.hid (HT.out.fp hpf (show ¬ g = a by omega) (show ¬ bm = a by omega) (fun b_ hb_ he_ => Ha.out.off.2.1 ((show b_ = a from he_) ▸ hb_)))
          replace Ha := Lib.hid hpr
          clear hpf hpr
          have v0 : (0 : Int) ≤ (v : Int) := by omega
          have v1 : (v : Int) < (3 : Int) := by omega
          have hwq : IntKind.i64.wrap (q + 1) = q + 1 := IntWalk.i64_in _ (by omega)
          have hwf : IntKind.i64.wrap (f + 1) = f + 1 := IntWalk.i64_in _ (by omega)
          have f_a : wb.cell? ⟨a + 1, v, none⟩ = some (.int .i64 q) := Hv.out.cell (arI_at hq)
          have f_b : wb.frozen? ⟨a + 1, v, none⟩ = false := Hv.out.ice _
          go_upto_region 27 with fail
          clear f_a f_b
          have hpf := put_fp wb (a + 1) v (.int .i64 (q + 1))
          have hpr := Hv.out.put v (.int .i64 (q + 1))
          rw [arI_set] at hpr
          obtain ⟨wy, hWp⟩ : ∃ W_, wb.setCell ⟨a + 1, v, none⟩ (.int .i64 (q + 1)) = W_ := ⟨_, rfl⟩
          rw [hWp] at hpf hpr ⊢
          clear hWp
          replace Ht := Lib.hid (Ht.out.other hpf (show ¬ ((h + 1) = a + 1) by omega))
          replace Ha := Lib.hid (Ha.out.other hpf (show ¬ ((a) = a + 1) by omega))
          replace HB := Lib.hid (HB.out.trans (hpf.to_below (B := w.heap.size) HB.out.size (fun k_ _ hh => by have h_ : k_ = a + 1 := hh; omega)))
          replace HT := Lib.hid (HT.out.fp hpf (show ¬ g = a + 1 by omega) (show ¬ bm = a + 1 by omega) (fun b_ hb_ he_ => Hv.out.off.2.1 ((show b_ = a + 1 from he_) ▸ hb_)))
          replace Hv := Lib.hid hpr
          clear hpf hpr
          obtain ⟨q1, hq1⟩ : ∃ q1, q + 1 = q1 := ⟨_, rfl⟩
          obtain ⟨f1, hf1⟩ : ∃ f1, f + 1 = f1 := ⟨_, rfl⟩
          rw [hq1] at Hv Hst
          rw [hq1]
          rw [hf1] at Hst
          replace hwf : IntKind.i64.wrap (f + 1) = f1 := by rw [hwf, hf1]
          clear hf1
          clear hq1 hwq hq hqk
          have f_a : wy.cell? ⟨a + 1, v, none⟩ = some (.int .i64 q1) := Hv.out.cell (arI_at (List.getElem?_set_self (by omega)))
          iterate 22 (first | go_values | go_skip | go_guarded | go_step | go_upon | go_back)
          clear f_a v0 v1 hwf hq0
          by_cases hqf : q1 = f1
          case pos =>
            have hd4 : decide (q1 = f1) = true := decide_eq_true hqf
            have HS2 : Hid (Sl2 s' ⟨0, 1, 5, 0, 0, sN⟩ f (has.set m true) (vo.set v q1) true (v : Int)) := Lib.hid (by have h_ := Hst.out; rwa [decide_eq_true hqf, if_pos hqf] at h_)
            clear Hst hqf
            refine wp_cond_true (congrArg Value.bool hd4) ?_
            go_wp2_with fail
            refine ⟨⟨j + 1, Sa, K9, L9, s', _, _, true, (v : Int), rfl, rfl, by go_num, by omega, by omega, by omega, by omega, hal2, HS2, HT, HSn, HB, Ht, Ha, Hv⟩, ?_⟩
            simp [intOf]; omega
          have hd4 : decide (q1 = f1) = false := decide_eq_false hqf
          have HS2 : Hid (Sl2 s' ⟨0, 1, 5, 0, 0, sN⟩ f (has.set m true) (vo.set v q1) false won) := Lib.hid (by have h_ := Hst.out; rwa [decide_eq_false hqf, if_neg hqf] at h_)
          clear Hst hqf
          refine wp_cond_false (congrArg Value.bool hd4) ?_
          clear hd4
          go_wp2_with fail
          refine ⟨⟨j + 1, Sa, K9, L9, s', _, _, false, won, rfl, rfl, by go_num, by omega, by omega, by omega, by omega, hal2, HS2, HT, HSn, HB, Ht, Ha, Hv⟩, ?_⟩
          simp [intOf]; omega
        case true =>
          have hacl : s.acc.length ≤ 1 := by rw [(HW.out.un rfl).1]; simp
          have hhr' : (s.waits && s.hears 0 (repM (m : Int) 0 1 (v : Int))) = false := hhr
          have Hhr := Lib.hid hhr'
          clear hhr hhr'
          have f_a : wd.cell? ⟨a, m, none⟩ = some (.bool true) := Ha.out.cell (arB_at hb)
          have m0 : (0 : Int) ≤ (m : Int) := by omega
          have m1 : (m : Int) < 13 := by omega
          go_upto_region 22 with fail
          clear f_a
          have f_t0 : wd.cell? ⟨h + 1, 0, none⟩ = some (.pointer (some ⟨g, 0, none⟩)) := Ht.out.cell rfl
          have f_t1 : wd.cell? ⟨h + 1, 1, none⟩ = some (.pointer (some ⟨h, 0, none⟩)) := Ht.out.cell rfl
          go_wp2_with fail
          clear f_t0 f_t1
          obtain ⟨bs, hbs⟩ : ∃ bs, envB K (repM (m : Int) 0 1 (v : Int)) = bs := ⟨_, rfl⟩
          obtain ⟨K9, hK9⟩ : ∃ K2, sealK K (repM (m : Int) 0 1 (v : Int)) = K2 := ⟨_, rfl⟩
          obtain ⟨L9, hL9⟩ : ∃ L2, sealK L (repM (m : Int) 0 1 (v : Int)) = L2 := ⟨_, rfl⟩
          have hkl1 := sealK_len K (repM (m : Int) 0 1 (v : Int))
          have hkl2 := sealK_len L (repM (m : Int) 0 1 (v : Int))
          refine (cw_reply S' g bm h K L k ct (stdC f) 0 s (m : Int) 0 1 (v : Int) bs wd HT.out ⟨by omega, by omega⟩ (by omega) (by omega) (by rw [env_res (by first | assumption | exact ⟨by omega, by omega⟩) (by exact ⟨by omega, by omega⟩) (by exact ⟨by omega, by omega⟩) (by exact ⟨by omega, by omega⟩) (by omega)]; exact hbs)).mono ?_
          rintro e w9 ⟨A_, cp_, S9, rfl, hT', hS', hF', hbk⟩
          rw [hK9, hL9] at hT'
          rw [hK9] at hkl1
          rw [hL9] at hkl2
          have Hbs := Lib.hid hbk
          have Hb_bs := Lib.hid hbs
          have Hk_bs := Lib.hid hK9
          clear hbk hbs hK9 hL9
          replace Ht := Lib.hid (Ht.out.seal hF' hS')
          replace Ha := Lib.hid (Ha.out.seal hF' hS')
          replace Hv := Lib.hid (Hv.out.seal hF' hS')
          have hzb := HB.out.size
          replace HB := Lib.hid (HB.out.trans ((hF').to_below (B := w.heap.size) hzb (fun k hk hh => by rcases hh with hh | hh; (have := HSn.out k hh; omega); omega)))
          replace HSn : Hid (∀ b, (S9) b → w.heap.size ≤ b) := Lib.hid fun b hb => by rcases hS' b hb with h1 | h1; exact HSn.out b h1; omega
          clear hzb
          replace HT := Lib.hid hT'
          clear hT' hS' hF'
          go_wp2_with fail
          refine (cw_told S9 g bm h K L9 k ct (stdC f) 0 (m : Int) 0 1 (v : Int) s _ w9 false (s) bs K9 Hb_bs.out Hk_bs.out HT.out Hbs.out (by first | assumption | exact ⟨by decide, by decide⟩) ⟨by omega, by show (m : Int) ≤ 3 * f; omega⟩ ⟨by decide, by show _ < (2 : Int); decide⟩ (by show (2 : Int) ≤ 4; decide) ⟨by omega, by omega⟩ ⟨by omega, by omega⟩ (by omega) (fun _ => Hne.out) (by omega) (by omega) (by omega) Hhr.out (if_neg (by decide)).symm).mono ?_
          rintro e wa ⟨rfl, Sa, hT', hS', hF'⟩
          clear Hbs
          replace Ht := Lib.hid (Ht.out.seal hF' hS')
          replace Ha := Lib.hid (Ha.out.seal hF' hS')
          replace Hv := Lib.hid (Hv.out.seal hF' hS')
          have hzb := HB.out.size
          replace HB := Lib.hid (HB.out.trans ((hF').to_below (B := w.heap.size) hzb (fun k hk hh => by rcases hh with hh | hh; (have := HSn.out k hh; omega); omega)))
          replace HSn : Hid (∀ b, (Sa) b → w.heap.size ≤ b) := Lib.hid fun b hb => by rcases hS' b hb with h1 | h1; exact HSn.out b h1; omega
          clear hzb
          replace HT := Lib.hid hT'
          clear hT' hS' hF'
          go_wp2_with fail
          refine ⟨⟨j + 1, Sa, K9, L9, s, has, vo, false, won, rfl, rfl, by go_num, by omega, by omega, by omega, by omega, by omega, HW, HT, HSn, HB, Ht, Ha, Hv⟩, ?_⟩
          simp [intOf]; omega
      case true =>
        have hacl : s.acc.length ≤ 1 := by rw [HW.out.dn rfl]; simp
        have hhr' : (s.waits && s.hears 0 (repM (m : Int) 0 1 (v : Int))) = false := hhr
        have Hhr := Lib.hid hhr'
        clear hhr hhr'
        go_upto_region 22 with fail
        have f_t0 : wd.cell? ⟨h + 1, 0, none⟩ = some (.pointer (some ⟨g, 0, none⟩)) := Ht.out.cell rfl
        have f_t1 : wd.cell? ⟨h + 1, 1, none⟩ = some (.pointer (some ⟨h, 0, none⟩)) := Ht.out.cell rfl
        go_wp2_with fail
        clear f_t0 f_t1
        obtain ⟨bs, hbs⟩ : ∃ bs, envB K (repM (m : Int) 0 1 (v : Int)) = bs := ⟨_, rfl⟩
        obtain ⟨K9, hK9⟩ : ∃ K2, sealK K (repM (m : Int) 0 1 (v : Int)) = K2 := ⟨_, rfl⟩
        obtain ⟨L9, hL9⟩ : ∃ L2, sealK L (repM (m : Int) 0 1 (v : Int)) = L2 := ⟨_, rfl⟩
        have hkl1 := sealK_len K (repM (m : Int) 0 1 (v : Int))
        have hkl2 := sealK_len L (repM (m : Int) 0 1 (v : Int))
        refine (cw_reply S' g bm h K L k ct (stdC f) 0 s (m : Int) 0 1 (v : Int) bs wd HT.out ⟨by omega, by omega⟩ (by omega) (by omega) (by rw [env_res (by first | assumption | exact ⟨by omega, by omega⟩) (by exact ⟨by omega, by omega⟩) (by exact ⟨by omega, by omega⟩) (by exact ⟨by omega, by omega⟩) (by omega)]; exact hbs)).mono ?_
        rintro e w9 ⟨A_, cp_, S9, rfl, hT', hS', hF', hbk⟩
        rw [hK9, hL9] at hT'
        rw [hK9] at hkl1
        rw [hL9] at hkl2
        have Hbs := Lib.hid hbk
        have Hb_bs := Lib.hid hbs
        have Hk_bs := Lib.hid hK9
        clear hbk hbs hK9 hL9
        replace Ht := Lib.hid (Ht.out.seal hF' hS')
        replace Ha := Lib.hid (Ha.out.seal hF' hS')
        replace Hv := Lib.hid (Hv.out.seal hF' hS')
        have hzb := HB.out.size
        replace HB := Lib.hid (HB.out.trans ((hF').to_below (B := w.heap.size) hzb (fun k hk hh => by rcases hh with hh | hh; (have := HSn.out k hh; omega); omega)))
        replace HSn : Hid (∀ b, (S9) b → w.heap.size ≤ b) := Lib.hid fun b hb => by rcases hS' b hb with h1 | h1; exact HSn.out b h1; omega
        clear hzb
        replace HT := Lib.hid hT'
        clear hT' hS' hF'
        go_wp2_with fail
        refine (cw_told S9 g bm h K L9 k ct (stdC f) 0 (m : Int) 0 1 (v : Int) s _ w9 false (s) bs K9 Hb_bs.out Hk_bs.out HT.out Hbs.out (by first | assumption | exact ⟨by decide, by decide⟩) ⟨by omega, by show (m : Int) ≤ 3 * f; omega⟩ ⟨by decide, by show _ < (2 : Int); decide⟩ (by show (2 : Int) ≤ 4; decide) ⟨by omega, by omega⟩ ⟨by omega, by omega⟩ (by omega) (fun _ => Hne.out) (by omega) (by omega) (by omega) Hhr.out (if_neg (by decide)).symm).mono ?_
        rintro e wa ⟨rfl, Sa, hT', hS', hF'⟩
        clear Hbs
        replace Ht := Lib.hid (Ht.out.seal hF' hS')
        replace Ha := Lib.hid (Ha.out.seal hF' hS')
        replace Hv := Lib.hid (Hv.out.seal hF' hS')
        have hzb := HB.out.size
        replace HB := Lib.hid (HB.out.trans ((hF').to_below (B := w.heap.size) hzb (fun k hk hh => by rcases hh with hh | hh; (have := HSn.out k hh; omega); omega)))
        replace HSn : Hid (∀ b, (Sa) b → w.heap.size ≤ b) := Lib.hid fun b hb => by rcases hS' b hb with h1 | h1; exact HSn.out b h1; omega
        clear hzb
        replace HT := Lib.hid hT'
        clear hT' hS' hF'
        go_wp2_with fail
        refine ⟨⟨j + 1, Sa, K9, L9, s, has, vo, true, won, rfl, rfl, by go_num, by omega, by omega, by omega, by omega, by omega, HW, HT, HSn, HB, Ht, Ha, Hv⟩, ?_⟩
        simp [intOf]; omega
  case rest =>
    clear HT HSn HB Ht Ha Hv HW0 hal0 hkl0
    obtain ⟨S', K, L, s, has, vo, done, won, rfl, rfl, hKl, hLl, hal, HW, HT, HSn, HB, Ht⟩ := hcut
    cases done
    case false =>
      have hac := (HW.out.un rfl).1
      have Hac := Lib.hid hac
      clear hac
      go_wp2_with fail
      refine (Cw.ask HT.out fun U hU => accepted_m U k ct g (stdC f) 0 s wc hU (by rw [Hac.out]; simp)).mono ?_
      rintro e wb ⟨A_, c_, rfl, -, hbq⟩
      rw [Hac.out]
      simp only [List.length_nil]
      replace Ht := Lib.hid (Ht.out.below hbq)
      replace HT := Lib.hid (HT.out.below hbq)
      replace HB := Lib.hid (Below.then HB.out hbq HB.out.size)
      clear hbq
      go_wp2_with (go_at_call 17; refine (wakes22 _).mono ?_; rintro e w' ⟨rfl, hbk⟩)
      go_ret
      exact ⟨rfl, Below.then HB.out hbk HB.out.size⟩
    have hac := HW.out.dn rfl
    have Hac := Lib.hid hac
    clear hac
    go_wp2_with fail
    refine (Cw.ask HT.out fun U hU => accepted_m U k ct g (stdC f) 0 s wc hU (by rw [Hac.out]; simp)).mono ?_
    rintro e w7 ⟨A_, c_, rfl, hown, hbq⟩
    rw [Hac.out] at hown ⊢
    obtain ⟨A', c', e_, _, _, hxl⟩ := own_slice hown
    obtain ⟨b0, rfl, _, hb0, hli⟩ := hxl (by simp)
    injection e_ with e1 _ e3
    subst e1 e3
    have f_e : w7.cell? ⟨b0, 6, none⟩ = some (.int .i64 won) := by have h2 := hli 6 (.int .i64 won) (by simp [ev, iv, rq]); rwa [Nat.zero_add] at h2
    clear hown hxl hli
    simp only [List.length_cons, List.length_nil, Nat.zero_add]
    replace Ht := Lib.hid (Ht.out.below hbq)
    replace HT := Lib.hid (HT.out.below hbq)
    replace HB := Lib.hid (Below.then HB.out hbq HB.out.size)
    clear hbq
    go_wp2_with (go_at_call 17; refine (wakes22 _).mono ?_; rintro e w' ⟨rfl, hbk⟩)
    go_ret
    exact ⟨rfl, Below.then HB.out hbk HB.out.size⟩
end Go.Proofs.YtipmjleohadoeaaGreat.clientSplit
