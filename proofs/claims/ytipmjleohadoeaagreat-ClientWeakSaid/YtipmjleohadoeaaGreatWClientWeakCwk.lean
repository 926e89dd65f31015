/- The walk of ClientWeak. Printed by gen_wweak.py. -/
import Derived.Test.YtipmjleohadoeaaGreatEneCwk
import Derived.Test.YtipmjleohadoeaaGreatWtCwk
import Derived.Test.YtipmjleohadoeaaGreatQbCwk
import Derived.Deep.CutBlock
namespace Go.Proofs.YtipmjleohadoeaaGreat.clientWeak
open Go.RowKit
set_option linter.unusedVariables false
set_option linter.unusedSimpArgs false

set_option maxRecDepth 100000 in
set_option maxHeartbeats 16000000 in
theorem walk (f0 res0 : Int) (v1 : Value) (l1 : List Int) (w : World) (hf0 : isI64 f0) (hres0 : isI64 res0) (hr1 : Rd w w.heap.size 1 v1 l1.length (l1.flatMap fun n => [iv n])) (hl1 : ∀ n ∈ l1, isI64 n) :
    Calls Tryz.prog 4 #[.int .i64 f0, .int .i64 res0, v1] w fun e w' => e = .returned (.bool true) ∧ Below w.heap.size w w' := by
  rw [flat_one] at hr1
  have fw0 := Psp.within_lo f0 4
  have fw1 := Psp.within_hi f0 4 (by omega)
  have rw0 := Psp.within_lo res0 1000
  have rw1 := Psp.within_hi res0 1000 (by omega)
  have hwf : IntKind.i64.wrap (1 + Psp.within f0 4) = 1 + Psp.within f0 4 := IntWalk.i64_in _ (by omega)
  obtain ⟨hrl1, A1, cp1, rfl, hc11, hc12, hcell1⟩ := hr1
  obtain ⟨len1, hlen1⟩ : ∃ len, l1.length = len := ⟨_, rfl⟩
  rw [hlen1] at hcell1 hc11 ⊢
  unfold maxLen at hc12
  have Hlen1 := Lib.hid hlen1
  have Hl1 := Lib.hid hl1
  have Hcell1 := Lib.hid hcell1
  clear hlen1 hl1 hrl1 hcell1
  go_enter Tryz.func4, Tryz.ntmps4
  go_upto_region 3 with (go_at_call 8; refine (within_i _ _ _ (by first | assumption | exact ⟨by omega, by omega⟩) (by exact ⟨by omega, by omega⟩)).mono ?_; rintro e w' ⟨rfl, rfl⟩)
  clear hwf
  obtain ⟨f, hfx⟩ : ∃ f, 1 + Psp.within f0 4 = f := ⟨_, rfl⟩
  obtain ⟨res, hrx⟩ : ∃ res, Psp.within res0 1000 = res := ⟨_, rfl⟩
  rw [hfx, hrx]
  rw [hrx] at rw0 rw1
  have hf : 1 ≤ f ∧ f ≤ 4 := ⟨by omega, by omega⟩
  have hfs : 1 ≤ (stdC f).f ∧ (stdC f).f ≤ 4 := hf
  clear hfx hrx fw0 fw1
  go_wp2_with fail
  refine (nt_new w).mono ?_
  rintro e w1 ⟨g, bm, rfl, hN, hb1, hg1, hg2⟩
  have hz1 := hb1.size
  have hgl := hN.lt
  go_upto_region 4 with fail
  have hba := alloc_below w1 (.cells #[.slice none 0 0, .slice none 0 0] 29)
  have hca := heap_alloc_new w1 (.cells #[.slice none 0 0, .slice none 0 0] 29)
  have hsa : (w1.alloc (.cells #[.slice none 0 0, .slice none 0 0] 29)).heap.size = w1.heap.size + 1 := by simp
  obtain ⟨h, hh⟩ : ∃ h, w1.heap.size = h := ⟨_, rfl⟩
  have hbb := alloc_below (w1.alloc (.cells #[.slice none 0 0, .slice none 0 0] 29)) (.cells #[.pointer (some ⟨g, 0, none⟩), .pointer (some ⟨w1.heap.size, 0, none⟩)] 31)
  have hcb := heap_alloc_new (w1.alloc (.cells #[.slice none 0 0, .slice none 0 0] 29)) (.cells #[.pointer (some ⟨g, 0, none⟩), .pointer (some ⟨w1.heap.size, 0, none⟩)] 31)
  rw [hsa] at hcb
  have hsb : ((w1.alloc (.cells #[.slice none 0 0, .slice none 0 0] 29)).alloc (.cells #[.pointer (some ⟨g, 0, none⟩), .pointer (some ⟨w1.heap.size, 0, none⟩)] 31)).heap.size = w1.heap.size + 2 := by simp
  have hnb := (hbb.block w1.heap.size (by omega)).trans hca
  obtain ⟨w2, hw2⟩ : ∃ w2, (w1.alloc (.cells #[.slice none 0 0, .slice none 0 0] 29)).alloc (.cells #[.pointer (some ⟨g, 0, none⟩), .pointer (some ⟨w1.heap.size, 0, none⟩)] 31) = w2 := ⟨_, rfl⟩
  rw [hw2] at hbb hcb hsb hnb ⊢
  rw [hh] at hnb hcb ⊢
  have hb2 : Below w1.heap.size w1 w2 := hba.trans (hbb.mono (by omega))
  have hTv : Tv w2 (fun b => b = h) g bm h [] [] := ⟨hN.below hb2, ⟨_, _, hnb, ⟨rfl, Or.inl ⟨rfl, rfl⟩⟩, ⟨rfl, Or.inl ⟨rfl, rfl⟩⟩, rfl, fun b hb => (by cases hb), fun b hb => (by cases hb)⟩, ⟨by omega, by omega⟩, fun b hb => by omega, rfl⟩
  have HTv := Lib.hid hTv
  have HB2 := Lib.hid (Below.then hb1 hb2 hb1.size)
  have HCB := Lib.hid hcb
  have hh1 : h < w2.heap.size := by omega
  have hh2 : h + 1 < w2.heap.size := by omega
  have hwh : w.heap.size ≤ h := by omega
  have hgh : g < h := by omega
  have hbh : bm < h := by omega
  have f0 : w2.cell? ⟨h + 1, 0, none⟩ = some (.pointer (some ⟨g, 0, none⟩)) := rowc hcb 0 rfl
  clear hN hb1 hba hca hsa hbb hcb hsb hnb hw2 hb2 hTv hh
  go_upto_region 6 with fail
  clear f0
  have l0 := later_cell (w := w2.drew) (show w2.drew.cell? ⟨h + 1, 0, none⟩ = some (.pointer (some ⟨g, 0, none⟩)) from rowc HCB.out 0 rfl)
  refine wp_region_phases [(true, 0), (true, 2), (true, 3), (false, 1), (false, 4), (true, 5), (true, 6), (true, 7), (true, 8), (true, 9)] (by kernel_rfl) (by kernel_rfl) ?_
  simp only [phW, List.getElem?_cons_zero, List.getElem?_cons_succ, Option.toList, List.length_cons, List.length_nil, Nat.reduceAdd, List.drop_succ_cons, List.drop_zero]
  repeat (first | go_big_quiet_step (fail) | quiet_step (fail) | refine wpQuiet_nil ?_)
  clear l0
  go_wp2_with fail
  refine (std_any f w2.drew).mono ?_
  rintro e w3 ⟨rfl, hb3⟩
  have hb23 : Below w2.heap.size w2 w3 := (Below.refl _ _).drew.trans hb3
  have HB23 := Lib.hid hb23
  have HBd := Lib.hid hb3
  have hz3 := hb23.size
  clear hb3 hb23
  go_wp2_with fail
  refine And.intro ⟨⟨w3, HBd.out⟩, rfl⟩ ?_
  go_wp2_with fail
  refine (new_yes (stdC f) 1 g w3 (std_ok (by first | assumption | exact ⟨by omega, by omega⟩)) ⟨by decide, by show (1 : Int) < 2; decide⟩).mono ?_
  rintro e w4 ⟨k, ct, rfl, hcl, hb4, hk4, hct4⟩
  have hz4 := hb4.size
  have HT : Hid (Cw w4 (fun b => b = h ∨ (b = k ∨ b = ct)) g bm h [] [] k ct (stdC f) 1 cs0) := Lib.hid (Cw.start ((HTv.out.below HB23.out).below hb4) hcl fun b hb => by rcases hb with hb | hb <;> (subst hb; exact ⟨by omega, by omega, by omega⟩))
  have Ht : Hid (Rw w4 (fun b => b = h ∨ (b = k ∨ b = ct)) bm (h + 1) (.cells #[.pointer (some ⟨g, 0, none⟩), .pointer (some ⟨h, 0, none⟩)] 31 (0, 0))) := Lib.hid ⟨(hb4.block _ (by omega)).trans ((HB23.out.block _ hh2).trans HCB.out), by omega, by rintro (hh | hh | hh) <;> omega, by omega⟩
  have HB : Hid (Below w.heap.size w w4) := Lib.hid (Below.then (Below.then HB2.out HB23.out HB2.out.size) hb4 (Below.then HB2.out HB23.out HB2.out.size).size)
  have HSn : Hid (∀ b, (b = h ∨ (b = k ∨ b = ct)) → w.heap.size ≤ b) := Lib.hid fun b hb => by rcases hb with hb | hb | hb <;> omega
  have HLF := Lib.hid (Below.then HBd.out hb4 HBd.out.size)
  clear hb4 hcl HTv HCB
  go_wp2_with fail
  refine And.intro ⟨⟨w4, HLF.out⟩, rfl⟩ ?_
  repeat (first | go_big_quiet_step (fail) | quiet_step (fail) | refine wpQuiet_nil ?_)
  clear HB2 HB23 HBd HLF hz3 hz4 hz1
  go_wp2_with fail
  obtain ⟨r, hr⟩ : ∃ r : Psp.Req, r = { bareQ 1 cs0 2 3 0 with s := sealN [] (kR (bareQ 1 cs0 2 3 0)) } := ⟨_, rfl⟩
  obtain ⟨P_, hP_⟩ : ∃ P_, sendS (stdC f) 1 (sealL [] (kR (bareQ 1 cs0 2 3 0))) { cs0 with issued := cs0.issued ++ [r], waits := true, at_ := cs0.now, ans := [] } = P_ := ⟨_, rfl⟩
  obtain ⟨s1, K1⟩ := P_
  have hfa := issue_facts (c := stdC f) (by first | assumption | exact ⟨by decide, by decide⟩) hP_
  refine (cw_issue (fun b => b = h ∨ (b = k ∨ b = ct)) g bm h [] [] k ct (stdC f) 1 cs0 2 3 0 r s1 K1 w4 HT.out (by first | assumption | exact ⟨by decide, by decide⟩) (by show (2 : Int) ≤ 4; decide) ⟨by decide, by decide⟩ rfl (by decide) (by decide) (by decide) (by show Psp.valid (bareQ 1 cs0 2 3 0) 2 = true; decide) hr hP_).mono ?_
  rintro e w5 ⟨rfl, S5, hT', hS', hF'⟩
  have HFa := Lib.hid hfa
  have Hr_ := Lib.hid hr
  clear hP_ hfa hr
  replace Ht := Lib.hid (Ht.out.seal hF' hS')
  have hzb := HB.out.size
  replace HB := Lib.hid (HB.out.trans ((hF').to_below (B := w.heap.size) hzb (fun k hk hh => by rcases hh with hh | hh; (have := HSn.out k hh; omega); omega)))
  replace HSn : Hid (∀ b, (S5) b → w.heap.size ≤ b) := Lib.hid fun b hb => by rcases hS' b hb with h1 | h1; exact HSn.out b h1; omega
  clear hzb
  replace HT := Lib.hid hT'
  clear hT' hS' hF'
  obtain ⟨sN, hsN⟩ : ∃ sN, r = ⟨1, 1, 2, 3, 0, sN⟩ := ⟨_, Hr_.out⟩
  clear Hr_
  subst hsN
  go_upto_region 10 with fail
  have hba := alloc_below w5 (.cells #[.int .i64 1, .int .i64 1, .int .i64 2, .int .i64 3, .int .i64 0, .int .i64 sN] 42)
  have hra : Rw (w5.alloc (.cells #[.int .i64 1, .int .i64 1, .int .i64 2, .int .i64 3, .int .i64 0, .int .i64 sN] 42)) S5 bm w5.heap.size (.cells #[.int .i64 1, .int .i64 1, .int .i64 2, .int .i64 3, .int .i64 0, .int .i64 sN] 42 (0, 0)) := Rw.new (.cells #[.int .i64 1, .int .i64 1, .int .i64 2, .int .i64 3, .int .i64 0, .int .i64 sN] 42) HT.out.lt HT.out.nt.lt.2
  have hsa : (w5.alloc (.cells #[.int .i64 1, .int .i64 1, .int .i64 2, .int .i64 3, .int .i64 0, .int .i64 sN] 42)).heap.size = w5.heap.size + 1 := by simp
  obtain ⟨w6, hWa⟩ : ∃ W_, w5.alloc (.cells #[.int .i64 1, .int .i64 1, .int .i64 2, .int .i64 3, .int .i64 0, .int .i64 sN] 42) = W_ := ⟨_, rfl⟩
  rw [hWa] at hba hra hsa ⊢
  have Hs_w6 := Lib.hid hsa
  have Hb_w6 := Lib.hid hba
  have Hr := Lib.hid hra
  clear hWa hra hsa
  replace Ht := Lib.hid (Ht.out.below hba)
  replace HT := Lib.hid (HT.out.below hba)
  replace HB := Lib.hid (Below.then HB.out hba HB.out.size)
  clear hba
  have f_r0 : w6.cell? ⟨w5.heap.size, 0, none⟩ = some (.int .i64 1) := Hr.out.cell rfl
  have f_r1 : w6.cell? ⟨w5.heap.size, 1, none⟩ = some (.int .i64 1) := Hr.out.cell rfl
  obtain ⟨hw1, hi1, ha1, hc1, ho1, hk1, _, _⟩ := HFa.out
  have HW0 : Hid (Wk1 s1 ⟨1, 1, 2, 3, 0, sN⟩ f res) := Lib.hid ⟨hw1, hi1, hc1, by rw [ha1]; exact List.nodup_nil, fun a h_ => by rw [ha1] at h_; cases h_⟩
  have hal0 : s1.ans.length ≤ 0 := by rw [ha1]; exact Nat.le_refl _
  have hkl0 : K1.length ≤ 2 := hk1
  have hwr1 : IntKind.i64.wrap (res + 1) = res + 1 := IntWalk.i64_in _ (by omega)
  clear hw1 hi1 ha1 hc1 ho1 hk1 HFa
  go_upto_block 0 with fail
  clear f_r0 f_r1
  go_cut [11, 12] from 65 to 88 (fun i_ n_ wx => ∃ (S' : Nat → Prop) (K L : List Key) (s : CS), K.length ≤ 42 ∧ L.length ≤ 40 ∧ s.ans.length ≤ 40 ∧ Hid (Wk1 s ⟨1, 1, 2, 3, 0, sN⟩ f res) ∧ Hid (Cw wx S' g bm h K L k ct (stdC f) 1 s) ∧ Hid (∀ b, S' b → w.heap.size ≤ b) ∧ Hid (Below w.heap.size w wx) ∧ Hid (Rw wx S' bm (h + 1) (.cells #[.pointer (some ⟨g, 0, none⟩), .pointer (some ⟨h, 0, none⟩)] 31 (0, 0))) ∧ Hid (Rw wx S' bm w5.heap.size (.cells #[.int .i64 1, .int .i64 1, .int .i64 2, .int .i64 3, .int .i64 0, .int .i64 sN] 42 (0, 0))))
  case first =>
    go_wp2_with fail
    go_loopw [11] (fun i wr => ∃ (j : Nat) (S' : Nat → Prop) (K L : List Key) (s : CS), i = .int .i64 (j : Int) ∧ j ≤ 40 ∧ j ≤ len1 ∧ K.length ≤ 2 + j ∧ L.length ≤ j ∧ s.ans.length ≤ j ∧ Hid (Wk1 s ⟨1, 1, 2, 3, 0, sN⟩ f res) ∧ Hid (Cw wr S' g bm h K L k ct (stdC f) 1 s) ∧ Hid (∀ b, S' b → w.heap.size ≤ b) ∧ Hid (Below w.heap.size w wr) ∧ Hid (Rw wr S' bm (h + 1) (.cells #[.pointer (some ⟨g, 0, none⟩), .pointer (some ⟨h, 0, none⟩)] 31 (0, 0))) ∧ Hid (Rw wr S' bm w5.heap.size (.cells #[.int .i64 1, .int .i64 1, .int .i64 2, .int .i64 3, .int .i64 0, .int .i64 sN] 42 (0, 0)))) (fun i _ => 40 - (intOf i).toNat)
    case atStart => exact ⟨0, S5, K1, [], s1, rfl, by omega, by omega, by omega, by simp, hal0, HW0, HT, HSn, HB, Ht, Hr⟩
    case round =>
      clear HT HSn HB Ht Hr HW0 hal0 hkl0
      obtain ⟨j, S', K, L, s, rfl, hj40, hjl, hKl, hLl, hal, HW, HT, HSn, HB, Ht, Hr⟩ := hrel
      by_cases hlt : j < len1
      case neg =>
        have hd1 : decide ((j : Int) < (len1 : Int)) = false := by simp; omega
        go_wp2_with fail
        go_meet
        exact ⟨S', K, L, s, by omega, by omega, by omega, HW, HT, HSn, HB, Ht, Hr⟩
      by_cases h40 : j < 40
      case neg =>
        have hd1 : decide ((j : Int) < (len1 : Int)) = true := by simp; omega
        have hd2 : decide ((j : Int) < 40) = false := by simp; omega
        go_wp2_with fail
        go_meet
        exact ⟨S', K, L, s, by omega, by omega, by omega, HW, HT, HSn, HB, Ht, Hr⟩
      have hd1 : decide ((j : Int) < (len1 : Int)) = true := by simp; omega
      have hd2 : decide ((j : Int) < 40) = true := by simp; omega
      obtain ⟨b, o, hAe, hb, hlies⟩ := Hcell1.out (by omega)
      subst hAe
      have hx0 : j < l1.length := by have := Hlen1.out; omega
      have hcy := ((hlies.keep (HB.out.block b hb)).at_ (j := j) (by simpa using hx0))
      obtain ⟨y, hy⟩ : ∃ x, l1[j] = x := ⟨_, rfl⟩
      obtain ⟨hy1, hy2⟩ := Hl1.out y (by rw [← hy]; exact List.getElem_mem hx0)
      simp only [List.getElem_map, hy, iv] at hcy
      have z0 := Psp.within_lo y f
      have z1 := Psp.within_hi y f (by omega)
      have k0 : (0 : Int) ≤ (j : Int) := by omega
      have k1 : (j : Int) < (len1 : Int) := by omega
      clear hlies hy
      go_upto_region 16 with (go_at_call 8; refine (within_i _ _ _ (by first | assumption | exact ⟨by omega, by omega⟩) (by exact ⟨by omega, by omega⟩)).mono ?_; rintro e w' ⟨rfl, rfl⟩)
      clear hcy
      obtain ⟨nn, hnn⟩ : ∃ nn, Psp.within y f = nn := ⟨_, rfl⟩
      rw [hnn] at z0 z1 ⊢
      clear hnn
      have f_t0 : wr.cell? ⟨h + 1, 0, none⟩ = some (.pointer (some ⟨g, 0, none⟩)) := Ht.out.cell rfl
      have f_t1 : wr.cell? ⟨h + 1, 1, none⟩ = some (.pointer (some ⟨h, 0, none⟩)) := Ht.out.cell rfl
      go_wp2_with fail
      clear f_t0 f_t1
      obtain ⟨bs, hbs⟩ : ∃ bs, envB K (repM nn 1 1 (res + 1)) = bs := ⟨_, rfl⟩
      obtain ⟨K9, hK9⟩ : ∃ K2, sealK K (repM nn 1 1 (res + 1)) = K2 := ⟨_, rfl⟩
      obtain ⟨L9, hL9⟩ : ∃ L2, sealK L (repM nn 1 1 (res + 1)) = L2 := ⟨_, rfl⟩
      have hkl1 := sealK_len K (repM nn 1 1 (res + 1))
      have hkl2 := sealK_len L (repM nn 1 1 (res + 1))
      refine (cw_reply S' g bm h K L k ct (stdC f) 1 s nn 1 1 (res + 1) bs wr HT.out ⟨by omega, by omega⟩ (by omega) (by omega) (by rw [env_res (by first | assumption | exact ⟨by omega, by omega⟩) (by exact ⟨by omega, by omega⟩) (by exact ⟨by omega, by omega⟩) (by exact ⟨by omega, by omega⟩) (by omega)]; exact hbs)).mono ?_
      rintro e w9 ⟨A_, cp_, S9, rfl, hT', hS', hF', hbk⟩
      rw [hK9, hL9] at hT'
      rw [hK9] at hkl1
      rw [hL9] at hkl2
      have Hbs := Lib.hid hbk
      have Hb_bs := Lib.hid hbs
      have Hk_bs := Lib.hid hK9
      clear hbk hbs hK9 hL9
      replace Ht := Lib.hid (Ht.out.seal hF' hS')
      replace Hr := Lib.hid (Hr.out.seal hF' hS')
      have hzb := HB.out.size
      replace HB := Lib.hid (HB.out.trans ((hF').to_below (B := w.heap.size) hzb (fun k hk hh => by rcases hh with hh | hh; (have := HSn.out k hh; omega); omega)))
      replace HSn : Hid (∀ b, (S9) b → w.heap.size ≤ b) := Lib.hid fun b hb => by rcases hS' b hb with h1 | h1; exact HSn.out b h1; omega
      clear hzb
      replace HT := Lib.hid hT'
      clear hT' hS' hF'
      go_wp2_with fail
      obtain ⟨hb_, hhb⟩ : ∃ hb_, (s.waits && s.hears 1 (repM nn 1 1 (res + 1))) = hb_ := ⟨_, rfl⟩
      obtain ⟨s2, hs2⟩ : ∃ s2, s2 = if hb_ = true then s.heard (stdC f) (repM nn 1 1 (res + 1)) else s := ⟨_, rfl⟩
      have hst := HW.out.step (n := nn) (id := 1) (q := 1) (c := stdC f) hf rfl ⟨z0, z1⟩
      rw [hhb, ← hs2] at hst
      have Hst := Lib.hid hst
      have hha := (heard_ans (s := s) (c := stdC f) (m := repM nn 1 1 (res + 1))).1
      have hal2 : s2.ans.length ≤ j + 1 := by rw [hs2]; split <;> omega
      have hne : s.issued ≠ [] := by rw [HW.out.is]; simp
      have hil : s.issued.length ≤ 1 := by rw [HW.out.is]; simp
      have hacl : s.acc.length ≤ 1 := by rw [HW.out.ac]; simp
      have Hne := Lib.hid hne
      have Hhb := Lib.hid hhb
      have Hs2 := Lib.hid hs2
      clear hst hha hne hhb hs2
      refine (cw_told S9 g bm h K L9 k ct (stdC f) 1 nn 1 1 (res + 1) s _ w9 hb_ (s2) bs K9 Hb_bs.out Hk_bs.out HT.out Hbs.out (by first | assumption | exact ⟨by decide, by decide⟩) ⟨by omega, by show nn ≤ 3 * f; omega⟩ ⟨by decide, by show _ < (2 : Int); decide⟩ (by show (2 : Int) ≤ 4; decide) ⟨by omega, by omega⟩ ⟨by omega, by omega⟩ (by omega) (fun _ => Hne.out) (by omega) (by omega) (by omega) Hhb.out Hs2.out).mono ?_
      rintro e wa ⟨rfl, Sa, hT', hS', hF'⟩
      clear Hbs
      replace Ht := Lib.hid (Ht.out.seal hF' hS')
      replace Hr := Lib.hid (Hr.out.seal hF' hS')
      have hzb := HB.out.size
      replace HB := Lib.hid (HB.out.trans ((hF').to_below (B := w.heap.size) hzb (fun k hk hh => by rcases hh with hh | hh; (have := HSn.out k hh; omega); omega)))
      replace HSn : Hid (∀ b, (Sa) b → w.heap.size ≤ b) := Lib.hid fun b hb => by rcases hS' b hb with h1 | h1; exact HSn.out b h1; omega
      clear hzb
      replace HT := Lib.hid hT'
      clear hT' hS' hF'
      go_wp2_with fail
      refine ⟨⟨j + 1, Sa, K9, L9, s2, by go_num, by omega, by omega, by omega, by omega, hal2, Hst, HT, HSn, HB, Ht, Hr⟩, ?_⟩
      simp [intOf]; omega
  case rest =>
    clear HT HSn HB Ht Hr HW0 hal0 hkl0
    obtain ⟨S', K, L, s, hKl, hLl, hal, HW, HT, HSn, HB, Ht, Hr⟩ := hcut
    have hws := HW.out.w
    have hne : s.issued ≠ [] := by rw [HW.out.is]; simp
    have hil : s.issued.length ≤ 1 := by rw [HW.out.is]; simp
    have hac := HW.out.ac
    have Hws := Lib.hid hws
    have Hne := Lib.hid hne
    have Hac := Lib.hid hac
    have HW2 := Lib.hid (HW.out.two hf.1)
    clear hws hne hac HW
    go_wp2_with fail
    refine (Cw.ask HT.out fun U hU => waits_yes U k ct g (stdC f) 1 s wc hU Hws.out Hne.out (by omega)).mono ?_
    rintro e w7 ⟨rfl, hbq⟩
    replace Ht := Lib.hid (Ht.out.below hbq)
    replace Hr := Lib.hid (Hr.out.below hbq)
    replace HT := Lib.hid (HT.out.below hbq)
    replace HB := Lib.hid (Below.then HB.out hbq HB.out.size)
    clear hbq
    go_upto_region 18 with fail
    have hba := alloc_below w7 (.cells #[.int .i64 s.last.c, .int .i64 s.last.t, .int .i64 s.last.k, .int .i64 s.last.y, .int .i64 s.last.v, .int .i64 s.last.s] 42)
    have hra : Rw (w7.alloc (.cells #[.int .i64 s.last.c, .int .i64 s.last.t, .int .i64 s.last.k, .int .i64 s.last.y, .int .i64 s.last.v, .int .i64 s.last.s] 42)) S' bm w7.heap.size (.cells #[.int .i64 s.last.c, .int .i64 s.last.t, .int .i64 s.last.k, .int .i64 s.last.y, .int .i64 s.last.v, .int .i64 s.last.s] 42 (0, 0)) := Rw.new (.cells #[.int .i64 s.last.c, .int .i64 s.last.t, .int .i64 s.last.k, .int .i64 s.last.y, .int .i64 s.last.v, .int .i64 s.last.s] 42) HT.out.lt HT.out.nt.lt.2
    have hsa : (w7.alloc (.cells #[.int .i64 s.last.c, .int .i64 s.last.t, .int .i64 s.last.k, .int .i64 s.last.y, .int .i64 s.last.v, .int .i64 s.last.s] 42)).heap.size = w7.heap.size + 1 := by simp
    obtain ⟨w8, hWa⟩ : ∃ W_, w7.alloc (.cells #[.int .i64 s.last.c, .int .i64 s.last.t, .int .i64 s.last.k, .int .i64 s.last.y, .int .i64 s.last.v, .int .i64 s.last.s] 42) = W_ := ⟨_, rfl⟩
    rw [hWa] at hba hra hsa ⊢
    have Hs_w8 := Lib.hid hsa
    have Hb_w8 := Lib.hid hba
    have Hx := Lib.hid hra
    clear hWa hra hsa
    replace Ht := Lib.hid (Ht.out.below hba)
    replace Hr := Lib.hid (Hr.out.below hba)
    replace HT := Lib.hid (HT.out.below hba)
    replace HB := Lib.hid (Below.then HB.out hba HB.out.size)
    clear hba
    clear Hx
    go_wp2_with fail
    refine (Cw.ask HT.out fun U hU => accepted_m U k ct g (stdC f) 1 s w8 hU (by rw [Hac.out]; simp)).mono ?_
    rintro e wb ⟨A_, c_, rfl, -, hbq⟩
    rw [Hac.out]
    simp only [List.length_nil]
    replace Ht := Lib.hid (Ht.out.below hbq)
    replace Hr := Lib.hid (Hr.out.below hbq)
    replace HT := Lib.hid (HT.out.below hbq)
    replace HB := Lib.hid (Below.then HB.out hbq HB.out.size)
    clear hbq
    go_wp2_with fail
    go_loopw [15] (fun i wr => ∃ (j : Nat) (S' : Nat → Prop) (K L : List Key) (s : CS), i = .int .i64 (j : Int) ∧ (j : Int) ≤ f + 1 ∧ K.length ≤ 42 + 2 * j ∧ L.length ≤ 40 + 2 * j ∧ s.ans.length ≤ 40 + j ∧ Hid (Wk2 s [] ⟨1, 1, 2, 3, 0, sN⟩ [] f f res j) ∧ Hid (Cw wr S' g bm h K L k ct (stdC f) 1 s) ∧ Hid (∀ b, S' b → w.heap.size ≤ b) ∧ Hid (Below w.heap.size w wr) ∧ Hid (Rw wr S' bm (h + 1) (.cells #[.pointer (some ⟨g, 0, none⟩), .pointer (some ⟨h, 0, none⟩)] 31 (0, 0))) ∧ Hid (Rw wr S' bm w5.heap.size (.cells #[.int .i64 1, .int .i64 1, .int .i64 2, .int .i64 3, .int .i64 0, .int .i64 sN] 42 (0, 0)))) (fun i _ => 6 - (intOf i).toNat)
    case atStart => exact ⟨0, S', K, L, s, rfl, by omega, by omega, by omega, by omega, HW2, HT, HSn, HB, Ht, Hr⟩
    case round =>
      clear HT HSn HB Ht Hr HW2 Hws Hne Hac hKl hLl hal hil
      obtain ⟨j, S', K, L, s, rfl, hj, hKl, hLl, hal, HW, HT, HSn, HB, Ht, Hr⟩ := hrel
      by_cases hlt : (j : Int) ≤ f
      case pos =>
        have hd1 : decide ((j : Int) ≤ f) = true := decide_eq_true hlt
        have hws : s.waits = true := by rw [HW.out.w]; exact decide_eq_true hlt
        have hne : s.issued ≠ [] := by rw [HW.out.is]; simp
        have hil : s.issued.length ≤ 1 := by rw [HW.out.is]; simp
        have hacl : s.acc.length ≤ 1 := by rw [HW.out.ac]; split <;> simp
        have hwfj : IntKind.i64.wrap (f + (j : Int)) = f + (j : Int) := IntWalk.i64_in _ (by omega)
        have Hws := Lib.hid hws
        have Hne := Lib.hid hne
        clear hws hne
        go_wp2_with fail
        refine (Cw.ask HT.out fun U hU => waits_yes U k ct g (stdC f) 1 s wr hU Hws.out Hne.out (by omega)).mono ?_
        rintro e w7 ⟨rfl, hbq⟩
        replace Ht := Lib.hid (Ht.out.below hbq)
        replace Hr := Lib.hid (Hr.out.below hbq)
        replace HT := Lib.hid (HT.out.below hbq)
        replace HB := Lib.hid (Below.then HB.out hbq HB.out.size)
        clear hbq
        go_upto_region 24 with fail
        have hba := alloc_below w7 (.cells #[.int .i64 s.last.c, .int .i64 s.last.t, .int .i64 s.last.k, .int .i64 s.last.y, .int .i64 s.last.v, .int .i64 s.last.s] 42)
        have hra : Rw (w7.alloc (.cells #[.int .i64 s.last.c, .int .i64 s.last.t, .int .i64 s.last.k, .int .i64 s.last.y, .int .i64 s.last.v, .int .i64 s.last.s] 42)) S' bm w7.heap.size (.cells #[.int .i64 s.last.c, .int .i64 s.last.t, .int .i64 s.last.k, .int .i64 s.last.y, .int .i64 s.last.v, .int .i64 s.last.s] 42 (0, 0)) := Rw.new (.cells #[.int .i64 s.last.c, .int .i64 s.last.t, .int .i64 s.last.k, .int .i64 s.last.y, .int .i64 s.last.v, .int .i64 s.last.s] 42) HT.out.lt HT.out.nt.lt.2
        have hsa : (w7.alloc (.cells #[.int .i64 s.last.c, .int .i64 s.last.t, .int .i64 s.last.k, .int .i64 s.last.y, .int .i64 s.last.v, .int .i64 s.last.s] 42)).heap.size = w7.heap.size + 1 := by simp
        obtain ⟨w8, hWa⟩ : ∃ W_, w7.alloc (.cells #[.int .i64 s.last.c, .int .i64 s.last.t, .int .i64 s.last.k, .int .i64 s.last.y, .int .i64 s.last.v, .int .i64 s.last.s] 42) = W_ := ⟨_, rfl⟩
        rw [hWa] at hba hra hsa ⊢
        have Hs_w8 := Lib.hid hsa
        have Hb_w8 := Lib.hid hba
        have Hx := Lib.hid hra
        clear hWa hra hsa
        replace Ht := Lib.hid (Ht.out.below hba)
        replace Hr := Lib.hid (Hr.out.below hba)
        replace HT := Lib.hid (HT.out.below hba)
        replace HB := Lib.hid (Below.then HB.out hba HB.out.size)
        clear hba
        have f_t0 : w8.cell? ⟨h + 1, 0, none⟩ = some (.pointer (some ⟨g, 0, none⟩)) := Ht.out.cell rfl
        have f_t1 : w8.cell? ⟨h + 1, 1, none⟩ = some (.pointer (some ⟨h, 0, none⟩)) := Ht.out.cell rfl
        clear Hx
        go_wp2_with fail
        clear f_t0 f_t1
        obtain ⟨bs, hbs⟩ : ∃ bs, envB K (repM (f + (j : Int)) 1 1 res) = bs := ⟨_, rfl⟩
        obtain ⟨K9, hK9⟩ : ∃ K2, sealK K (repM (f + (j : Int)) 1 1 res) = K2 := ⟨_, rfl⟩
        obtain ⟨L9, hL9⟩ : ∃ L2, sealK L (repM (f + (j : Int)) 1 1 res) = L2 := ⟨_, rfl⟩
        have hkl1 := sealK_len K (repM (f + (j : Int)) 1 1 res)
        have hkl2 := sealK_len L (repM (f + (j : Int)) 1 1 res)
        refine (cw_reply S' g bm h K L k ct (stdC f) 1 s (f + (j : Int)) 1 1 res bs w8 HT.out ⟨by omega, by omega⟩ (by omega) (by omega) (by rw [env_res (by first | assumption | exact ⟨by omega, by omega⟩) (by exact ⟨by omega, by omega⟩) (by exact ⟨by omega, by omega⟩) (by exact ⟨by omega, by omega⟩) (by omega)]; exact hbs)).mono ?_
        rintro e w9 ⟨A_, cp_, S9, rfl, hT', hS', hF', hbk⟩
        rw [hK9, hL9] at hT'
        rw [hK9] at hkl1
        rw [hL9] at hkl2
        have Hbs := Lib.hid hbk
        have Hb_bs := Lib.hid hbs
        have Hk_bs := Lib.hid hK9
        clear hbk hbs hK9 hL9
        replace Ht := Lib.hid (Ht.out.seal hF' hS')
        replace Hr := Lib.hid (Hr.out.seal hF' hS')
        have hzb := HB.out.size
        replace HB := Lib.hid (HB.out.trans ((hF').to_below (B := w.heap.size) hzb (fun k hk hh => by rcases hh with hh | hh; (have := HSn.out k hh; omega); omega)))
        replace HSn : Hid (∀ b, (S9) b → w.heap.size ≤ b) := Lib.hid fun b hb => by rcases hS' b hb with h1 | h1; exact HSn.out b h1; omega
        clear hzb
        replace HT := Lib.hid hT'
        clear hT' hS' hF'
        go_wp2_with fail
        refine (cw_told S9 g bm h K L9 k ct (stdC f) 1 (f + (j : Int)) 1 1 res s _ w9 true (s.heard (stdC f) (repM (f + (j : Int)) 1 1 res)) bs K9 Hb_bs.out Hk_bs.out HT.out Hbs.out (by first | assumption | exact ⟨by decide, by decide⟩) ⟨by omega, by show f + (j : Int) ≤ 3 * f; omega⟩ ⟨by decide, by show _ < (2 : Int); decide⟩ (by show (2 : Int) ≤ 4; decide) ⟨by omega, by omega⟩ ⟨by omega, by omega⟩ (by omega) (fun _ => Hne.out) (by omega) (by omega) (by omega) (HW.out.hears (id := 1) hlt) (if_pos rfl).symm).mono ?_
        rintro e wa ⟨rfl, Sa, hT', hS', hF'⟩
        clear Hbs
        replace Ht := Lib.hid (Ht.out.seal hF' hS')
        replace Hr := Lib.hid (Hr.out.seal hF' hS')
        have hzb := HB.out.size
        replace HB := Lib.hid (HB.out.trans ((hF').to_below (B := w.heap.size) hzb (fun k hk hh => by rcases hh with hh | hh; (have := HSn.out k hh; omega); omega)))
        replace HSn : Hid (∀ b, (Sa) b → w.heap.size ≤ b) := Lib.hid fun b hb => by rcases hS' b hb with h1 | h1; exact HSn.out b h1; omega
        clear hzb
        replace HT := Lib.hid hT'
        clear hT' hS' hF'
        have hst := HW.out.step (id := 1) (c := stdC f) hf rfl hlt
        have hdf := heard_deaf (s := s) (c := stdC f) (n := f + (j : Int)) (i := 1) (q := 1) (r := res) (id := 1) (i2 := 1) (q2 := 1) (r2 := res)
        have hha := heard_ans (s := s) (c := stdC f) (m := repM (f + (j : Int)) 1 1 res)
        obtain ⟨s', hs'⟩ : ∃ s', s.heard (stdC f) (repM (f + (j : Int)) 1 1 res) = s' := ⟨_, rfl⟩
        have hst' : Wk2 s' [] ⟨1, 1, 2, 3, 0, sN⟩ [] f f res (j + 1) := by rw [← hs']; exact hst
        rw [hs'] at HT hdf hha
        have Hst := Lib.hid hst'
        have Hdf := Lib.hid hdf
        obtain ⟨hha1, hha2, hha3, _⟩ := hha
        have hil' : s'.issued.length ≤ 1 := by rw [hha2]; exact hil
        have hne' : s'.issued ≠ [] := by rw [hha2]; exact Hne.out
        have Hne' := Lib.hid hne'
        clear hst hs' hst' hdf hha2 hne' Hws Hne
        have f_t0 : wa.cell? ⟨h + 1, 0, none⟩ = some (.pointer (some ⟨g, 0, none⟩)) := Ht.out.cell rfl
        have f_t1 : wa.cell? ⟨h + 1, 1, none⟩ = some (.pointer (some ⟨h, 0, none⟩)) := Ht.out.cell rfl
        go_wp2_with fail
        clear f_t0 f_t1
        obtain ⟨bs2, hbs2⟩ : ∃ bs, envB K9 (repM (f + (j : Int)) 1 1 res) = bs := ⟨_, rfl⟩
        obtain ⟨K10, hK10⟩ : ∃ K2, sealK K9 (repM (f + (j : Int)) 1 1 res) = K2 := ⟨_, rfl⟩
        obtain ⟨L10, hL10⟩ : ∃ L2, sealK L9 (repM (f + (j : Int)) 1 1 res) = L2 := ⟨_, rfl⟩
        have hkl1 := sealK_len K9 (repM (f + (j : Int)) 1 1 res)
        have hkl2 := sealK_len L9 (repM (f + (j : Int)) 1 1 res)
        refine (cw_reply Sa g bm h K9 L9 k ct (stdC f) 1 s' (f + (j : Int)) 1 1 res bs2 wa HT.out ⟨by omega, by omega⟩ (by omega) (by omega) (by rw [env_res (by first | assumption | exact ⟨by omega, by omega⟩) (by exact ⟨by omega, by omega⟩) (by exact ⟨by omega, by omega⟩) (by exact ⟨by omega, by omega⟩) (by omega)]; exact hbs2)).mono ?_
        rintro e wd ⟨A_, cp_, Sd, rfl, hT', hS', hF', hbk⟩
        rw [hK10, hL10] at hT'
        rw [hK10] at hkl1
        rw [hL10] at hkl2
        have Hbs2 := Lib.hid hbk
        have Hb_bs2 := Lib.hid hbs2
        have Hk_bs2 := Lib.hid hK10
        clear hbk hbs2 hK10 hL10
        replace Ht := Lib.hid (Ht.out.seal hF' hS')
        replace Hr := Lib.hid (Hr.out.seal hF' hS')
        have hzb := HB.out.size
        replace HB := Lib.hid (HB.out.trans ((hF').to_below (B := w.heap.size) hzb (fun k hk hh => by rcases hh with hh | hh; (have := HSn.out k hh; omega); omega)))
        replace HSn : Hid (∀ b, (Sd) b → w.heap.size ≤ b) := Lib.hid fun b hb => by rcases hS' b hb with h1 | h1; exact HSn.out b h1; omega
        clear hzb
        replace HT := Lib.hid hT'
        clear hT' hS' hF'
        go_wp2_with fail
        refine (cw_told Sd g bm h K9 L10 k ct (stdC f) 1 (f + (j : Int)) 1 1 res s' _ wd false (s') bs2 K10 Hb_bs2.out Hk_bs2.out HT.out Hbs2.out (by first | assumption | exact ⟨by decide, by decide⟩) ⟨by omega, by show f + (j : Int) ≤ 3 * f; omega⟩ ⟨by decide, by show _ < (2 : Int); decide⟩ (by show (2 : Int) ≤ 4; decide) ⟨by omega, by omega⟩ ⟨by omega, by omega⟩ (by omega) (fun _ => Hne'.out) (by omega) (by omega) (by omega) (by rw [Hdf.out, Bool.and_false]) (if_neg (by decide)).symm).mono ?_
        rintro e we ⟨rfl, Se, hT', hS', hF'⟩
        clear Hbs2
        replace Ht := Lib.hid (Ht.out.seal hF' hS')
        replace Hr := Lib.hid (Hr.out.seal hF' hS')
        have hzb := HB.out.size
        replace HB := Lib.hid (HB.out.trans ((hF').to_below (B := w.heap.size) hzb (fun k hk hh => by rcases hh with hh | hh; (have := HSn.out k hh; omega); omega)))
        replace HSn : Hid (∀ b, (Se) b → w.heap.size ≤ b) := Lib.hid fun b hb => by rcases hS' b hb with h1 | h1; exact HSn.out b h1; omega
        clear hzb
        replace HT := Lib.hid hT'
        clear hT' hS' hF'
        go_wp2_with fail
        refine ⟨⟨j + 1, Se, K10, L10, s', by go_num, by omega, by omega, by omega, by omega, Hst, HT, HSn, HB, Ht, Hr⟩, ?_⟩
        simp [intOf]; omega
      have hd1 : decide ((j : Int) ≤ f) = false := decide_eq_false hlt
      have hws : s.waits = false := by rw [HW.out.w]; exact decide_eq_false hlt
      have hac : s.acc = [(⟨1, 1, 2, 3, 0, sN⟩, res)] := by rw [HW.out.ac, if_neg hlt]; rfl
      have Hac := Lib.hid hac
      have Hws := Lib.hid hws
      clear hac hws
      go_wp2_with fail
      refine (Cw.ask HT.out fun U hU => accepted_m U k ct g (stdC f) 1 s wr hU (by rw [Hac.out]; simp)).mono ?_
      rintro e w7 ⟨A_, c_, rfl, hown, hbq⟩
      rw [Hac.out] at hown ⊢
      obtain ⟨A', c', e_, _, _, hxl⟩ := own_slice hown
      obtain ⟨b0, rfl, _, hb0, hli⟩ := hxl (by simp)
      injection e_ with e1 _ e3
      subst e1 e3
      have hrg7 : w7.rangeAt b0 0 [.int .i64 1, .int .i64 1, .int .i64 2, .int .i64 3, .int .i64 0, .int .i64 sN, .int .i64 res] := fun j_ u_ h_ => by have h2 := hli j_ u_ (by simpa [ev, iv] using h_); rwa [Nat.zero_add] at h2 ⊢
      have HR7 := Lib.hid hrg7
      clear hown hxl hli hrg7
      simp only [List.length_cons, List.length_nil, Nat.zero_add]
      replace Ht := Lib.hid (Ht.out.below hbq)
      replace Hr := Lib.hid (Hr.out.below hbq)
      replace HT := Lib.hid (HT.out.below hbq)
      replace HB := Lib.hid (Below.then HB.out hbq HB.out.size)
      clear hbq
      go_wp2_with fail
      refine (Cw.ask HT.out fun U hU => waits_no U k ct g (stdC f) 1 s w7 hU Hws.out).mono ?_
      rintro e w8 ⟨rfl, hbq⟩
      have HR8 := Lib.hid (range_keep HR7.out (hbq.block b0 hb0))
      have hb08 : b0 < w8.heap.size := by have := hbq.size; omega
      clear HR7
      replace Ht := Lib.hid (Ht.out.below hbq)
      replace Hr := Lib.hid (Hr.out.below hbq)
      replace HT := Lib.hid (HT.out.below hbq)
      replace HB := Lib.hid (Below.then HB.out hbq HB.out.size)
      clear hbq
      go_upto_region 28 with fail
      have hba := alloc_below w8 (.cells #[.int .i64 0, .int .i64 0, .int .i64 0, .int .i64 0, .int .i64 0, .int .i64 0] 42)
      have hra : Rw (w8.alloc (.cells #[.int .i64 0, .int .i64 0, .int .i64 0, .int .i64 0, .int .i64 0, .int .i64 0] 42)) S' bm w8.heap.size (.cells #[.int .i64 0, .int .i64 0, .int .i64 0, .int .i64 0, .int .i64 0, .int .i64 0] 42 (0, 0)) := Rw.new (.cells #[.int .i64 0, .int .i64 0, .int .i64 0, .int .i64 0, .int .i64 0, .int .i64 0] 42) HT.out.lt HT.out.nt.lt.2
      have hsa : (w8.alloc (.cells #[.int .i64 0, .int .i64 0, .int .i64 0, .int .i64 0, .int .i64 0, .int .i64 0] 42)).heap.size = w8.heap.size + 1 := by simp
      obtain ⟨w9, hWa⟩ : ∃ W_, w8.alloc (.cells #[.int .i64 0, .int .i64 0, .int .i64 0, .int .i64 0, .int .i64 0, .int .i64 0] 42) = W_ := ⟨_, rfl⟩
      rw [hWa] at hba hra hsa ⊢
      have Hs_w9 := Lib.hid hsa
      have Hb_w9 := Lib.hid hba
      have Hx := Lib.hid hra
      clear hWa hra hsa
      replace Ht := Lib.hid (Ht.out.below hba)
      replace Hr := Lib.hid (Hr.out.below hba)
      replace HT := Lib.hid (HT.out.below hba)
      replace HB := Lib.hid (Below.then HB.out hba HB.out.size)
      clear hba
      clear Hx
      have HR9 := Lib.hid (range_keep HR8.out (Hb_w9.out.block b0 hb08))
      have hb09 : b0 < w9.heap.size := by have := Hb_w9.out.size; omega
      have HRE : Hid (∀ w' : World, (∃ p : Later w9, w' = p.W) → w'.rangeAt b0 0 [.int .i64 1, .int .i64 1, .int .i64 2, .int .i64 3, .int .i64 0, .int .i64 sN, .int .i64 res]) := Lib.hid (by rintro w' ⟨p, rfl⟩; exact range_keep HR9.out (p.h.block b0 hb09))
      have HRQ : Hid (∀ w' : World, (∃ p : Later w9, w' = p.W) → w'.rangeAt w5.heap.size 0 [.int .i64 1, .int .i64 1, .int .i64 2, .int .i64 3, .int .i64 0, .int .i64 sN]) := Lib.hid (by rintro w' ⟨p, rfl⟩; exact range_of_row ((p.h.block _ Hr.out.lt).trans Hr.out.row))
      have HWk : Hid (∀ p : Later w9, Calls Tryz.prog 17 #[] p.W fun e w' => e = .returned (.bool true) ∧ Below p.W.heap.size p.W w') := Lib.hid fun p => wakes22 p.W
      refine wp_region_later (by kernel_rfl) (by kernel_rfl) ?_
      repeat ((with_reducible show wpQuiet _ _ _ _ _ _); first | ((with_reducible refine wpQuiet_bare ?_ ?_); (· rfl)) | (refine quiet_load (by simp [Region.wanted, yielded]) 61 (.tmp 153) (by rfl) b0 0 (by rfl) [.int .i64 1, .int .i64 1, .int .i64 2, .int .i64 3, .int .i64 0, .int .i64 sN, .int .i64 res] _ HRE.out Tryz.underlying61 rfl sizeEn ?_; intro K hK; go_simp; refine hK _ ?_; clear hK K) | (refine quiet_load (by simp [Region.wanted, yielded]) 42 (.tmp 10) (by rfl) w5.heap.size 0 (by rfl) [.int .i64 1, .int .i64 1, .int .i64 2, .int .i64 3, .int .i64 0, .int .i64 sN] _ HRQ.out Tryz.underlying42 rfl rst_sizeR ?_; intro K hK; go_simp; refine hK _ ?_; clear hK K) | (refine quiet_val (by simp [Region.wanted, yielded]) (.bool true) (fun w hC => exec_eql_ent (.tmp 154) (.tmp 157) _ rfl 1 1 2 3 0 sN res rfl rfl) ?_; intro K hK; go_simp; refine hK _ ?_; clear hK K) | go_big_quiet_step ((go_at_call 17; exact later_call _ (HWk.out _))) | quiet_step ((go_at_call 17; exact later_call _ (HWk.out _))))
      refine wpQuiet_nil ?_
      intro wz hw'
      have hbz := later_out hw'
      have HBz := Lib.hid hbz
      clear hw' hbz
      go_wp2_with fail
      go_ret
      exact ⟨rfl, Below.then HB.out HBz.out HB.out.size⟩
end Go.Proofs.YtipmjleohadoeaaGreat.clientWeak
