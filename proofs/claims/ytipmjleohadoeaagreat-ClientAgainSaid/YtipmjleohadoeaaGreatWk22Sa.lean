/- The example of the document's chapter 22. Printed by gen_wk22.py. -/
import Derived.Test.YtipmjleohadoeaaGreatCwlSa
namespace Go.Proofs.YtipmjleohadoeaaGreat
open Go.RowKit
set_option linter.unusedVariables false
set_option linter.unusedSimpArgs false

set_option maxRecDepth 100000 in
set_option maxHeartbeats 8000000 in
theorem wakes22 (w : World) : Calls Tryz.prog 17 #[] w fun e w' => e = .returned (.bool true) ∧ Below w.heap.size w w' := by
  have hf1 : (1 : Int) ≤ 1 ∧ (1 : Int) ≤ 4 := ⟨by decide, by decide⟩
  go_enter Tryz.func17, Tryz.ntmps17
  go_wp2_with fail
  refine (nt_new w).mono ?_
  rintro e w1 ⟨g, bm, rfl, hN, hb1, hg1, hg2⟩
  have hz1 := hb1.size
  have hgl := hN.lt
  go_upto_region 2 with fail
  have hba := alloc_below w1 (.cells #[.slice none 0 0, .slice none 0 0] 29)
  have hca := heap_alloc_new w1 (.cells #[.slice none 0 0, .slice none 0 0] 29)
  have hsa : (w1.alloc (.cells #[.slice none 0 0, .slice none 0 0] 29)).heap.size = w1.heap.size + 1 := by simp
  obtain ⟨h, hh⟩ : ∃ h, w1.heap.size = h := ⟨_, rfl⟩
  have hbb := alloc_below (w1.alloc (.cells #[.slice none 0 0, .slice none 0 0] 29)) (.cells #[.pointer (some ⟨g, 0, none⟩), .pointer (some ⟨w1.heap.size, 0, none⟩)] 31)
  have hcb := heap_alloc_new (w1.alloc (.cells #[.slice none 0 0, .slice none 0 0] 29)) (.cells #[.pointer (some ⟨g, 0, none⟩), .pointer (some ⟨w1.heap.size, 0, none⟩)] 31)
  rw [hsa] at hcb
  have hsb : ((w1.alloc (.cells #[.slice none 0 0, .slice none 0 0] 29)).alloc (.cells #[.pointer (some ⟨g, 0, none⟩), .pointer (some ⟨w1.heap.size, 0, none⟩)] 31)).heap.size = w1.heap.size + 2 := by simp
  have hnb := (hbb.block w1.heap.size (by omega)).trans hca
  obtain ⟨w2, hw2⟩ : ∃ w2, (w1.alloc (.cells #[.slice none 0 0, .slice none 0 0] 29)).alloc (.cells #[.pointer (some ⟨g, 0, none⟩), .pointer (some ⟨w1.heap.size, 0, none⟩)] 31) = w2 := ⟨_, rfl⟩
  rw [hw2] at hbb hcb hsb hnb ⊢
  rw [hh] at hnb hcb ⊢
  have hb2 : Below w1.heap.size w1 w2 := hba.trans (hbb.mono (by omega))
  have hTv : Tv w2 (fun b => b = h) g bm h [] [] := ⟨hN.below hb2, ⟨_, _, hnb, ⟨rfl, Or.inl ⟨rfl, rfl⟩⟩, ⟨rfl, Or.inl ⟨rfl, rfl⟩⟩, rfl, fun b hb => (by cases hb), fun b hb => (by cases hb)⟩, ⟨by omega, by omega⟩, fun b hb => by omega, rfl⟩
  have HTv := Lib.hid hTv
  have HB2 := Lib.hid (Below.then hb1 hb2 hb1.size)
  have HCB := Lib.hid hcb
  have hh1 : h < w2.heap.size := by omega
  have hh2 : h + 1 < w2.heap.size := by omega
  have hwh : w.heap.size ≤ h := by omega
  have hgh : g < h := by omega
  have hbh : bm < h := by omega
  have f0 : w2.cell? ⟨h + 1, 0, none⟩ = some (.pointer (some ⟨g, 0, none⟩)) := rowc hcb 0 rfl
  clear hN hb1 hba hca hsa hbb hcb hsb hnb hw2 hb2 hTv hh
  go_upto_region 4 with fail
  clear f0
  have l0 := later_cell (w := w2.drew) (show w2.drew.cell? ⟨h + 1, 0, none⟩ = some (.pointer (some ⟨g, 0, none⟩)) from rowc HCB.out 0 rfl)
  refine wp_region_phases [(true, 1), (true, 2), (false, 0), (false, 3), (true, 4), (true, 5), (true, 6), (true, 7), (true, 8)] (by kernel_rfl) (by kernel_rfl) ?_
  simp only [phW, List.getElem?_cons_zero, List.getElem?_cons_succ, Option.toList, List.length_cons, List.length_nil, Nat.reduceAdd, List.drop_succ_cons, List.drop_zero]
  repeat (first | go_big_quiet_step (fail) | quiet_step (fail) | refine wpQuiet_nil ?_)
  clear l0
  go_wp2_with fail
  refine (std_any 1 w2.drew).mono ?_
  rintro e w3 ⟨rfl, hb3⟩
  have hb23 : Below w2.heap.size w2 w3 := (Below.refl _ _).drew.trans hb3
  have HB23 := Lib.hid hb23
  have HBd := Lib.hid hb3
  have hz3 := hb23.size
  clear hb3 hb23
  go_wp2_with fail
  refine And.intro ⟨⟨w3, HBd.out⟩, rfl⟩ ?_
  go_wp2_with fail
  refine (new_yes (stdC 1) 0 g w3 (std_ok (by first | assumption | exact ⟨by omega, by omega⟩)) ⟨by decide, by show (0 : Int) < 2; decide⟩).mono ?_
  rintro e w4 ⟨k, ct, rfl, hcl, hb4, hk4, hct4⟩
  have hz4 := hb4.size
  have HT : Hid (Cw w4 (fun b => b = h ∨ (b = k ∨ b = ct)) g bm h [] [] k ct (stdC 1) 0 cs0) := Lib.hid (Cw.start ((HTv.out.below HB23.out).below hb4) hcl fun b hb => by rcases hb with hb | hb <;> (subst hb; exact ⟨by omega, by omega, by omega⟩))
  have Ht : Hid (Rw w4 (fun b => b = h ∨ (b = k ∨ b = ct)) bm (h + 1) (.cells #[.pointer (some ⟨g, 0, none⟩), .pointer (some ⟨h, 0, none⟩)] 31 (0, 0))) := Lib.hid ⟨(hb4.block _ (by omega)).trans ((HB23.out.block _ hh2).trans HCB.out), by omega, by rintro (hh | hh | hh) <;> omega, by omega⟩
  have HB : Hid (Below w.heap.size w w4) := Lib.hid (Below.then (Below.then HB2.out HB23.out HB2.out.size) hb4 (Below.then HB2.out HB23.out HB2.out.size).size)
  have HSn : Hid (∀ b, (b = h ∨ (b = k ∨ b = ct)) → w.heap.size ≤ b) := Lib.hid fun b hb => by rcases hb with hb | hb | hb <;> omega
  have HLF := Lib.hid (Below.then HBd.out hb4 HBd.out.size)
  clear hb4 hcl HTv HCB
  go_wp2_with fail
  refine And.intro ⟨⟨w4, HLF.out⟩, rfl⟩ ?_
  repeat (first | go_big_quiet_step (fail) | quiet_step (fail) | refine wpQuiet_nil ?_)
  clear HB2 HB23 HBd HLF hz3 hz4 hz1
  go_wp2_with fail
  obtain ⟨r, hr⟩ : ∃ r : Psp.Req, r = { bareQ 0 cs0 5 0 0 with s := sealN [] (kR (bareQ 0 cs0 5 0 0)) } := ⟨_, rfl⟩
  obtain ⟨P_, hP_⟩ : ∃ P_, sendS (stdC 1) 0 (sealL [] (kR (bareQ 0 cs0 5 0 0))) { cs0 with issued := cs0.issued ++ [r], waits := true, at_ := cs0.now, ans := [] } = P_ := ⟨_, rfl⟩
  obtain ⟨s1, K1⟩ := P_
  have hfa := issue_facts (c := stdC 1) (by first | assumption | exact ⟨by decide, by decide⟩) hP_
  refine (cw_issue (fun b => b = h ∨ (b = k ∨ b = ct)) g bm h [] [] k ct (stdC 1) 0 cs0 5 0 0 r s1 K1 w4 HT.out (by first | assumption | exact ⟨by decide, by decide⟩) (by show (2 : Int) ≤ 4; decide) ⟨by decide, by decide⟩ rfl (by decide) (by decide) (by decide) (by decide) hr hP_).mono ?_
  rintro e w5 ⟨rfl, S5, hT', hS', hF'⟩
  have HFa := Lib.hid hfa
  have Hr_ := Lib.hid hr
  clear hP_ hfa hr
  replace Ht := Lib.hid (Ht.out.seal hF' hS')
  have hzb := HB.out.size
  replace HB := Lib.hid (HB.out.trans ((hF').to_below (B := w.heap.size) hzb (fun k hk hh => by rcases hh with hh | hh; (have := HSn.out k hh; omega); omega)))
  replace HSn : Hid (∀ b, (S5) b → w.heap.size ≤ b) := Lib.hid fun b hb => by rcases hS' b hb with h1 | h1; exact HSn.out b h1; omega
  clear hzb
  replace HT := Lib.hid hT'
  clear hT' hS' hF'
  go_upto_region 8 with fail
  have hba := alloc_below w5 (.cells #[.int .i64 r.c, .int .i64 r.t, .int .i64 r.k, .int .i64 r.y, .int .i64 r.v, .int .i64 r.s] 42)
  have hra : Rw (w5.alloc (.cells #[.int .i64 r.c, .int .i64 r.t, .int .i64 r.k, .int .i64 r.y, .int .i64 r.v, .int .i64 r.s] 42)) S5 bm w5.heap.size (.cells #[.int .i64 r.c, .int .i64 r.t, .int .i64 r.k, .int .i64 r.y, .int .i64 r.v, .int .i64 r.s] 42 (0, 0)) := Rw.new (.cells #[.int .i64 r.c, .int .i64 r.t, .int .i64 r.k, .int .i64 r.y, .int .i64 r.v, .int .i64 r.s] 42) HT.out.lt HT.out.nt.lt.2
  have hsa : (w5.alloc (.cells #[.int .i64 r.c, .int .i64 r.t, .int .i64 r.k, .int .i64 r.y, .int .i64 r.v, .int .i64 r.s] 42)).heap.size = w5.heap.size + 1 := by simp
  obtain ⟨w6, hWa⟩ : ∃ W_, w5.alloc (.cells #[.int .i64 r.c, .int .i64 r.t, .int .i64 r.k, .int .i64 r.y, .int .i64 r.v, .int .i64 r.s] 42) = W_ := ⟨_, rfl⟩
  rw [hWa] at hba hra hsa ⊢
  have Hs_w6 := Lib.hid hsa
  have Hb_w6 := Lib.hid hba
  have Hr := Lib.hid hra
  clear hWa hra hsa
  replace Ht := Lib.hid (Ht.out.below hba)
  replace HT := Lib.hid (HT.out.below hba)
  replace HB := Lib.hid (Below.then HB.out hba HB.out.size)
  clear hba
  have hrt : r.t = 1 := by rw [Hr_.out]; rfl
  obtain ⟨hw1, hi1, ha1, hc1, ho1, hk1, _, _⟩ := HFa.out
  have HW0 : Hid (Wk2 s1 [] r [] 1 0 5 0) := Lib.hid (Wk2.start hw1 hi1 ha1 hc1 (by decide))
  have hal0 : s1.ans.length ≤ 0 := by rw [ha1]; exact Nat.le_refl _
  have hkl0 : K1.length ≤ 2 := hk1
  have Hrt := Lib.hid hrt
  clear hw1 hi1 ha1 hc1 ho1 hk1 HFa Hr_ hrt
  go_wp2_with fail
  go_loopw [6] (fun i wr => ∃ (j : Nat) (S' : Nat → Prop) (K L : List Key) (s : CS), i = .int .i64 (j : Int) ∧ j ≤ 2 ∧ K.length ≤ 2 + j ∧ L.length ≤ j ∧ s.ans.length ≤ j ∧ Hid (Wk2 s [] r [] 1 0 5 j) ∧ Hid (Cw wr S' g bm h K L k ct (stdC 1) 0 s) ∧ Hid (∀ b, S' b → w.heap.size ≤ b) ∧ Hid (Below w.heap.size w wr) ∧ Hid (Rw wr S' bm (h + 1) (.cells #[.pointer (some ⟨g, 0, none⟩), .pointer (some ⟨h, 0, none⟩)] 31 (0, 0)))) (fun i _ => 2 - (intOf i).toNat)
  case atStart => exact ⟨0, S5, K1, [], s1, rfl, by omega, by omega, by simp, hal0, HW0, HT, HSn, HB, Ht⟩
  case round =>
    clear HT HSn HB Ht HW0 hal0 hkl0
    obtain ⟨j, S', K, L, s, rfl, hj, hKl, hLl, hal, HW, HT, HSn, HB, Ht⟩ := hrel
    by_cases hlt : j < 2
    case pos =>
      have hd1 : decide ((j : Int) < 2) = true := by simp; omega
      have hj1 : (j : Int) ≤ 1 := by omega
      have hws : s.waits = true := by rw [HW.out.w]; exact decide_eq_true hj1
      have hne : s.issued ≠ [] := by rw [HW.out.is]; simp
      have hil : s.issued.length ≤ 1 := by rw [HW.out.is]; simp
      have hacl : s.acc.length ≤ 1 := by rw [HW.out.ac]; split <;> simp
      have Hws := Lib.hid hws
      have Hne := Lib.hid hne
      clear hws hne
      go_wp2_with fail
      refine (Cw.ask HT.out fun U hU => waits_yes U k ct g (stdC 1) 0 s wr hU Hws.out Hne.out (by omega)).mono ?_
      rintro e w7 ⟨rfl, hbq⟩
      replace Ht := Lib.hid (Ht.out.below hbq)
      replace HT := Lib.hid (HT.out.below hbq)
      replace HB := Lib.hid (Below.then HB.out hbq HB.out.size)
      clear hbq
      go_upto_region 14 with fail
      have hba := alloc_below w7 (.cells #[.int .i64 s.last.c, .int .i64 s.last.t, .int .i64 s.last.k, .int .i64 s.last.y, .int .i64 s.last.v, .int .i64 s.last.s] 42)
      have hra : Rw (w7.alloc (.cells #[.int .i64 s.last.c, .int .i64 s.last.t, .int .i64 s.last.k, .int .i64 s.last.y, .int .i64 s.last.v, .int .i64 s.last.s] 42)) S' bm w7.heap.size (.cells #[.int .i64 s.last.c, .int .i64 s.last.t, .int .i64 s.last.k, .int .i64 s.last.y, .int .i64 s.last.v, .int .i64 s.last.s] 42 (0, 0)) := Rw.new (.cells #[.int .i64 s.last.c, .int .i64 s.last.t, .int .i64 s.last.k, .int .i64 s.last.y, .int .i64 s.last.v, .int .i64 s.last.s] 42) HT.out.lt HT.out.nt.lt.2
      have hsa : (w7.alloc (.cells #[.int .i64 s.last.c, .int .i64 s.last.t, .int .i64 s.last.k, .int .i64 s.last.y, .int .i64 s.last.v, .int .i64 s.last.s] 42)).heap.size = w7.heap.size + 1 := by simp
      obtain ⟨w8, hWa⟩ : ∃ W_, w7.alloc (.cells #[.int .i64 s.last.c, .int .i64 s.last.t, .int .i64 s.last.k, .int .i64 s.last.y, .int .i64 s.last.v, .int .i64 s.last.s] 42) = W_ := ⟨_, rfl⟩
      rw [hWa] at hba hra hsa ⊢
      have Hs_w8 := Lib.hid hsa
      have Hb_w8 := Lib.hid hba
      have Hx := Lib.hid hra
      clear hWa hra hsa
      replace Ht := Lib.hid (Ht.out.below hba)
      replace HT := Lib.hid (HT.out.below hba)
      replace HB := Lib.hid (Below.then HB.out hba HB.out.size)
      clear hba
      have f_t0 : w8.cell? ⟨h + 1, 0, none⟩ = some (.pointer (some ⟨g, 0, none⟩)) := Ht.out.cell rfl
      have f_t1 : w8.cell? ⟨h + 1, 1, none⟩ = some (.pointer (some ⟨h, 0, none⟩)) := Ht.out.cell rfl
      go_wp2_with fail
      clear f_t0 f_t1
      obtain ⟨bs, hbs⟩ : ∃ bs, envB K (repM (j : Int) 0 1 5) = bs := ⟨_, rfl⟩
      obtain ⟨K9, hK9⟩ : ∃ K2, sealK K (repM (j : Int) 0 1 5) = K2 := ⟨_, rfl⟩
      obtain ⟨L9, hL9⟩ : ∃ L2, sealK L (repM (j : Int) 0 1 5) = L2 := ⟨_, rfl⟩
      have hkl1 := sealK_len K (repM (j : Int) 0 1 5)
      have hkl2 := sealK_len L (repM (j : Int) 0 1 5)
      refine (cw_reply S' g bm h K L k ct (stdC 1) 0 s (j : Int) 0 1 5 bs w8 HT.out ⟨by omega, by omega⟩ (by omega) (by omega) (by rw [env_res (by first | assumption | exact ⟨by omega, by omega⟩) (by exact ⟨by omega, by omega⟩) (by exact ⟨by omega, by omega⟩) (by exact ⟨by omega, by omega⟩) (by omega)]; exact hbs)).mono ?_
      rintro e w9 ⟨A_, cp_, S9, rfl, hT', hS', hF', hbk⟩
      rw [hK9, hL9] at hT'
      rw [hK9] at hkl1
      rw [hL9] at hkl2
      have Hbs := Lib.hid hbk
      have Hb_bs := Lib.hid hbs
      have Hk_bs := Lib.hid hK9
      clear hbk hbs hK9 hL9
      replace Ht := Lib.hid (Ht.out.seal hF' hS')
      have hzb := HB.out.size
      replace HB := Lib.hid (HB.out.trans ((hF').to_below (B := w.heap.size) hzb (fun k hk hh => by rcases hh with hh | hh; (have := HSn.out k hh; omega); omega)))
      replace HSn : Hid (∀ b, (S9) b → w.heap.size ≤ b) := Lib.hid fun b hb => by rcases hS' b hb with h1 | h1; exact HSn.out b h1; omega
      clear hzb
      replace HT := Lib.hid hT'
      clear hT' hS' hF'
      go_wp2_with fail
      refine (cw_told S9 g bm h K L9 k ct (stdC 1) 0 (j : Int) 0 1 5 s _ w9 true (s.heard (stdC 1) (repM (j : Int) 0 1 5)) bs K9 Hb_bs.out Hk_bs.out HT.out Hbs.out (by first | assumption | exact ⟨by decide, by decide⟩) ⟨by omega, by show (j : Int) ≤ 3 * 1; omega⟩ ⟨by decide, by show _ < (2 : Int); decide⟩ (by show (2 : Int) ≤ 4; decide) ⟨by omega, by omega⟩ ⟨by omega, by omega⟩ (by omega) (fun _ => Hne.out) (by omega) (by omega) (by omega) (by have h_ := HW.out.hears (id := 0) hj1; rw [Int.zero_add, Hrt.out] at h_; exact h_) (if_pos rfl).symm).mono ?_
      rintro e wa ⟨rfl, Sa, hT', hS', hF'⟩
      clear Hbs
      replace Ht := Lib.hid (Ht.out.seal hF' hS')
      have hzb := HB.out.size
      replace HB := Lib.hid (HB.out.trans ((hF').to_below (B := w.heap.size) hzb (fun k hk hh => by rcases hh with hh | hh; (have := HSn.out k hh; omega); omega)))
      replace HSn : Hid (∀ b, (Sa) b → w.heap.size ≤ b) := Lib.hid fun b hb => by rcases hS' b hb with h1 | h1; exact HSn.out b h1; omega
      clear hzb
      replace HT := Lib.hid hT'
      clear hT' hS' hF'
      have hst := HW.out.step (id := 0) (c := stdC 1) ⟨by decide, by decide⟩ rfl hj1
      rw [Int.zero_add, Hrt.out] at hst
      have Hst := Lib.hid hst
      have hha := (heard_ans (s := s) (c := stdC 1) (m := repM (j : Int) 0 1 5)).1
      obtain ⟨s', hs'⟩ : ∃ s', s.heard (stdC 1) (repM (j : Int) 0 1 5) = s' := ⟨_, rfl⟩
      rw [hs'] at HT Hst hha
      clear hst hs'
      go_wp2_with fail
      refine ⟨⟨j + 1, Sa, K9, L9, s', by go_num, by omega, by omega, by omega, by omega, Hst, HT, HSn, HB, Ht⟩, ?_⟩
      simp [intOf]; omega
    have hj2 : j = 2 := by omega
    subst hj2
    have hd1 : decide (((2 : Nat) : Int) < 2) = false := by decide
    have hac : s.acc = [(r, 5)] := by rw [HW.out.ac]; rfl
    have Hac := Lib.hid hac
    clear hac
    go_wp2_with fail
    refine (Cw.ask HT.out fun U hU => accepted_m U k ct g (stdC 1) 0 s wr hU (by rw [Hac.out]; simp)).mono ?_
    rintro e w7 ⟨A_, c_, rfl, hown, hbq⟩
    rw [Hac.out] at hown ⊢
    obtain ⟨A', c', e_, _, _, hxl⟩ := own_slice hown
    obtain ⟨b0, rfl, _, hb0, hli⟩ := hxl (by simp)
    injection e_ with e1 _ e3
    subst e1 e3
    have x6 : w7.cell? ⟨b0, 6, none⟩ = some (.int .i64 5) := by have h_ := hli 6 _ rfl; simpa [iv] using h_
    have HBq := Lib.hid hbq
    clear hown hxl hli hbq
    simp only [List.length_cons, List.length_nil, Nat.zero_add]
    go_wp2_with fail
    go_ret
    exact ⟨rfl, Below.then HB.out HBq.out HB.out.size⟩
end Go.Proofs.YtipmjleohadoeaaGreat
