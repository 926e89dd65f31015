/- The walk of ClientAgain. Printed by gen_wagain.py. -/
import Derived.Test.YtipmjleohadoeaaGreatAgnSa
import Derived.Test.YtipmjleohadoeaaGreatCl5Sa
import Derived.Test.YtipmjleohadoeaaGreatJ36Sa
import Derived.Test.YtipmjleohadoeaaGreatWk22Sa
import Derived.Deep.CutBlock
namespace Go.Proofs.YtipmjleohadoeaaGreat.clientAgain
open Go.RowKit
set_option linter.unusedVariables false
set_option linter.unusedSimpArgs false

theorem issue_busy_cn {U : Nat → Prop} {g bm k ct : Nat} {K : List Key} {c : Cf} {id : Int} {s : CS} {kk y v : Int} {w : World} (h : Cn w U g bm K k ct c id s) (hw : s.waits = true) :
    Calls Tryz.prog 12 #[.pointer (some ⟨k, 0, none⟩), .agg #[.int .i64 kk, .int .i64 y, .int .i64 v]] w fun e w' => e = .returned (.tuple #[.agg #[.int .i64 0, .int .i64 0, .int .i64 0, .int .i64 0, .int .i64 0, .int .i64 0], .int .i64 5]) ∧ Below w.heap.size w w' := issue_busy U g k ct c id s kk y v w h.cm hw

set_option maxRecDepth 100000 in
set_option maxHeartbeats 16000000 in
theorem walk (f0 re0 ti0 : Int) (w : World) (hf0 : isI64 f0) (hre0 : isI64 re0) (hti0 : isI64 ti0) :
    Calls Tryz.prog 6 #[.int .i64 f0, .int .i64 re0, .int .i64 ti0] w fun e w' => e = .returned (.bool true) ∧ Below w.heap.size w w' := by
  have fw0 := Psp.within_lo f0 4
  have fw1 := Psp.within_hi f0 4 (by omega)
  have rw0 := Psp.within_lo re0 64
  have rw1 := Psp.within_hi re0 64 (by omega)
  have tw0 := Psp.within_lo ti0 200
  have tw1 := Psp.within_hi ti0 200 (by omega)
  have hwf : IntKind.i64.wrap (1 + Psp.within f0 4) = 1 + Psp.within f0 4 := IntWalk.i64_in _ (by omega)
  have hwr : IntKind.i64.wrap (1 + Psp.within re0 64) = 1 + Psp.within re0 64 := IntWalk.i64_in _ (by omega)
  have HSTD := Lib.hid fun W => std_any (1 + Psp.within f0 4) W
  go_enter Tryz.func6, Tryz.ntmps6
  go_upto_region 2 with (first | (go_at_call 11; refine (HSTD.out _).mono ?_; rintro e w0 ⟨rfl, hb0⟩; have HB0 := Lib.hid hb0; clear hb0) | (go_at_call 8; refine (within_i _ _ _ (by first | assumption | exact ⟨by omega, by omega⟩) (by exact ⟨by omega, by omega⟩)).mono ?_; rintro e w' ⟨rfl, rfl⟩))
  clear hwf HSTD
  obtain ⟨f, hfx⟩ : ∃ f, 1 + Psp.within f0 4 = f := ⟨_, rfl⟩
  rw [hfx]
  have hf : 1 ≤ f ∧ f ≤ 4 := ⟨by omega, by omega⟩
  clear hfx fw0 fw1
  have hba := alloc_below w0 (.cells #[.int .i64 f, .int .i64 2, .int .i64 2, .int .i64 4, .int .i64 64, .int .i64 8, .int .i64 8, .int .i64 8, .int .i64 1, .int .i64 2, .int .i64 12, .int .i64 8, .int .i64 6, .int .i64 2, .int .i64 6] 37)
  have hca := heap_alloc_new w0 (.cells #[.int .i64 f, .int .i64 2, .int .i64 2, .int .i64 4, .int .i64 64, .int .i64 8, .int .i64 8, .int .i64 8, .int .i64 1, .int .i64 2, .int .i64 12, .int .i64 8, .int .i64 6, .int .i64 2, .int .i64 6] 37)
  obtain ⟨cb, hcb_⟩ : ∃ cb, w0.heap.size = cb := ⟨_, rfl⟩
  obtain ⟨wa, hwa_⟩ : ∃ wa, w0.alloc (.cells #[.int .i64 f, .int .i64 2, .int .i64 2, .int .i64 4, .int .i64 64, .int .i64 8, .int .i64 8, .int .i64 8, .int .i64 1, .int .i64 2, .int .i64 12, .int .i64 8, .int .i64 6, .int .i64 2, .int .i64 6] 37) = wa := ⟨_, rfl⟩
  have hwc : w.heap.size ≤ cb := by rw [← hcb_]; exact HB0.out.size
  rw [hwa_] at hba hca ⊢
  have hBA := Below.then HB0.out hba HB0.out.size
  rw [hcb_] at hca ⊢
  have z14 := frozen_of_row _ _ 14 _ _ hca
  have f14 : wa.cell? ⟨cb, 14, none⟩ = some (.int .i64 6) := rowc hca 14 rfl
  have HBA := Lib.hid hBA
  have HCA := Lib.hid hca
  clear hba hca hwa_ hcb_ HB0 hBA
  go_upto_region 3 with (go_at_call 8; refine (within_i _ _ _ (by first | assumption | exact ⟨by omega, by omega⟩) (by exact ⟨by omega, by omega⟩)).mono ?_; rintro e w' ⟨rfl, rfl⟩)
  obtain ⟨re, hrx⟩ : ∃ re, 1 + Psp.within re0 64 = re := ⟨_, rfl⟩
  rw [hrx]
  have hre : 1 ≤ re ∧ re ≤ 64 := ⟨by omega, by omega⟩
  have hcc : (wa.setCell ⟨cb, 14, none⟩ (.int .i64 re)).heap[cb]? = some (.cells #[.int .i64 f, .int .i64 2, .int .i64 2, .int .i64 4, .int .i64 64, .int .i64 8, .int .i64 8, .int .i64 8, .int .i64 1, .int .i64 2, .int .i64 12, .int .i64 8, .int .i64 6, .int .i64 2, .int .i64 re] 37 (0, 0)) := by rw [heap_setCell_same wa cb 14 _ _ _ HCA.out]; rfl
  have hbb : Below w.heap.size w (wa.setCell ⟨cb, 14, none⟩ (.int .i64 re)) := ((Fp.of_below HBA.out (fun _ => False)).setCell (p := ⟨cb, 14, none⟩) (Or.inr hwc) _).to_below (Nat.le_refl _) fun _ _ h => h.elim
  obtain ⟨wb, hwb⟩ : ∃ wb, wa.setCell ⟨cb, 14, none⟩ (.int .i64 re) = wb := ⟨_, rfl⟩
  rw [hwb] at hcc hbb ⊢
  have HBA := Lib.hid hbb
  have HCF := Lib.hid hcc
  clear hcc hbb hwb hrx rw0 rw1 hwr z14 f14 HCA
  go_upto_region 4 with (go_at_call 8; refine (within_i _ _ _ (by first | assumption | exact ⟨by omega, by omega⟩) (by exact ⟨by omega, by omega⟩)).mono ?_; rintro e w' ⟨rfl, rfl⟩)
  obtain ⟨ti, htx⟩ : ∃ ti, Psp.within ti0 200 = ti := ⟨_, rfl⟩
  rw [htx] at tw0 tw1 ⊢
  clear htx
  go_wp2_with fail
  refine (nt_new wb).mono ?_
  rintro e w1 ⟨g, bm, rfl, hN, hb1, hg1, hg2⟩
  have HN1 := Lib.hid hN
  have hgl := hN.lt
  have hcz := (Array.getElem?_eq_some_iff.1 HCF.out).1
  have HCF1 := Lib.hid ((hb1.block cb hcz).trans HCF.out)
  have HB1 := Lib.hid (Below.then HBA.out hb1 HBA.out.size)
  have HRc : Hid (w1.rangeAt cb 0 [.int .i64 f, .int .i64 2, .int .i64 2, .int .i64 4, .int .i64 64, .int .i64 8, .int .i64 8, .int .i64 8, .int .i64 1, .int .i64 2, .int .i64 12, .int .i64 8, .int .i64 6, .int .i64 2, .int .i64 re]) := Lib.hid (range_of_row HCF1.out)
  have hz1 := HB1.out.size
  clear hN hb1 HBA HCF
  go_upto_region 7 with fail
  go_wp2_with (refine list_load rfl 37 (.tmp 7) rfl cb 0 rfl [.int .i64 f, .int .i64 2, .int .i64 2, .int .i64 4, .int .i64 64, .int .i64 8, .int .i64 8, .int .i64 8, .int .i64 1, .int .i64 2, .int .i64 12, .int .i64 8, .int .i64 6, .int .i64 2, .int .i64 re] _ HRc.out Tryz.underlying37 rfl sizeCf ?_)
  clear HRc
  refine (new_yes (agC f re) 0 g w1 (ag_ok hf hre) ⟨by decide, by show (0 : Int) < 2; decide⟩).mono ?_
  rintro e w4 ⟨k, ct, rfl, hcl, hb4, hk4, hct4⟩
  have hz4 := hb4.size
  have HT : Hid (Cn w4 (fun b => b = k ∨ b = ct) g bm [] k ct (agC f re) 0 cs0) := Lib.hid ⟨HN1.out.below hb4, hcl, by rintro (hh | hh) <;> omega, by rintro (hh | hh) <;> omega⟩
  have Hc : Hid (Rw w4 (fun b => b = k ∨ b = ct) bm cb (.cells #[.int .i64 f, .int .i64 2, .int .i64 2, .int .i64 4, .int .i64 64, .int .i64 8, .int .i64 8, .int .i64 8, .int .i64 1, .int .i64 2, .int .i64 12, .int .i64 8, .int .i64 6, .int .i64 2, .int .i64 re] 37 (0, 0))) := Lib.hid ⟨(hb4.block _ (by omega)).trans HCF1.out, by omega, by rintro (hh | hh) <;> omega, by omega⟩
  have HB : Hid (Below w.heap.size w w4) := Lib.hid (Below.then HB1.out hb4 HB1.out.size)
  have HSn : Hid (∀ b, (b = k ∨ b = ct) → w.heap.size ≤ b) := Lib.hid fun b hb => by rcases hb with hb | hb <;> omega
  clear hb4 hcl HN1 HB1 HCF1
  have hwbm : w.heap.size ≤ bm := by omega
  go_upto_region 10 with fail
  go_wp2_with fail
  refine (tick_m (fun b => b = k ∨ b = ct) g bm k ct [] (agC f re) 0 cs0 w4 HT.out hf ⟨by decide, by decide⟩ hre ⟨by decide, by decide⟩ ⟨by decide, by decide⟩ (by decide) (by decide) (by decide) (fun h_ => by cases h_)).mono ?_
  rintro e w5 ⟨rfl, S5, hT', hS', hF'⟩
  rw [ag_tick0] at hT'
  replace Hc := Lib.hid (Hc.out.seal hF' hS')
  have hzb := HB.out.size
  replace HB := Lib.hid (HB.out.trans ((hF').to_below (B := w.heap.size) hzb (fun k hk hh => by rcases hh with hh | hh; (have := HSn.out k hh; omega); omega)))
  replace HSn : Hid (∀ b, (S5) b → w.heap.size ≤ b) := Lib.hid fun b hb => by rcases hS' b hb with h1 | h1; exact HSn.out b h1; omega
  clear hzb
  replace HT := Lib.hid hT'
  clear hT' hS' hF'
  go_wp2_with fail
  refine (out_cn S5 g bm k ct [] (agC f re) 0 (agS1) w5 HT.out).mono ?_
  rintro e w6 ⟨A0, c0, L0, S6, rfl, hL0, hT', hS', hF', hst_⟩
  have Hstz := Lib.hid hst_
  have HLz := Lib.hid hL0
  clear hst_ hL0
  replace Hc := Lib.hid (Hc.out.seal hF' hS')
  have hzb := HB.out.size
  replace HB := Lib.hid (HB.out.trans ((hF').to_below (B := w.heap.size) hzb (fun k hk hh => by rcases hh with hh | hh; (have := HSn.out k hh; omega); omega)))
  replace HSn : Hid (∀ b, (S6) b → w.heap.size ≤ b) := Lib.hid fun b hb => by rcases hS' b hb with h1 | h1; exact HSn.out b h1; omega
  clear hzb
  replace HT := Lib.hid hT'
  clear hT' hS' hF'
  replace HT : Hid (Cn w6 S6 g bm [] k ct (agC f re) 0 agS1) := HT
  rw [show agS1.out.length = 0 from rfl]
  clear Hstz HLz
  go_upto_region 13 with fail
  go_wp2_with fail
  refine (issue_m S6 g bm k ct [] (agC f re) 0 agS1 5 0 0 agR w6 HT.out hf (by show (2 : Int) ≤ 4; decide) ⟨by decide, by decide⟩ rfl (by decide) (by decide) (by decide) ag_valid rfl).mono ?_
  rintro e w7 ⟨rfl, S7, hT', hS', hF'⟩
  rw [ag_issue f re] at hT'
  replace Hc := Lib.hid (Hc.out.seal hF' hS')
  have hzb := HB.out.size
  replace HB := Lib.hid (HB.out.trans ((hF').to_below (B := w.heap.size) hzb (fun k hk hh => by rcases hh with hh | hh; (have := HSn.out k hh; omega); omega)))
  replace HSn : Hid (∀ b, (S7) b → w.heap.size ≤ b) := Lib.hid fun b hb => by rcases hS' b hb with h1 | h1; exact HSn.out b h1; omega
  clear hzb
  replace HT := Lib.hid hT'
  clear hT' hS' hF'
  have hno : (agO f).length = (Psp.nodes f).toNat := sends_len _ _
  have HNO := Lib.hid hno
  clear hno
  go_wp2_with fail
  refine (out_cn S7 g bm k ct agK (agC f re) 0 ({ agS 0 with out := agO f }) w7 HT.out).mono ?_
  rintro e w8 ⟨A1, c1, L1, S8, rfl, hL1, hT', hS', hF', hst_⟩
  have Hstf := Lib.hid hst_
  have HLf := Lib.hid hL1
  clear hst_ hL1
  replace Hc := Lib.hid (Hc.out.seal hF' hS')
  have hzb := HB.out.size
  replace HB := Lib.hid (HB.out.trans ((hF').to_below (B := w.heap.size) hzb (fun k hk hh => by rcases hh with hh | hh; (have := HSn.out k hh; omega); omega)))
  replace HSn : Hid (∀ b, (S8) b → w.heap.size ≤ b) := Lib.hid fun b hb => by rcases hS' b hb with h1 | h1; exact HSn.out b h1; omega
  clear hzb
  replace HT := Lib.hid hT'
  clear hT' hS' hF'
  replace HT : Hid (Cn w8 S8 g bm agK k ct (agC f re) 0 (agS 0)) := HT
  replace HLf : Hid (L1.map SendV.s = agO f) := HLf
  replace Hstf : Hid (Fst w8 S8 bm (.slice A1 (agO f).length c1) L1) := Hstf
  rw [show ({ agS 0 with out := agO f } : CS).out.length = (agO f).length from rfl]
  rw [HNO.out] at Hstf ⊢
  have hn1 := nodes_is hf
  obtain ⟨n, hn⟩ : ∃ n, (Psp.nodes f).toNat = n := ⟨_, rfl⟩
  rw [hn] at Hstf ⊢
  have hnn : Psp.nodes f = (n : Int) := by omega
  have HNn := Lib.hid hnn
  have HNO2 : Hid ((agO f).length = n) := Lib.hid (by rw [HNO.out, hn])
  clear hn hnn hn1 HNO
  have f_c0 : w8.cell? ⟨cb, 0, none⟩ = some (.int .i64 f) := Hc.out.cell rfl
  go_upto_region 18 with (go_at_call 13; refine (r_nodes_any _ _).mono ?_; rintro e w' ⟨rfl, rfl⟩; rw [HNn.out])
  clear f_c0
  go_loopw [12, 13] (fun i_ l_ wr => ∃ (i : Nat) (S' : Nat → Prop), i_ = .int .i64 ((i : Int) + 1) ∧ (i : Int) ≤ ti ∧ Hid (Cn wr S' g bm agK k ct (agC f re) 0 (agS (i : Int))) ∧ Hid (∀ b, S' b → w.heap.size ≤ b) ∧ Hid (Below w.heap.size w wr) ∧ Hid (Rw wr S' bm cb (.cells #[.int .i64 f, .int .i64 2, .int .i64 2, .int .i64 4, .int .i64 64, .int .i64 8, .int .i64 8, .int .i64 8, .int .i64 1, .int .i64 2, .int .i64 12, .int .i64 8, .int .i64 6, .int .i64 2, .int .i64 re] 37 (0, 0))) ∧ Hid (Fst wr S' bm (.slice A1 n c1) L1)) (fun i_ _ _ => 300 - (intOf i_).toNat)
  case atStart => exact ⟨0, S8, rfl, by omega, HT, HSn, HB, Hc, Hstf⟩
  case round =>
    clear HT HSn HB Hc Hstf
    obtain ⟨i, S', rfl, hi, HT, HSn, HB, Hc, Hstf⟩ := hrel
    by_cases hlt : (i : Int) + 1 ≤ ti
    case pos =>
      have hd1 : decide ((i : Int) + 1 ≤ ti) = true := decide_eq_true hlt
      have hi200 : i < 1000 := by omega
      go_upto_region 20 with fail
      go_wp2_with fail
      refine (tick_m S' g bm k ct agK (agC f re) 0 (agS (i : Int)) wr HT.out hf ⟨by decide, by decide⟩ hre ⟨by show 0 ≤ 1 + (i : Int); omega, by show 1 + (i : Int) < 1048576; omega⟩ ⟨by show (0 : Int) ≤ 1; decide, by show (1 : Int) ≤ 1 + (i : Int); omega⟩ (by show 1 ≤ 1000000; decide) (by show 0 ≤ 1000000; decide) (by have := ag_len; omega) (fun _ => ⟨by show [agR] ≠ []; simp, ag_ok2⟩)).mono ?_
      rintro e w5 ⟨rfl, S5, hT', hS', hF'⟩
      rw [ag_tick f re i hi200] at hT'
      replace Hc := Lib.hid (Hc.out.seal hF' hS')
      replace Hstf := Lib.hid (Hstf.out.seal hF' hS')
      have hzb := HB.out.size
      replace HB := Lib.hid (HB.out.trans ((hF').to_below (B := w.heap.size) hzb (fun k hk hh => by rcases hh with hh | hh; (have := HSn.out k hh; omega); omega)))
      replace HSn : Hid (∀ b, (S5) b → w.heap.size ≤ b) := Lib.hid fun b hb => by rcases hS' b hb with h1 | h1; exact HSn.out b h1; omega
      clear hzb
      replace HT := Lib.hid hT'
      clear hT' hS' hF'
      by_cases hz : ((i : Int) + 1) % re = 0
      case pos =>
        rw [if_pos hz] at HT
        have htm : ((i : Int) + 1).tmod re = 0 := by rw [Int.tmod_eq_emod_of_nonneg (by omega)]; exact hz
        clear hz
        go_wp2_with fail
        refine (out_cn S5 g bm k ct agK (agC f re) 0 ({ agS ((i : Int) + 1) with out := agO f }) w5 HT.out).mono ?_
        rintro e w6 ⟨A2, c2, L2, S6, rfl, hL2, hT', hS', hF', hst_⟩
        have Hsts := Lib.hid hst_
        have HLs := Lib.hid hL2
        clear hst_ hL2
        replace Hc := Lib.hid (Hc.out.seal hF' hS')
        replace Hstf := Lib.hid (Hstf.out.seal hF' hS')
        have hzb := HB.out.size
        replace HB := Lib.hid (HB.out.trans ((hF').to_below (B := w.heap.size) hzb (fun k hk hh => by rcases hh with hh | hh; (have := HSn.out k hh; omega); omega)))
        replace HSn : Hid (∀ b, (S6) b → w.heap.size ≤ b) := Lib.hid fun b hb => by rcases hS' b hb with h1 | h1; exact HSn.out b h1; omega
        clear hzb
        replace HT := Lib.hid hT'
        clear hT' hS' hF'
        replace HT : Hid (Cn w6 S6 g bm agK k ct (agC f re) 0 (agS ((i + 1 : Nat) : Int))) := HT
        replace HLs : Hid (L2.map SendV.s = agO f) := HLs
        have hsl : ({ agS ((i : Int) + 1) with out := agO f } : CS).out.length = n := HNO2.out
        rw [hsl] at Hsts ⊢
        clear hsl
        have hf14 : w6.cell? ⟨cb, 14, none⟩ = some (.int .i64 re) := Hc.out.cell rfl
        have Hc9 : Hid (∀ w9, Below w6.heap.size w6 w9 → w9.cell? ⟨cb, 14, none⟩ = some (.int .i64 re)) := Lib.hid fun w9 h_ => (Hc.out.below h_).cell rfl
        go_wp2_with (go_at_call 23; refine (sends_yes _ _ L2 L1 w6 Hsts.out.rds Hstf.out.rds (by rw [HLs.out, HLf.out])).mono ?_; rintro e w9 ⟨rfl, hbq⟩; have g14 := Hc9.out _ hbq)
        refine ⟨⟨i + 1, S6, by go_num, by omega, Lib.hid (HT.out.below hbq), HSn, Lib.hid (Below.then HB.out hbq HB.out.size), Lib.hid (Hc.out.below hbq), Lib.hid (Hstf.out.below hbq)⟩, ?_⟩
        simp [intOf]; omega
      case neg =>
        rw [if_neg hz] at HT
        have htm : ((i : Int) + 1).tmod re = ((i : Int) + 1) % re := Int.tmod_eq_emod_of_nonneg (by omega)
        obtain ⟨z, hzz⟩ : ∃ z, ((i : Int) + 1) % re = z := ⟨_, rfl⟩
        rw [hzz] at htm hz
        have hz1 : decide (z = 0) = false := decide_eq_false hz
        have hz2 : (z == 0) = false := hz1
        have hz3 : (z != 0) = true := by simp [hz]
        have hz4 : decide (¬ z = 0) = true := decide_eq_true hz
        clear hzz  hz
        go_wp2_with fail
        refine (out_cn S5 g bm k ct agK (agC f re) 0 (agS ((i : Int) + 1)) w5 HT.out).mono ?_
        rintro e w6 ⟨A2, c2, L2, S6, rfl, hL2, hT', hS', hF', hst_⟩
        have Hsts := Lib.hid hst_
        have HLs := Lib.hid hL2
        clear hst_ hL2
        replace Hc := Lib.hid (Hc.out.seal hF' hS')
        replace Hstf := Lib.hid (Hstf.out.seal hF' hS')
        have hzb := HB.out.size
        replace HB := Lib.hid (HB.out.trans ((hF').to_below (B := w.heap.size) hzb (fun k hk hh => by rcases hh with hh | hh; (have := HSn.out k hh; omega); omega)))
        replace HSn : Hid (∀ b, (S6) b → w.heap.size ≤ b) := Lib.hid fun b hb => by rcases hS' b hb with h1 | h1; exact HSn.out b h1; omega
        clear hzb
        replace HT := Lib.hid hT'
        clear hT' hS' hF'
        replace HT : Hid (Cn w6 S6 g bm agK k ct (agC f re) 0 (agS ((i + 1 : Nat) : Int))) := HT
        rw [show (agS ((i : Int) + 1)).out.length = 0 from rfl]
        clear Hsts HLs
        have hf14 : w6.cell? ⟨cb, 14, none⟩ = some (.int .i64 re) := Hc.out.cell rfl
        go_wp2_with fail
        refine ⟨⟨i + 1, S6, by go_num, by omega, HT, HSn, HB, Hc, Hstf⟩, ?_⟩
        simp [intOf]; omega
    case neg =>
      have hd1 : decide ((i : Int) + 1 ≤ ti) = false := decide_eq_false hlt
      go_wp2_with fail
      refine (issue_busy_cn HT.out rfl).mono ?_
      rintro e w5 ⟨rfl, hbq⟩
      replace Hc := Lib.hid (Hc.out.below hbq)
      replace Hstf := Lib.hid (Hstf.out.below hbq)
      replace HT := Lib.hid (HT.out.below hbq)
      replace HB := Lib.hid (Below.then HB.out hbq HB.out.size)
      clear hbq
      go_wp2_with (first | (go_at_call 24; refine (nt_len g bm agK w5 HT.out.nt).mono ?_; rintro e w' ⟨rfl, rfl⟩; rw [ag_two]) | (go_at_call 17; refine (wakes22 _).mono ?_; rintro e wk ⟨rfl, hbk⟩))
      go_ret
      exact ⟨rfl, Below.then HB.out hbk HB.out.size⟩
end Go.Proofs.YtipmjleohadoeaaGreat.clientAgain
