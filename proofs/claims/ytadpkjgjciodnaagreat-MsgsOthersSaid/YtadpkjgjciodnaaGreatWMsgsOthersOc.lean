/- The walk of MsgsOthers. Printed by gen_wothers.py. -/
import Derived.Test.YtadpkjgjciodnaaGreatRwOc
import Derived.Test.YtadpkjgjciodnaaGreatJ19Oc
import Derived.Test.YtadpkjgjciodnaaGreatJ37Oc
import Derived.Deep.CutBlock
namespace Go.Proofs.YtadpkjgjciodnaaGreat.msgsOthers
open Go.RowKit
set_option linter.unusedVariables false
set_option linter.unusedSimpArgs false

set_option maxRecDepth 100000 in
set_option maxHeartbeats 8000000 in
theorem walk (x : CertV) (f0 skip : Int) (w : World) (hx : CertOk w (fun b => b < w.heap.size) x ∧ wfCert x.c) (hf0 : isI64 f0) (hsk : isI64 skip) :
    Calls Tryz.prog 3 #[.agg (cv x).toArray, .int .i64 f0, .int .i64 skip] w fun e w' => e = .returned (.bool true) ∧ Below w.heap.size w w' := by
  obtain ⟨hx, hwc⟩ := hx
  obtain ⟨c, vb, vo⟩ := x
  obtain ⟨_, A1, c1, e1, _⟩ := RdP.parts hx.1
  obtain ⟨_, A2, c2, e2, _⟩ := RdP.parts hx.2
  dsimp only at e1 e2 hwc
  subst e1 e2
  show Calls Tryz.prog 3 #[.agg #[.int .i64 c.v, .int .i64 c.i, .int .i64 c.q, .slice A1 c.b.length c1, .slice A2 c.o.length c2], .int .i64 f0, .int .i64 skip] w _
  have HX := Lib.hid hx
  have Hwc := Lib.hid hwc
  have hb0 := alloc_below w (.cells #[.int .i64 c.v, .int .i64 c.i, .int .i64 c.q, .slice A1 c.b.length c1, .slice A2 c.o.length c2] 25)
  have hc0 := heap_alloc_new w (.cells #[.int .i64 c.v, .int .i64 c.i, .int .i64 c.q, .slice A1 c.b.length c1, .slice A2 c.o.length c2] 25)
  have fw0 := Psp.within_lo f0 4
  have fw1 := Psp.within_hi f0 4 (by omega)
  have hwf : IntKind.i64.wrap (1 + Psp.within f0 4) = 1 + Psp.within f0 4 := IntWalk.i64_in _ (by omega)
  clear hx hwc
  go_enter Tryz.func3, Tryz.ntmps3
  go_upto_region 2 with (go_at_call 8; refine (within_i _ _ _ (by first | assumption | exact ⟨by omega, by omega⟩) (by exact ⟨by omega, by omega⟩)).mono ?_; rintro e w' ⟨rfl, rfl⟩)
  clear hwf
  obtain ⟨f, hfx⟩ : ∃ f, 1 + Psp.within f0 4 = f := ⟨_, rfl⟩
  rw [hfx]
  have hf : 1 ≤ f ∧ f ≤ 4 := ⟨by omega, by omega⟩
  clear hfx fw0 fw1
  obtain ⟨W0, hW0⟩ : ∃ W, w.alloc (.cells #[.int .i64 c.v, .int .i64 c.i, .int .i64 c.q, .slice A1 c.b.length c1, .slice A2 c.o.length c2] 25) = W := ⟨_, rfl⟩
  rw [hW0] at hb0 hc0 ⊢
  have HB0 := Lib.hid hb0
  have HC0 := Lib.hid hc0
  have hz0 := (Array.getElem?_eq_some_iff.1 hc0).1
  clear hW0 hb0 hc0
  go_wp2_with fail
  refine (begin_m W0).mono ?_
  rintro e w1 ⟨g, bm, h, rfl, hT, hb1, hg1, hg2, hg3⟩
  have hbmw : w.heap.size ≤ bm := by omega
  have HT := Lib.hid hT
  have HB := Lib.hid (Below.then HB0.out hb1 HB0.out.size)
  have HSn : Hid (∀ b, (fun b => b = h) b → w.heap.size ≤ b) := Lib.hid fun b hb => by have hb : b = h := hb; omega
  have hzw1 := hb1.size
  have Hc : Hid (Rw w1 (fun b => b = h) bm w.heap.size (.cells #[.int .i64 c.v, .int .i64 c.i, .int .i64 c.q, .slice A1 c.b.length c1, .slice A2 c.o.length c2] 25 (0, 0))) := Lib.hid ⟨(hb1.block _ hz0).trans HC0.out, by omega, by omega, by omega⟩
  have hgw : W0.heap.size ≤ g := hg1
  clear HB0 HC0 hb1 hT
  go_upto_region 3 with fail
  have hba := alloc_below w1 (.cells #[.pointer (some ⟨g, 0, none⟩), .pointer (some ⟨h, 0, none⟩)] 30)
  have hra : Rw (w1.alloc (.cells #[.pointer (some ⟨g, 0, none⟩), .pointer (some ⟨h, 0, none⟩)] 30)) (fun b => b = h) bm w1.heap.size (.cells #[.pointer (some ⟨g, 0, none⟩), .pointer (some ⟨h, 0, none⟩)] 30 (0, 0)) := Rw.new (.cells #[.pointer (some ⟨g, 0, none⟩), .pointer (some ⟨h, 0, none⟩)] 30) HT.out.lt HT.out.nt.lt.2
  have hsa : (w1.alloc (.cells #[.pointer (some ⟨g, 0, none⟩), .pointer (some ⟨h, 0, none⟩)] 30)).heap.size = w1.heap.size + 1 := by simp
  obtain ⟨w2, hWa⟩ : ∃ W_, w1.alloc (.cells #[.pointer (some ⟨g, 0, none⟩), .pointer (some ⟨h, 0, none⟩)] 30) = W_ := ⟨_, rfl⟩
  rw [hWa] at hba hra hsa ⊢
  have Hs_w2 := Lib.hid hsa
  have Hb_w2 := Lib.hid hba
  have Ht := Lib.hid hra
  clear hWa hra hsa
  replace Hc := Lib.hid (Hc.out.below hba)
  replace HT := Lib.hid (HT.out.below hba)
  replace HB := Lib.hid (Below.then HB.out hba HB.out.size)
  clear hba
  go_wp2_with fail
  refine (begin_m w2).mono ?_
  rintro e w3 ⟨gu, bmu, hu, rfl, hTu, hb3, hgu1, hgu2, hgu3⟩
  have hlu := hTu.nt.lt
  have hlS := HT.out.lt h rfl
  have hlb := HT.out.nt.lt.2
  have HU : Hid (Nk w3 (fun b => b = h) bm gu bmu) := Lib.hid ⟨hTu.nt, ⟨hlu.1, fun hh => by have hh : gu = h := hh; omega, by omega⟩, ⟨hlu.2, fun hh => by have hh : bmu = h := hh; omega, by omega⟩⟩
  clear hTu hlu hlS hlb
  replace Hc := Lib.hid (Hc.out.below hb3)
  replace Ht := Lib.hid (Ht.out.below hb3)
  replace HT := Lib.hid (HT.out.below hb3)
  replace HB := Lib.hid (Below.then HB.out hb3 HB.out.size)
  clear hb3
  go_upto_region 4 with fail
  have hba := alloc_below w3 (.cells #[.pointer (some ⟨gu, 0, none⟩), .pointer (some ⟨hu, 0, none⟩)] 30)
  have hra : Rw (w3.alloc (.cells #[.pointer (some ⟨gu, 0, none⟩), .pointer (some ⟨hu, 0, none⟩)] 30)) (fun b => b = h) bm w3.heap.size (.cells #[.pointer (some ⟨gu, 0, none⟩), .pointer (some ⟨hu, 0, none⟩)] 30 (0, 0)) := Rw.new (.cells #[.pointer (some ⟨gu, 0, none⟩), .pointer (some ⟨hu, 0, none⟩)] 30) HT.out.lt HT.out.nt.lt.2
  have hsa : (w3.alloc (.cells #[.pointer (some ⟨gu, 0, none⟩), .pointer (some ⟨hu, 0, none⟩)] 30)).heap.size = w3.heap.size + 1 := by simp
  obtain ⟨w4, hWa⟩ : ∃ W_, w3.alloc (.cells #[.pointer (some ⟨gu, 0, none⟩), .pointer (some ⟨hu, 0, none⟩)] 30) = W_ := ⟨_, rfl⟩
  rw [hWa] at hba hra hsa ⊢
  have Hs_w4 := Lib.hid hsa
  have Hb_w4 := Lib.hid hba
  have Hu := Lib.hid hra
  clear hWa hra hsa
  replace Hc := Lib.hid (Hc.out.below hba)
  replace Ht := Lib.hid (Ht.out.below hba)
  replace HU := Lib.hid (HU.out.below hba)
  replace HT := Lib.hid (HT.out.below hba)
  replace HB := Lib.hid (Below.then HB.out hba HB.out.size)
  clear hba
  go_upto_region 6 with fail
  have hzt := Ht.out.lt
  have hzu := Hu.out.lt
  have hd4 : Below w4.heap.size w4 w4.drew := (Below.refl _ _).drew
  have hzw4 := HB.out.size
  have HXd : Hid (∀ W', Below w.heap.size w W' → CertOk W' (fun b => b < w.heap.size) ⟨c, .slice A1 c.b.length c1, .slice A2 c.o.length c2⟩) := Lib.hid fun W' hb => HX.out.keeps ⟨hb.size, fun b hb' hlt => ⟨hb.block b hlt, hlt⟩⟩
  go_cut [11] from 36 to 42 (fun s wx => ∃ (j : Nat) (a : Psp.Cert) (K' : List Key) (E F : Option Addr) (d q : Nat) (S' : Nat → Prop), s = .pointer (some ⟨j, 0, none⟩) ∧ Hid (Tw wx S' g bm h K') ∧ Hid (CF K' 5 f 2 a) ∧ K'.length ≤ 12 ∧ Hid (∀ b, S' b → w.heap.size ≤ b) ∧ Hid (Below w.heap.size w wx) ∧ Hid (Rw wx S' bm w1.heap.size (.cells #[.pointer (some ⟨g, 0, none⟩), .pointer (some ⟨h, 0, none⟩)] 30 (0, 0))) ∧ Hid (Rw wx S' bm w3.heap.size (.cells #[.pointer (some ⟨gu, 0, none⟩), .pointer (some ⟨hu, 0, none⟩)] 30 (0, 0))) ∧ Hid (Nk wx S' bm gu bmu) ∧ Hid (Rw wx S' bm j (.cells #[.int .i64 a.v, .int .i64 a.i, .int .i64 a.q, .slice E a.b.length d, .slice F a.o.length q] 25 (0, 0))) ∧ Hid (Ck wx S' bm ⟨a, .slice E a.b.length d, .slice F a.o.length q⟩))
  case first =>
    obtain ⟨W, hWd⟩ : ∃ W, w4.drew = W := ⟨_, rfl⟩
    rw [hWd] at hd4
    replace Hc := Lib.hid (Hc.out.below hd4)
    replace Ht := Lib.hid (Ht.out.below hd4)
    replace Hu := Lib.hid (Hu.out.below hd4)
    replace HU := Lib.hid (HU.out.below hd4)
    replace HT := Lib.hid (HT.out.below hd4)
    replace HB := Lib.hid (Below.then HB.out hd4 HB.out.size)
    clear hd4
    have hnt : ¬ (fun b => (fun b => b = h) b ∨ b = bm) w1.heap.size := by rintro (hh | hh); exact Ht.out.off.2.1 hh; exact Ht.out.off.2.2 hh
    have hnc : ¬ (fun b => (fun b => b = h) b ∨ b = bm) w.heap.size := by rintro (hh | hh); exact Hc.out.off.2.1 hh; exact Hc.out.off.2.2 hh
    have HRT : Hid (∀ w' : World, (∃ p : LaterF W (fun b => (fun b => b = h) b ∨ b = bm), w' = p.W) → w'.rangeAt w1.heap.size 0 [.pointer (some ⟨g, 0, none⟩), .pointer (some ⟨h, 0, none⟩)]) := Lib.hid (by rintro w' ⟨p, rfl⟩; exact range_of_row ((p.h.block _ Ht.out.lt hnt).trans Ht.out.row))
    have HRC : Hid (∀ w' : World, (∃ p : LaterF W (fun b => (fun b => b = h) b ∨ b = bm), w' = p.W) → w'.rangeAt w.heap.size 0 [.int .i64 c.v, .int .i64 c.i, .int .i64 c.q, .slice A1 c.b.length c1, .slice A2 c.o.length c2]) := Lib.hid (by rintro w' ⟨p, rfl⟩; exact range_of_row ((p.h.block _ Hc.out.lt hnc).trans Hc.out.row))
    clear hnt hnc
    refine wp_region_M (fun w' => ∃ p : LaterF W (fun b => (fun b => b = h) b ∨ b = bm), w' = p.W) [0, 1, 2, 3, 4, 5, 6, 7] 9 (by kernel_rfl) (by kernel_rfl) ?_
    rw [hWd]
    clear hWd
    refine wpAnyM_read [] 1 (by kernel_rfl) (fun _ d _ _ _ h => by cases d <;> exact h) ⟨⟨W, Fp.refl _ _⟩, rfl⟩ ?_
    simp only [List.getElem?_cons_zero, List.getElem?_cons_succ, Option.toList]
    repeat (first | go_big_quiet_step (fail) | (refine quiet_load (by simp [Region.wanted, yielded]) 30 (.tmp 7) (by rfl) w1.heap.size (0) (by rfl) [.pointer (some ⟨g, 0, none⟩), .pointer (some ⟨h, 0, none⟩)] _ HRT.out Tryz.underlying30 rfl sizeTwo ?_; intro K hK; go_simp; refine hK _ ?_; clear hK K) | (refine quiet_load (by simp [Region.wanted, yielded]) 25 (.tmp 3) (by rfl) w.heap.size (0) (by rfl) [.int .i64 c.v, .int .i64 c.i, .int .i64 c.q, .slice A1 c.b.length c1, .slice A2 c.o.length c2] _ HRC.out Tryz.underlying25 rfl sizeC ?_; intro K hK; go_simp; refine hK _ ?_; clear hK K) | quiet_step (fail) | refine wpQuiet_nil ?_)
    refine wpAnyM_read [1] 2 (by kernel_rfl) (fun _ d _ _ _ h => by cases d <;> exact h) ⟨⟨W, Fp.refl _ _⟩, rfl⟩ ?_
    simp only [List.getElem?_cons_zero, List.getElem?_cons_succ, Option.toList]
    repeat (first | go_big_quiet_step (fail) | (refine quiet_load (by simp [Region.wanted, yielded]) 30 (.tmp 7) (by rfl) w1.heap.size (0) (by rfl) [.pointer (some ⟨g, 0, none⟩), .pointer (some ⟨h, 0, none⟩)] _ HRT.out Tryz.underlying30 rfl sizeTwo ?_; intro K hK; go_simp; refine hK _ ?_; clear hK K) | (refine quiet_load (by simp [Region.wanted, yielded]) 25 (.tmp 3) (by rfl) w.heap.size (0) (by rfl) [.int .i64 c.v, .int .i64 c.i, .int .i64 c.q, .slice A1 c.b.length c1, .slice A2 c.o.length c2] _ HRC.out Tryz.underlying25 rfl sizeC ?_; intro K hK; go_simp; refine hK _ ?_; clear hK K) | quiet_step (fail) | refine wpQuiet_nil ?_)
    refine wpAnyM_read [1, 2] 4 (by kernel_rfl) (fun _ d _ _ _ h => by cases d <;> exact h) ⟨⟨W, Fp.refl _ _⟩, rfl⟩ ?_
    simp only [List.getElem?_cons_zero, List.getElem?_cons_succ, Option.toList]
    repeat (first | go_big_quiet_step (fail) | (refine quiet_load (by simp [Region.wanted, yielded]) 30 (.tmp 7) (by rfl) w1.heap.size (0) (by rfl) [.pointer (some ⟨g, 0, none⟩), .pointer (some ⟨h, 0, none⟩)] _ HRT.out Tryz.underlying30 rfl sizeTwo ?_; intro K hK; go_simp; refine hK _ ?_; clear hK K) | (refine quiet_load (by simp [Region.wanted, yielded]) 25 (.tmp 3) (by rfl) w.heap.size (0) (by rfl) [.int .i64 c.v, .int .i64 c.i, .int .i64 c.q, .slice A1 c.b.length c1, .slice A2 c.o.length c2] _ HRC.out Tryz.underlying25 rfl sizeC ?_; intro K hK; go_simp; refine hK _ ?_; clear hK K) | quiet_step (fail) | refine wpQuiet_nil ?_)
    refine wpAnyM_read [1, 2, 4] 0 (by kernel_rfl) (fun _ d _ _ _ h => by cases d <;> exact h) ⟨⟨W, Fp.refl _ _⟩, rfl⟩ ?_
    simp only [List.getElem?_cons_zero, List.getElem?_cons_succ, Option.toList]
    repeat (first | go_big_quiet_step (fail) | (refine quiet_load (by simp [Region.wanted, yielded]) 30 (.tmp 7) (by rfl) w1.heap.size (0) (by rfl) [.pointer (some ⟨g, 0, none⟩), .pointer (some ⟨h, 0, none⟩)] _ HRT.out Tryz.underlying30 rfl sizeTwo ?_; intro K hK; go_simp; refine hK _ ?_; clear hK K) | (refine quiet_load (by simp [Region.wanted, yielded]) 25 (.tmp 3) (by rfl) w.heap.size (0) (by rfl) [.int .i64 c.v, .int .i64 c.i, .int .i64 c.q, .slice A1 c.b.length c1, .slice A2 c.o.length c2] _ HRC.out Tryz.underlying25 rfl sizeC ?_; intro K hK; go_simp; refine hK _ ?_; clear hK K) | quiet_step (fail) | refine wpQuiet_nil ?_)
    refine wpAnyM_read [1, 2, 4, 0] 3 (by kernel_rfl) (fun _ d _ _ _ h => by cases d <;> exact h) ⟨⟨W, Fp.refl _ _⟩, rfl⟩ ?_
    simp only [List.getElem?_cons_zero, List.getElem?_cons_succ, Option.toList]
    repeat (first | go_big_quiet_step (fail) | (refine quiet_load (by simp [Region.wanted, yielded]) 30 (.tmp 7) (by rfl) w1.heap.size (0) (by rfl) [.pointer (some ⟨g, 0, none⟩), .pointer (some ⟨h, 0, none⟩)] _ HRT.out Tryz.underlying30 rfl sizeTwo ?_; intro K hK; go_simp; refine hK _ ?_; clear hK K) | (refine quiet_load (by simp [Region.wanted, yielded]) 25 (.tmp 3) (by rfl) w.heap.size (0) (by rfl) [.int .i64 c.v, .int .i64 c.i, .int .i64 c.q, .slice A1 c.b.length c1, .slice A2 c.o.length c2] _ HRC.out Tryz.underlying25 rfl sizeC ?_; intro K hK; go_simp; refine hK _ ?_; clear hK K) | quiet_step (fail) | refine wpQuiet_nil ?_)
    have hCut := cutC_is hf (show (1 : Int) ≤ 2 by omega) c
    have hsb := hCut.sb
    have HCut := Lib.hid hCut
    clear hCut
    have HLF : Hid (Fp (fun b => (fun b => b = h) b ∨ b = bm) W W) := Lib.hid (Fp.refl _ _)
    refine wpAnyM_two 5 7 (by kernel_rfl) ?_ ?_
    · simp only [List.getElem?_cons_zero, List.getElem?_cons_succ, Option.toList]
      go_wp2_with fail
      refine (cut_m c A1 A2 c1 c2 f 2 W _ (HXd.out _ HB.out) Hwc.out hf ⟨by omega, by omega⟩).mono ?_
      rintro e w5 ⟨B1, n1, d1, rfl, hn1, hO1, hb3⟩
      obtain ⟨a, ha⟩ : ∃ a, Psp.cutC c f 2 = a := ⟨_, rfl⟩
      have hco : (Psp.cutC c f 2).o = c.o := rfl
      rw [ha] at hn1 hO1 hco ⊢
      have HCu := HCut.out
      have hsb' := hsb
      rw [ha] at HCu hsb'
      subst hn1
      have Ha0 : Hid (Ck w5 (fun b => b = h) bm ⟨a, .slice B1 a.b.length d1, .slice A2 a.o.length c2⟩) := Lib.hid ⟨(RdP.of_own hO1).mono fun b hb hPb => ⟨hb, fun hh => by have := hPb.2; have := HT.out.lt b hh; omega, by have := hPb.2; have := HT.out.nt.lt.2; omega⟩, by
        rw [hco]
        exact RdP.keeps (HXd.out _ HB.out).2 ⟨hb3.size, fun b hb hlt => ⟨hb3.block b hlt, by have := hb3.size; omega, fun hh => by have := HSn.out b hh; omega, by omega⟩⟩⟩
      have HCu' := Lib.hid HCu
      have Hco := Lib.hid hco
      clear hco hO1 HCu
      have hlfw5 := Fp.of_below (hb3) (fun b => (fun b => b = h) b ∨ b = bm)
      replace HLF := Lib.hid (HLF.out.trans hlfw5 fun k hk => .inl hk)
      clear hlfw5
      replace Hc := Lib.hid (Hc.out.below hb3)
      replace Ht := Lib.hid (Ht.out.below hb3)
      replace Hu := Lib.hid (Hu.out.below hb3)
      replace HU := Lib.hid (HU.out.below hb3)
      replace HT := Lib.hid (HT.out.below hb3)
      replace HB := Lib.hid (Below.then HB.out hb3 HB.out.size)
      clear hb3
      go_wp2_with fail
      first | refine And.intro (fun _ => ⟨⟨_, HLF.out⟩, rfl⟩) ?_ | refine And.intro ⟨⟨_, HLF.out⟩, rfl⟩ ?_
      refine wpAnyM_two 6 7 (by kernel_rfl) ?_ ?_
      · simp only [List.getElem?_cons_zero, List.getElem?_cons_succ, Option.toList]
        go_wp2_with fail
        have hcall := two_cert' 5 f skip a B1 A2 d1 c2 (fun b => b = h) g bm h [] w5 HT.out hf hsk Ha0.out (by simp) (by omega)
        rw [Hco.out] at hcall
        refine hcall.mono ?_
        clear hcall
        rintro e w6 ⟨x, K', E, d, F, q, S6, hcs, rfl, hT', hS', hF', hx'⟩
        have hcf := certS_cf (skip := skip) (kind := 5) (Or.inr rfl) hf (show (2 : Int) ≤ 4 by omega) HCu'.out (K := []) (by simp)
        rw [hcs] at hcf
        dsimp only at hcf
        have HFx := Lib.hid hcf.1
        have hkl : K'.length ≤ 12 := by have := hcf.2.2; simp at this; omega
        clear hcf hcs
        replace HLF := Lib.hid (HLF.out.trans hF' fun k hk => .inl hk)
        replace Hc := Lib.hid (Hc.out.seal hF' hS')
        replace Ht := Lib.hid (Ht.out.seal hF' hS')
        replace Hu := Lib.hid (Hu.out.seal hF' hS')
        replace Ha0 := Lib.hid (Ck.seal Ha0.out hF' hS')
        replace HU := Lib.hid (HU.out.seal hF' hS')
        have hzb := HB.out.size
        replace HB := Lib.hid (HB.out.trans ((hF').to_below (B := w.heap.size) hzb (fun k hk hh => by rcases hh with hh | hh; (have := HSn.out k hh; omega); omega)))
        replace HSn : Hid (∀ b, (S6) b → w.heap.size ≤ b) := Lib.hid fun b hb => by rcases hS' b hb with h1 | h1; exact HSn.out b h1; omega
        clear hzb
        replace HT := Lib.hid hT'
        clear hT' hS' hF'
        have Hx : Hid (Ck w6 S6 bm ⟨x, .slice E x.b.length d, .slice F x.o.length q⟩) := Lib.hid (CertOk.keeps hx' (Keeps.mono fun b _ hb => hb.2))
        clear hx'
        go_wp2_with fail
        first | refine And.intro (fun _ => ⟨⟨_, HLF.out⟩, rfl⟩) ?_ | refine And.intro ⟨⟨_, HLF.out⟩, rfl⟩ ?_
        refine wpAnyM_one 7 (by kernel_rfl) ?_
        simp only [List.getElem?_cons_zero, List.getElem?_cons_succ, Option.toList]
        go_wp2_with fail
        have n1 : g < w6.heap.size := HT.out.nt.lt.1
        have n2 : w1.heap.size < w6.heap.size := Ht.out.lt
        have n3 : w3.heap.size < w6.heap.size := Hu.out.lt
        have n4 : gu < w6.heap.size := HU.out.o1.1
        have n5 : bmu < w6.heap.size := HU.out.o2.1
        have n6 : w.heap.size ≤ w6.heap.size := HB.out.size
        have HLa := Lib.hid (HLF.out.alloc (.cells #[.int .i64 0, .int .i64 0, .int .i64 0, .slice none 0 0, .slice none 0 0] 25))
        have hba := alloc_below w6 (.cells #[.int .i64 0, .int .i64 0, .int .i64 0, .slice none 0 0, .slice none 0 0] 25)
        have hra : Rw (w6.alloc (.cells #[.int .i64 0, .int .i64 0, .int .i64 0, .slice none 0 0, .slice none 0 0] 25)) S6 bm w6.heap.size (.cells #[.int .i64 0, .int .i64 0, .int .i64 0, .slice none 0 0, .slice none 0 0] 25 (0, 0)) := Rw.new (.cells #[.int .i64 0, .int .i64 0, .int .i64 0, .slice none 0 0, .slice none 0 0] 25) HT.out.lt HT.out.nt.lt.2
        obtain ⟨w7, hWa⟩ : ∃ W_, w6.alloc (.cells #[.int .i64 0, .int .i64 0, .int .i64 0, .slice none 0 0, .slice none 0 0] 25) = W_ := ⟨_, rfl⟩
        have hla := HLa.out
        rw [hWa] at hba hra hla ⊢
        replace HLF := Lib.hid hla
        have Hz := Lib.hid hra
        clear hWa hra hla HLa
        have HX2 : Hid (CertOk w7 (fun b => Off w7 S6 bm b ∧ b ≠ w6.heap.size) ⟨x, .slice E x.b.length d, .slice F x.o.length q⟩) := Lib.hid (CertOk.keeps Hx.out ⟨hba.size, fun b hP hlt => ⟨hba.block b hlt, hP.below hba, by have := hP.1; omega⟩⟩)
        replace Hc := Lib.hid (Hc.out.below hba)
        replace Ht := Lib.hid (Ht.out.below hba)
        replace Hu := Lib.hid (Hu.out.below hba)
        replace Ha0 := Lib.hid (Ck.below Ha0.out hba)
        replace Hx := Lib.hid (Ck.below Hx.out hba)
        replace HU := Lib.hid (HU.out.below hba)
        replace HT := Lib.hid (HT.out.below hba)
        replace HB := Lib.hid (Below.then HB.out hba HB.out.size)
        clear hba
        first | refine And.intro (fun _ => ⟨⟨_, HLF.out⟩, rfl⟩) ?_ | refine And.intro ⟨⟨_, HLF.out⟩, rfl⟩ ?_
        refine wpAnyM_one 8 (by kernel_rfl) ?_
        simp only [List.getElem?_cons_zero, List.getElem?_cons_succ, Option.toList]
        have Hth := Lib.hid (row_there Hz.out.row)
        obtain ⟨s1, s2⟩ := row_store Hz.out.row [.int .i64 x.v, .int .i64 x.i, .int .i64 x.q, .slice E x.b.length d, .slice F x.o.length q] rfl
        have hfs : Fp (fun b => b = w6.heap.size) w7 (w7.setCells (w6.heap.size) 0 [.int .i64 x.v, .int .i64 x.i, .int .i64 x.q, .slice E x.b.length d, .slice F x.o.length q]) := (Fp.refl (fun b => b = w6.heap.size) w7).setCells (Or.inl rfl) _
        have HT1 := Lib.hid s1
        have Hfs := Lib.hid hfs
        clear s1 s2 hfs
        go_wp2_with (first | (refine wpList_store_mid rfl 25 (.tmp 11) (.tmp 42) rfl (w6.heap.size) 0 #[.int .i64 x.v, .int .i64 x.i, .int .i64 x.q, .slice E x.b.length d, .slice F x.o.length q] rfl rfl Hth.out sizeC (by simp [Value.oneCell']) ?_))
        refine And.intro (by kernel_rfl) ?_
        go_wp2_with fail
        go_meet
        have t1 := HT1.out
        have hfs := Hfs.out
        obtain ⟨wz, hwz⟩ : ∃ wz, w7.setCells (w6.heap.size) 0 [.int .i64 x.v, .int .i64 x.i, .int .i64 x.q, .slice E x.b.length d, .slice F x.o.length q] = wz := ⟨_, rfl⟩
        rw [hwz] at t1 hfs ⊢
        have ho := Hz.out.off
        have hzl := HB.out.size
        have hN1 := Ht.out.lt
        exact ⟨_, x, K', E, F, d, q, S6, rfl, Lib.hid (HT.out.fp hfs (by omega) (fun he => ho.2.2 he.symm) (fun b hb he => ho.2.1 (he ▸ hb))), HFx, hkl, HSn, Lib.hid (HB.out.trans (hfs.to_below (B := w.heap.size) hzl (fun k _ hk => by omega))), Lib.hid (Ht.out.other hfs (by omega)), Lib.hid (Hu.out.other hfs (by omega)), Lib.hid (HU.out.other hfs (by omega) (by omega)), Lib.hid ⟨t1, ho.seal hfs fun b hb => .inl hb⟩, Lib.hid (CertOk.keeps HX2.out ⟨hfs.size, fun b hb hlt => ⟨hfs.block b hlt hb.2, hb.1.seal hfs fun b hb => .inl hb⟩⟩)⟩
      · simp only [List.getElem?_cons_zero, List.getElem?_cons_succ, Option.toList]
        go_wp2_with fail
        have n1 : g < w5.heap.size := HT.out.nt.lt.1
        have n2 : w1.heap.size < w5.heap.size := Ht.out.lt
        have n3 : w3.heap.size < w5.heap.size := Hu.out.lt
        have n4 : gu < w5.heap.size := HU.out.o1.1
        have n5 : bmu < w5.heap.size := HU.out.o2.1
        have n6 : w.heap.size ≤ w5.heap.size := HB.out.size
        have HLa := Lib.hid (HLF.out.alloc (.cells #[.int .i64 0, .int .i64 0, .int .i64 0, .slice none 0 0, .slice none 0 0] 25))
        have hba := alloc_below w5 (.cells #[.int .i64 0, .int .i64 0, .int .i64 0, .slice none 0 0, .slice none 0 0] 25)
        have hra : Rw (w5.alloc (.cells #[.int .i64 0, .int .i64 0, .int .i64 0, .slice none 0 0, .slice none 0 0] 25)) (fun b => b = h) bm w5.heap.size (.cells #[.int .i64 0, .int .i64 0, .int .i64 0, .slice none 0 0, .slice none 0 0] 25 (0, 0)) := Rw.new (.cells #[.int .i64 0, .int .i64 0, .int .i64 0, .slice none 0 0, .slice none 0 0] 25) HT.out.lt HT.out.nt.lt.2
        obtain ⟨w6, hWa⟩ : ∃ W_, w5.alloc (.cells #[.int .i64 0, .int .i64 0, .int .i64 0, .slice none 0 0, .slice none 0 0] 25) = W_ := ⟨_, rfl⟩
        have hla := HLa.out
        rw [hWa] at hba hra hla ⊢
        replace HLF := Lib.hid hla
        have Hz := Lib.hid hra
        clear hWa hra hla HLa
        replace Hc := Lib.hid (Hc.out.below hba)
        replace Ht := Lib.hid (Ht.out.below hba)
        replace Hu := Lib.hid (Hu.out.below hba)
        replace Ha0 := Lib.hid (Ck.below Ha0.out hba)
        replace HU := Lib.hid (HU.out.below hba)
        replace HT := Lib.hid (HT.out.below hba)
        replace HB := Lib.hid (Below.then HB.out hba HB.out.size)
        clear hba
        first | refine And.intro (fun _ => ⟨⟨_, HLF.out⟩, rfl⟩) ?_ | refine And.intro ⟨⟨_, HLF.out⟩, rfl⟩ ?_
        refine wpAnyM_one 6 (by kernel_rfl) ?_
        simp only [List.getElem?_cons_zero, List.getElem?_cons_succ, Option.toList]
        go_wp2_with fail
        have hzlt := Hz.out.lt
        have hcall := two_cert' 5 f skip a B1 A2 d1 c2 (fun b => b = h) g bm h [] w6 HT.out hf hsk Ha0.out (by simp) (by omega)
        rw [Hco.out] at hcall
        refine hcall.mono ?_
        clear hcall
        rintro e w7 ⟨x, K', E, d, F, q, S7, hcs, rfl, hT', hS', hF', hx'⟩
        have hcf := certS_cf (skip := skip) (kind := 5) (Or.inr rfl) hf (show (2 : Int) ≤ 4 by omega) HCu'.out (K := []) (by simp)
        rw [hcs] at hcf
        dsimp only at hcf
        have HFx := Lib.hid hcf.1
        have hkl : K'.length ≤ 12 := by have := hcf.2.2; simp at this; omega
        clear hcf hcs
        replace HLF := Lib.hid (HLF.out.trans hF' fun k hk => .inl hk)
        replace Hc := Lib.hid (Hc.out.seal hF' hS')
        replace Ht := Lib.hid (Ht.out.seal hF' hS')
        replace Hu := Lib.hid (Hu.out.seal hF' hS')
        replace Hz := Lib.hid (Hz.out.seal hF' hS')
        replace Ha0 := Lib.hid (Ck.seal Ha0.out hF' hS')
        replace HU := Lib.hid (HU.out.seal hF' hS')
        have hzb := HB.out.size
        replace HB := Lib.hid (HB.out.trans ((hF').to_below (B := w.heap.size) hzb (fun k hk hh => by rcases hh with hh | hh; (have := HSn.out k hh; omega); omega)))
        replace HSn : Hid (∀ b, (S7) b → w.heap.size ≤ b) := Lib.hid fun b hb => by rcases hS' b hb with h1 | h1; exact HSn.out b h1; omega
        clear hzb
        replace HT := Lib.hid hT'
        clear hT' hS' hF'
        have Hx : Hid (Ck w7 S7 bm ⟨x, .slice E x.b.length d, .slice F x.o.length q⟩) := Lib.hid (CertOk.keeps hx' (Keeps.mono fun b _ hb => hb.2))
        have HX2 : Hid (CertOk w7 (fun b => Off w7 S7 bm b ∧ b ≠ w5.heap.size) ⟨x, .slice E x.b.length d, .slice F x.o.length q⟩) := Lib.hid (CertOk.keeps hx' (Keeps.mono fun b _ hb => ⟨hb.2, by have := hb.1; omega⟩))
        clear hx'
        go_wp2_with fail
        first | refine And.intro (fun _ => ⟨⟨_, HLF.out⟩, rfl⟩) ?_ | refine And.intro ⟨⟨_, HLF.out⟩, rfl⟩ ?_
        refine wpAnyM_one 8 (by kernel_rfl) ?_
        simp only [List.getElem?_cons_zero, List.getElem?_cons_succ, Option.toList]
        have Hth := Lib.hid (row_there Hz.out.row)
        obtain ⟨s1, s2⟩ := row_store Hz.out.row [.int .i64 x.v, .int .i64 x.i, .int .i64 x.q, .slice E x.b.length d, .slice F x.o.length q] rfl
        have hfs : Fp (fun b => b = w5.heap.size) w7 (w7.setCells (w5.heap.size) 0 [.int .i64 x.v, .int .i64 x.i, .int .i64 x.q, .slice E x.b.length d, .slice F x.o.length q]) := (Fp.refl (fun b => b = w5.heap.size) w7).setCells (Or.inl rfl) _
        have HT1 := Lib.hid s1
        have Hfs := Lib.hid hfs
        clear s1 s2 hfs
        go_wp2_with (first | (refine wpList_store_mid rfl 25 (.tmp 11) (.tmp 42) rfl (w5.heap.size) 0 #[.int .i64 x.v, .int .i64 x.i, .int .i64 x.q, .slice E x.b.length d, .slice F x.o.length q] rfl rfl Hth.out sizeC (by simp [Value.oneCell']) ?_))
        refine And.intro (by kernel_rfl) ?_
        go_wp2_with fail
        go_meet
        have t1 := HT1.out
        have hfs := Hfs.out
        obtain ⟨wz, hwz⟩ : ∃ wz, w7.setCells (w5.heap.size) 0 [.int .i64 x.v, .int .i64 x.i, .int .i64 x.q, .slice E x.b.length d, .slice F x.o.length q] = wz := ⟨_, rfl⟩
        rw [hwz] at t1 hfs ⊢
        have ho := Hz.out.off
        have hzl := HB.out.size
        have hN1 := Ht.out.lt
        exact ⟨_, x, K', E, F, d, q, S7, rfl, Lib.hid (HT.out.fp hfs (by omega) (fun he => ho.2.2 he.symm) (fun b hb he => ho.2.1 (he ▸ hb))), HFx, hkl, HSn, Lib.hid (HB.out.trans (hfs.to_below (B := w.heap.size) hzl (fun k _ hk => by omega))), Lib.hid (Ht.out.other hfs (by omega)), Lib.hid (Hu.out.other hfs (by omega)), Lib.hid (HU.out.other hfs (by omega) (by omega)), Lib.hid ⟨t1, ho.seal hfs fun b hb => .inl hb⟩, Lib.hid (CertOk.keeps HX2.out ⟨hfs.size, fun b hb hlt => ⟨hfs.block b hlt hb.2, hb.1.seal hfs fun b hb => .inl hb⟩⟩)⟩
    · simp only [List.getElem?_cons_zero, List.getElem?_cons_succ, Option.toList]
      go_wp2_with fail
      have n1 : g < W.heap.size := HT.out.nt.lt.1
      have n2 : w1.heap.size < W.heap.size := Ht.out.lt
      have n3 : w3.heap.size < W.heap.size := Hu.out.lt
      have n4 : gu < W.heap.size := HU.out.o1.1
      have n5 : bmu < W.heap.size := HU.out.o2.1
      have n6 : w.heap.size ≤ W.heap.size := HB.out.size
      have HLa := Lib.hid (HLF.out.alloc (.cells #[.int .i64 0, .int .i64 0, .int .i64 0, .slice none 0 0, .slice none 0 0] 25))
      have hba := alloc_below W (.cells #[.int .i64 0, .int .i64 0, .int .i64 0, .slice none 0 0, .slice none 0 0] 25)
      have hra : Rw (W.alloc (.cells #[.int .i64 0, .int .i64 0, .int .i64 0, .slice none 0 0, .slice none 0 0] 25)) (fun b => b = h) bm W.heap.size (.cells #[.int .i64 0, .int .i64 0, .int .i64 0, .slice none 0 0, .slice none 0 0] 25 (0, 0)) := Rw.new (.cells #[.int .i64 0, .int .i64 0, .int .i64 0, .slice none 0 0, .slice none 0 0] 25) HT.out.lt HT.out.nt.lt.2
      obtain ⟨w5, hWa⟩ : ∃ W_, W.alloc (.cells #[.int .i64 0, .int .i64 0, .int .i64 0, .slice none 0 0, .slice none 0 0] 25) = W_ := ⟨_, rfl⟩
      have hla := HLa.out
      rw [hWa] at hba hra hla ⊢
      replace HLF := Lib.hid hla
      have Hz := Lib.hid hra
      clear hWa hra hla HLa
      replace Hc := Lib.hid (Hc.out.below hba)
      replace Ht := Lib.hid (Ht.out.below hba)
      replace Hu := Lib.hid (Hu.out.below hba)
      replace HU := Lib.hid (HU.out.below hba)
      replace HT := Lib.hid (HT.out.below hba)
      replace HB := Lib.hid (Below.then HB.out hba HB.out.size)
      clear hba
      first | refine And.intro (fun _ => ⟨⟨_, HLF.out⟩, rfl⟩) ?_ | refine And.intro ⟨⟨_, HLF.out⟩, rfl⟩ ?_
      refine wpAnyM_one 5 (by kernel_rfl) ?_
      simp only [List.getElem?_cons_zero, List.getElem?_cons_succ, Option.toList]
      go_wp2_with fail
      refine (cut_m c A1 A2 c1 c2 f 2 w5 _ (HXd.out _ HB.out) Hwc.out hf ⟨by omega, by omega⟩).mono ?_
      rintro e w6 ⟨B1, n1, d1, rfl, hn1, hO1, hb3⟩
      obtain ⟨a, ha⟩ : ∃ a, Psp.cutC c f 2 = a := ⟨_, rfl⟩
      have hco : (Psp.cutC c f 2).o = c.o := rfl
      rw [ha] at hn1 hO1 hco ⊢
      have HCu := HCut.out
      have hsb' := hsb
      rw [ha] at HCu hsb'
      subst hn1
      have Ha0 : Hid (Ck w6 (fun b => b = h) bm ⟨a, .slice B1 a.b.length d1, .slice A2 a.o.length c2⟩) := Lib.hid ⟨(RdP.of_own hO1).mono fun b hb hPb => ⟨hb, fun hh => by have := hPb.2; have := HT.out.lt b hh; omega, by have := hPb.2; have := HT.out.nt.lt.2; omega⟩, by
        rw [hco]
        exact RdP.keeps (HXd.out _ HB.out).2 ⟨hb3.size, fun b hb hlt => ⟨hb3.block b hlt, by have := hb3.size; omega, fun hh => by have := HSn.out b hh; omega, by omega⟩⟩⟩
      have HCu' := Lib.hid HCu
      have Hco := Lib.hid hco
      clear hco hO1 HCu
      have hlfw6 := Fp.of_below (hb3) (fun b => (fun b => b = h) b ∨ b = bm)
      replace HLF := Lib.hid (HLF.out.trans hlfw6 fun k hk => .inl hk)
      clear hlfw6
      replace Hc := Lib.hid (Hc.out.below hb3)
      replace Ht := Lib.hid (Ht.out.below hb3)
      replace Hu := Lib.hid (Hu.out.below hb3)
      replace Hz := Lib.hid (Hz.out.below hb3)
      replace HU := Lib.hid (HU.out.below hb3)
      replace HT := Lib.hid (HT.out.below hb3)
      replace HB := Lib.hid (Below.then HB.out hb3 HB.out.size)
      clear hb3
      go_wp2_with fail
      first | refine And.intro (fun _ => ⟨⟨_, HLF.out⟩, rfl⟩) ?_ | refine And.intro ⟨⟨_, HLF.out⟩, rfl⟩ ?_
      refine wpAnyM_one 6 (by kernel_rfl) ?_
      simp only [List.getElem?_cons_zero, List.getElem?_cons_succ, Option.toList]
      go_wp2_with fail
      have hzlt := Hz.out.lt
      have hcall := two_cert' 5 f skip a B1 A2 d1 c2 (fun b => b = h) g bm h [] w6 HT.out hf hsk Ha0.out (by simp) (by omega)
      rw [Hco.out] at hcall
      refine hcall.mono ?_
      clear hcall
      rintro e w7 ⟨x, K', E, d, F, q, S7, hcs, rfl, hT', hS', hF', hx'⟩
      have hcf := certS_cf (skip := skip) (kind := 5) (Or.inr rfl) hf (show (2 : Int) ≤ 4 by omega) HCu'.out (K := []) (by simp)
      rw [hcs] at hcf
      dsimp only at hcf
      have HFx := Lib.hid hcf.1
      have hkl : K'.length ≤ 12 := by have := hcf.2.2; simp at this; omega
      clear hcf hcs
      replace HLF := Lib.hid (HLF.out.trans hF' fun k hk => .inl hk)
      replace Hc := Lib.hid (Hc.out.seal hF' hS')
      replace Ht := Lib.hid (Ht.out.seal hF' hS')
      replace Hu := Lib.hid (Hu.out.seal hF' hS')
      replace Hz := Lib.hid (Hz.out.seal hF' hS')
      replace Ha0 := Lib.hid (Ck.seal Ha0.out hF' hS')
      replace HU := Lib.hid (HU.out.seal hF' hS')
      have hzb := HB.out.size
      replace HB := Lib.hid (HB.out.trans ((hF').to_below (B := w.heap.size) hzb (fun k hk hh => by rcases hh with hh | hh; (have := HSn.out k hh; omega); omega)))
      replace HSn : Hid (∀ b, (S7) b → w.heap.size ≤ b) := Lib.hid fun b hb => by rcases hS' b hb with h1 | h1; exact HSn.out b h1; omega
      clear hzb
      replace HT := Lib.hid hT'
      clear hT' hS' hF'
      have Hx : Hid (Ck w7 S7 bm ⟨x, .slice E x.b.length d, .slice F x.o.length q⟩) := Lib.hid (CertOk.keeps hx' (Keeps.mono fun b _ hb => hb.2))
      have HX2 : Hid (CertOk w7 (fun b => Off w7 S7 bm b ∧ b ≠ W.heap.size) ⟨x, .slice E x.b.length d, .slice F x.o.length q⟩) := Lib.hid (CertOk.keeps hx' (Keeps.mono fun b _ hb => ⟨hb.2, by have := hb.1; omega⟩))
      clear hx'
      go_wp2_with fail
      first | refine And.intro (fun _ => ⟨⟨_, HLF.out⟩, rfl⟩) ?_ | refine And.intro ⟨⟨_, HLF.out⟩, rfl⟩ ?_
      refine wpAnyM_one 8 (by kernel_rfl) ?_
      simp only [List.getElem?_cons_zero, List.getElem?_cons_succ, Option.toList]
      have Hth := Lib.hid (row_there Hz.out.row)
      obtain ⟨s1, s2⟩ := row_store Hz.out.row [.int .i64 x.v, .int .i64 x.i, .int .i64 x.q, .slice E x.b.length d, .slice F x.o.length q] rfl
      have hfs : Fp (fun b => b = W.heap.size) w7 (w7.setCells (W.heap.size) 0 [.int .i64 x.v, .int .i64 x.i, .int .i64 x.q, .slice E x.b.length d, .slice F x.o.length q]) := (Fp.refl (fun b => b = W.heap.size) w7).setCells (Or.inl rfl) _
      have HT1 := Lib.hid s1
      have Hfs := Lib.hid hfs
      clear s1 s2 hfs
      go_wp2_with (first | (refine wpList_store_mid rfl 25 (.tmp 11) (.tmp 42) rfl (W.heap.size) 0 #[.int .i64 x.v, .int .i64 x.i, .int .i64 x.q, .slice E x.b.length d, .slice F x.o.length q] rfl rfl Hth.out sizeC (by simp [Value.oneCell']) ?_))
      refine And.intro (by kernel_rfl) ?_
      go_wp2_with fail
      go_meet
      have t1 := HT1.out
      have hfs := Hfs.out
      obtain ⟨wz, hwz⟩ : ∃ wz, w7.setCells (W.heap.size) 0 [.int .i64 x.v, .int .i64 x.i, .int .i64 x.q, .slice E x.b.length d, .slice F x.o.length q] = wz := ⟨_, rfl⟩
      rw [hwz] at t1 hfs ⊢
      have ho := Hz.out.off
      have hzl := HB.out.size
      have hN1 := Ht.out.lt
      exact ⟨_, x, K', E, F, d, q, S7, rfl, Lib.hid (HT.out.fp hfs (by omega) (fun he => ho.2.2 he.symm) (fun b hb he => ho.2.1 (he ▸ hb))), HFx, hkl, HSn, Lib.hid (HB.out.trans (hfs.to_below (B := w.heap.size) hzl (fun k _ hk => by omega))), Lib.hid (Ht.out.other hfs (by omega)), Lib.hid (Hu.out.other hfs (by omega)), Lib.hid (HU.out.other hfs (by omega) (by omega)), Lib.hid ⟨t1, ho.seal hfs fun b hb => .inl hb⟩, Lib.hid (CertOk.keeps HX2.out ⟨hfs.size, fun b hb hlt => ⟨hfs.block b hlt hb.2, hb.1.seal hfs fun b hb => .inl hb⟩⟩)⟩
  case rest =>
    obtain ⟨j, x, K', E, F, d, q, S', rfl, HT, HFx, hkl, HSn, HB, Ht, Hu, HU, Hr, Hx⟩ := hcut
    have hK' : K'.length < 1000000 := by omega
    obtain ⟨po1, po2⟩ := ch_small (n := f) (v := 3) (by omega) (by omega)
    obtain ⟨os1, os2⟩ := open_sealed (K := K') po1 po2 (ch_form (cl := 2) hf (n := f) (v := 3) (by omega) (by omega)) hK'
    have os3 := open_none (f := f) (cl := 2) po1 (okE_of_okS os1)
    have HPo := Lib.hid po1
    have HOs := Lib.hid os1
    have HOp := Lib.hid os2
    have HOn := Lib.hid os3
    clear po1 po2 os1 os2 os3
    have f_t0 : wc.cell? ⟨w1.heap.size, 0, none⟩ = some (.pointer (some ⟨g, 0, none⟩)) := Ht.out.cell rfl
    go_wp2_with fail
    clear f_t0
    refine (seal_m (chM f 3) _ _ _ _ g bm K' wc ⟨RdP.none_, RdP.none_, RdC.nil, RdA.nil⟩ ⟨by show _ ≤ f; omega, by show f ≤ _; omega⟩ HT.out.nt (by omega)).mono ?_
    rintro e w11 ⟨v, rfl, hv, hN', hF''⟩
    rw [HOs.out] at hv ⊢
    rw [res_yes] at hv
    have hF' : Fp (fun b => S' b ∨ b = bm) wc w11 := hF''.mono fun k _ hk => .inr hk
    have hS' : ∀ b, S' b → S' b ∨ wc.heap.size ≤ b := fun b hb => .inl hb
    have HN := Lib.hid hN'
    obtain ⟨Bv, cv_, rfl, _, _, _⟩ := own_slice hv
    obtain ⟨bs, hbs⟩ : ∃ bs, Psp.encN (sealN K' (kM (chM f 3))) ++ Psp.encM (chM f 3) = bs := ⟨_, rfl⟩
    rw [hbs] at hv ⊢
    have Hv := Lib.hid ((RdP.of_own hv).mono (P' := fun k => k < w11.heap.size) fun b hb _ => hb)
    have HOp2 := HOp.out
    have HOn2 := HOn.out
    rw [hbs] at HOp2 HOn2
    have HFk : Hid (∀ n a m', dN bs 0 = some (n, a) → Psp.parseM (bs.drop a.toNat) = some m' → FormOk f 2 m') := Lib.hid (by
      rw [← hbs]
      refine open_form HPo.out ?_ (fun vb vo vc vp w P hx hw => form_6 _ vb vo vc vp f 2 w P hx hw (may_of hf) rfl)
      have h1 := okE_of_okS HOs.out
      unfold okE at h1
      rw [Bool.and_eq_true] at h1
      exact h1.1)
    have HOp3 := Lib.hid HOp2
    have HOn3 := Lib.hid HOn2
    clear hv hN' hF'' hbs HOp2 HOn2 HOp HOn
    replace Ht := Lib.hid (Ht.out.seal hF' hS')
    replace Hu := Lib.hid (Hu.out.seal hF' hS')
    replace Hr := Lib.hid (Hr.out.seal hF' hS')
    replace Hx := Lib.hid (Ck.seal Hx.out hF' hS')
    replace HU := Lib.hid (HU.out.seal hF' hS')
    have hzb := HB.out.size
    replace HB := Lib.hid (HB.out.trans (hF'.to_below (B := w.heap.size) hzb (fun k hk hh => by rcases hh with hh | hh; (have := HSn.out k hh; omega); omega)))
    have hz11 := hF'.size
    have HSl : Hid (∀ b, S' b → b < w11.heap.size) := Lib.hid fun b hb => by have := HT.out.lt b hb; omega
    clear hzb hF' hS' HT
    have f_u0 : w11.cell? ⟨w3.heap.size, 0, none⟩ = some (.pointer (some ⟨gu, 0, none⟩)) := Hu.out.cell rfl
    go_wp2_with fail
    clear f_u0
    refine (open_m bs _ f 2 gu bmu [] w11 Hv.out HU.out.nt HFk.out).mono ?_
    rintro e w12 ⟨-, h2, hb12⟩
    obtain rfl := h2 HOn3.out
    replace Hv := Lib.hid (RdP.mono (P' := fun k => k < w12.heap.size) (Hv.out.keeps (Keeps.below hb12)) fun b hb _ => hb)
    replace HSl : Hid (∀ b, S' b → b < w12.heap.size) := Lib.hid fun b hb => by have := HSl.out b hb; have := hb12.size; omega
    clear h2
    replace Ht := Lib.hid (Ht.out.below hb12)
    replace Hu := Lib.hid (Hu.out.below hb12)
    replace Hr := Lib.hid (Hr.out.below hb12)
    replace Hx := Lib.hid (Ck.below Hx.out hb12)
    replace HU := Lib.hid (HU.out.below hb12)
    replace HN := Lib.hid (HN.out.below hb12)
    replace HB := Lib.hid (Below.then HB.out hb12 HB.out.size)
    clear hb12
    go_upto_region 9 with fail
    have hba := alloc_below w12 (.cells zs 41)
    have hra : Rw (w12.alloc (.cells zs 41)) S' bm w12.heap.size (.cells zs 41 (0, 0)) := Rw.new (.cells zs 41) HSl.out HN.out.lt.2
    have hsa : (w12.alloc (.cells zs 41)).heap.size = w12.heap.size + 1 := by simp
    obtain ⟨w13, hWa⟩ : ∃ W_, w12.alloc (.cells zs 41) = W_ := ⟨_, rfl⟩
    rw [hWa] at hba hra hsa ⊢
    have Hs_w13 := Lib.hid hsa
    have Hb_w13 := Lib.hid hba
    have Hy := Lib.hid hra
    clear hWa hra hsa
    replace Ht := Lib.hid (Ht.out.below hba)
    replace Hu := Lib.hid (Hu.out.below hba)
    replace Hr := Lib.hid (Hr.out.below hba)
    replace Hx := Lib.hid (Ck.below Hx.out hba)
    replace HU := Lib.hid (HU.out.below hba)
    replace HN := Lib.hid (HN.out.below hba)
    replace HB := Lib.hid (Below.then HB.out hba HB.out.size)
    clear hba
    replace HSl : Hid (∀ b, S' b → b < w13.heap.size) := Lib.hid fun b hb => by have := HSl.out b hb; have := Hs_w13.out; omega
    replace Hv := Lib.hid (RdP.mono (P' := fun k => k < w13.heap.size) (Hv.out.keeps (Keeps.below Hb_w13.out)) fun b hb _ => hb)
    have f_t0 : w13.cell? ⟨w1.heap.size, 0, none⟩ = some (.pointer (some ⟨g, 0, none⟩)) := Ht.out.cell rfl
    go_wp2_with fail
    clear f_t0
    refine (open_m bs _ f 2 g bm (sealK K' (chM f 3)) w13 Hv.out HN.out HFk.out).mono ?_
    rintro e w14 ⟨h1, -, hb14⟩
    obtain ⟨vb, vo, vc, vp, rfl, hmx⟩ := h1 _ _ HOp3.out
    obtain ⟨Gb, Go_, Gc, Gp, gb, go_, gc, gp, rfl, rfl, rfl, rfl⟩ := msg_slices hmx
    replace HSl : Hid (∀ b, S' b → b < w14.heap.size) := Lib.hid fun b hb => by have := HSl.out b hb; have := hb14.size; omega
    clear h1 hmx
    replace Ht := Lib.hid (Ht.out.below hb14)
    replace Hu := Lib.hid (Hu.out.below hb14)
    replace Hr := Lib.hid (Hr.out.below hb14)
    replace Hy := Lib.hid (Hy.out.below hb14)
    replace Hx := Lib.hid (Ck.below Hx.out hb14)
    replace HU := Lib.hid (HU.out.below hb14)
    replace HN := Lib.hid (HN.out.below hb14)
    replace HB := Lib.hid (Below.then HB.out hb14 HB.out.size)
    clear hb14
    go_upto_region 10 with fail
    have hba := alloc_below w14 (.cells #[.int .i64 (chM f 3).k, .int .i64 (chM f 3).f, .int .i64 (chM f 3).v, .int .i64 (chM f 3).i, .int .i64 (chM f 3).q, .int .i64 (chM f 3).r, .slice Gb (chM f 3).b.length gb, .slice Go_ (chM f 3).o.length go_, .slice Gc (chM f 3).c.length gc, .slice Gp (chM f 3).p.length gp] 41)
    have hra : Rw (w14.alloc (.cells #[.int .i64 (chM f 3).k, .int .i64 (chM f 3).f, .int .i64 (chM f 3).v, .int .i64 (chM f 3).i, .int .i64 (chM f 3).q, .int .i64 (chM f 3).r, .slice Gb (chM f 3).b.length gb, .slice Go_ (chM f 3).o.length go_, .slice Gc (chM f 3).c.length gc, .slice Gp (chM f 3).p.length gp] 41)) S' bm w14.heap.size (.cells #[.int .i64 (chM f 3).k, .int .i64 (chM f 3).f, .int .i64 (chM f 3).v, .int .i64 (chM f 3).i, .int .i64 (chM f 3).q, .int .i64 (chM f 3).r, .slice Gb (chM f 3).b.length gb, .slice Go_ (chM f 3).o.length go_, .slice Gc (chM f 3).c.length gc, .slice Gp (chM f 3).p.length gp] 41 (0, 0)) := Rw.new (.cells #[.int .i64 (chM f 3).k, .int .i64 (chM f 3).f, .int .i64 (chM f 3).v, .int .i64 (chM f 3).i, .int .i64 (chM f 3).q, .int .i64 (chM f 3).r, .slice Gb (chM f 3).b.length gb, .slice Go_ (chM f 3).o.length go_, .slice Gc (chM f 3).c.length gc, .slice Gp (chM f 3).p.length gp] 41) HSl.out HN.out.lt.2
    have hsa : (w14.alloc (.cells #[.int .i64 (chM f 3).k, .int .i64 (chM f 3).f, .int .i64 (chM f 3).v, .int .i64 (chM f 3).i, .int .i64 (chM f 3).q, .int .i64 (chM f 3).r, .slice Gb (chM f 3).b.length gb, .slice Go_ (chM f 3).o.length go_, .slice Gc (chM f 3).c.length gc, .slice Gp (chM f 3).p.length gp] 41)).heap.size = w14.heap.size + 1 := by simp
    obtain ⟨w15, hWa⟩ : ∃ W_, w14.alloc (.cells #[.int .i64 (chM f 3).k, .int .i64 (chM f 3).f, .int .i64 (chM f 3).v, .int .i64 (chM f 3).i, .int .i64 (chM f 3).q, .int .i64 (chM f 3).r, .slice Gb (chM f 3).b.length gb, .slice Go_ (chM f 3).o.length go_, .slice Gc (chM f 3).c.length gc, .slice Gp (chM f 3).p.length gp] 41) = W_ := ⟨_, rfl⟩
    rw [hWa] at hba hra hsa ⊢
    have Hs_w15 := Lib.hid hsa
    have Hb_w15 := Lib.hid hba
    have Hm := Lib.hid hra
    clear hWa hra hsa
    replace Ht := Lib.hid (Ht.out.below hba)
    replace Hu := Lib.hid (Hu.out.below hba)
    replace Hr := Lib.hid (Hr.out.below hba)
    replace Hy := Lib.hid (Hy.out.below hba)
    replace Hx := Lib.hid (Ck.below Hx.out hba)
    replace HU := Lib.hid (HU.out.below hba)
    replace HN := Lib.hid (HN.out.below hba)
    replace HB := Lib.hid (Below.then HB.out hba HB.out.size)
    clear hba
    have hkx := sealK_len K' (chM f 3)
    obtain ⟨K2, hK2⟩ : ∃ K2, sealK K' (chM f 3) = K2 := ⟨_, rfl⟩
    have hsub := sub_sealK K' (chM f 3)
    rw [hK2] at HN hkx hsub
    have hK2l : K2.length < 1099511627776 := by omega
    replace HFx := Lib.hid (HFx.out.sub hsub)
    have hxb := HFx.out.sb
    have hxl := HFx.out.len hf
    have C1 : Hid (votedB [] 5 x f = false) := Lib.hid (voted_none (by omega))
    have C2 : Hid (votedB K2 5 x f = true) := Lib.hid HFx.out.voted
    have Wx := Lib.hid (HFx.out.wf hf.2 (show (2 : Int) ≤ 4 by omega) hK2l)
    clear hK2 hkx hsub hxl
    have f_r0 : w15.cell? ⟨j, 0, none⟩ = some (.int .i64 x.v) := Hr.out.cell rfl
    have f_r1 : w15.cell? ⟨j, 1, none⟩ = some (.int .i64 x.i) := Hr.out.cell rfl
    have f_r2 : w15.cell? ⟨j, 2, none⟩ = some (.int .i64 x.q) := Hr.out.cell rfl
    have f_r3 : w15.cell? ⟨j, 3, none⟩ = some (.slice E x.b.length d) := Hr.out.cell rfl
    have f_r4 : w15.cell? ⟨j, 4, none⟩ = some (.slice F x.o.length q) := Hr.out.cell rfl
    have f_u0 : w15.cell? ⟨w3.heap.size, 0, none⟩ = some (.pointer (some ⟨gu, 0, none⟩)) := Hu.out.cell rfl
    go_wp2_with fail
    clear f_r0 f_r1 f_r2 f_r3 f_r4 f_u0
    refine (voted_m 5 x _ _ f gu bmu [] w15 _ Hx.out Wx.out.2.2.2.2 HU.out.nt (by omega)).mono ?_
    rw [C1.out]
    rintro e w16 ⟨rfl, hb16⟩
    replace Ht := Lib.hid (Ht.out.below hb16)
    replace Hu := Lib.hid (Hu.out.below hb16)
    replace Hr := Lib.hid (Hr.out.below hb16)
    replace Hy := Lib.hid (Hy.out.below hb16)
    replace Hm := Lib.hid (Hm.out.below hb16)
    replace Hx := Lib.hid (Ck.below Hx.out hb16)
    replace HU := Lib.hid (HU.out.below hb16)
    replace HN := Lib.hid (HN.out.below hb16)
    replace HB := Lib.hid (Below.then HB.out hb16 HB.out.size)
    clear hb16
    have f_r0 : w16.cell? ⟨j, 0, none⟩ = some (.int .i64 x.v) := Hr.out.cell rfl
    have f_r1 : w16.cell? ⟨j, 1, none⟩ = some (.int .i64 x.i) := Hr.out.cell rfl
    have f_r2 : w16.cell? ⟨j, 2, none⟩ = some (.int .i64 x.q) := Hr.out.cell rfl
    have f_r3 : w16.cell? ⟨j, 3, none⟩ = some (.slice E x.b.length d) := Hr.out.cell rfl
    have f_r4 : w16.cell? ⟨j, 4, none⟩ = some (.slice F x.o.length q) := Hr.out.cell rfl
    have f_t0 : w16.cell? ⟨w1.heap.size, 0, none⟩ = some (.pointer (some ⟨g, 0, none⟩)) := Ht.out.cell rfl
    go_wp2_with fail
    clear f_r0 f_r1 f_r2 f_r3 f_r4 f_t0
    refine (voted_m 5 x _ _ f g bm K2 w16 _ Hx.out Wx.out.2.2.2.2 HN.out (by omega)).mono ?_
    rw [C2.out]
    rintro e w17 ⟨rfl, hb17⟩
    replace Ht := Lib.hid (Ht.out.below hb17)
    replace Hu := Lib.hid (Hu.out.below hb17)
    replace Hr := Lib.hid (Hr.out.below hb17)
    replace Hy := Lib.hid (Hy.out.below hb17)
    replace Hm := Lib.hid (Hm.out.below hb17)
    replace Hx := Lib.hid (Ck.below Hx.out hb17)
    replace HU := Lib.hid (HU.out.below hb17)
    replace HN := Lib.hid (HN.out.below hb17)
    replace HB := Lib.hid (Below.then HB.out hb17 HB.out.size)
    clear hb17
    have f_u0 : w17.cell? ⟨w3.heap.size, 0, none⟩ = some (.pointer (some ⟨gu, 0, none⟩)) := Hu.out.cell rfl
    go_wp2_with fail
    clear f_u0
    refine (nt_len gu bmu [] w17 HU.out.nt).mono ?_
    rintro e w18 ⟨rfl, rfl⟩
    go_wp2_with fail
    refine (wakes06 _).mono ?_
    rintro e w19 ⟨rfl, hb19⟩
    go_wp2_with fail
    go_ret
    exact ⟨rfl, Below.then HB.out hb19 HB.out.size⟩
end Go.Proofs.YtadpkjgjciodnaaGreat.msgsOthers
