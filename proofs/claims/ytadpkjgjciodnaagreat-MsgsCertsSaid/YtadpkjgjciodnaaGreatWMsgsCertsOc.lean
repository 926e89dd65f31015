/- The walk of MsgsCerts. Printed by gen_wcerts.py. -/
import Derived.Test.YtadpkjgjciodnaaGreatRwOc
import Derived.Test.YtadpkjgjciodnaaGreatJ19Oc
import Derived.Test.YtadpkjgjciodnaaGreatPhXOc
import Derived.Test.YtadpkjgjciodnaaGreatCpoOc
import Derived.Test.YtadpkjgjciodnaaGreatCrp2Oc
import Derived.Test.YtadpkjgjciodnaaGreatRvtOc
import Derived.Test.YtadpkjgjciodnaaGreatJ41Oc
import Derived.Deep.CutBlock
namespace Go.Proofs.YtadpkjgjciodnaaGreat.msgsCerts
open Go.RowKit
set_option linter.unusedVariables false
set_option linter.unusedSimpArgs false

set_option maxRecDepth 100000 in
set_option maxHeartbeats 16000000 in
theorem walk (x : CertV) (f0 cl0 kind0 skip turn at0 : Int) (w : World) (hx : CertOk w (fun b => b < w.heap.size) x ∧ wfCert x.c) (hf0 : isI64 f0) (hcl0 : isI64 cl0) (hk0 : isI64 kind0) (hsk : isI64 skip) (htu : isI64 turn) (hat : isI64 at0) :
    Calls Tryz.prog 5 #[.agg (cv x).toArray, .int .i64 f0, .int .i64 cl0, .int .i64 kind0, .int .i64 skip, .int .i64 turn, .int .i64 at0] w fun e w' => e = .returned (.bool true) ∧ Below w.heap.size w w' := by
  obtain ⟨hx, hwc⟩ := hx
  obtain ⟨c, vb, vo⟩ := x
  obtain ⟨_, A1, c1, e1, _⟩ := RdP.parts hx.1
  obtain ⟨_, A2, c2, e2, _⟩ := RdP.parts hx.2
  dsimp only at e1 e2 hwc
  subst e1 e2
  show Calls Tryz.prog 5 #[.agg #[.int .i64 c.v, .int .i64 c.i, .int .i64 c.q, .slice A1 c.b.length c1, .slice A2 c.o.length c2], .int .i64 f0, .int .i64 cl0, .int .i64 kind0, .int .i64 skip, .int .i64 turn, .int .i64 at0] w _
  have HX := Lib.hid hx
  have Hwc := Lib.hid hwc
  have hb0 := alloc_below w (.cells #[.int .i64 c.v, .int .i64 c.i, .int .i64 c.q, .slice A1 c.b.length c1, .slice A2 c.o.length c2] 25)
  have hc0 := heap_alloc_new w (.cells #[.int .i64 c.v, .int .i64 c.i, .int .i64 c.q, .slice A1 c.b.length c1, .slice A2 c.o.length c2] 25)
  have fw0 := Psp.within_lo f0 4
  have fw1 := Psp.within_hi f0 4 (by omega)
  have cw0 := Psp.within_lo cl0 4
  have cw1 := Psp.within_hi cl0 4 (by omega)
  have hwf : IntKind.i64.wrap (1 + Psp.within f0 4) = 1 + Psp.within f0 4 := IntWalk.i64_in _ (by omega)
  have hwc' : IntKind.i64.wrap (1 + Psp.within cl0 4) = 1 + Psp.within cl0 4 := IntWalk.i64_in _ (by omega)
  clear hx hwc
  go_enter Tryz.func5, Tryz.ntmps5
  go_upto_region 2 with (go_at_call 8; refine (within_i _ _ _ (by first | assumption | exact ⟨by omega, by omega⟩) (by exact ⟨by omega, by omega⟩)).mono ?_; rintro e w' ⟨rfl, rfl⟩)
  clear hwf hwc'
  obtain ⟨f, hfx⟩ : ∃ f, 1 + Psp.within f0 4 = f := ⟨_, rfl⟩
  obtain ⟨cl, hclx⟩ : ∃ cl, 1 + Psp.within cl0 4 = cl := ⟨_, rfl⟩
  rw [hfx, hclx]
  have hf : 1 ≤ f ∧ f ≤ 4 := ⟨by omega, by omega⟩
  have hcl : 1 ≤ cl ∧ cl ≤ 4 := ⟨by omega, by omega⟩
  clear hfx hclx fw0 fw1 cw0 cw1
  obtain ⟨W0, hW0⟩ : ∃ W, w.alloc (.cells #[.int .i64 c.v, .int .i64 c.i, .int .i64 c.q, .slice A1 c.b.length c1, .slice A2 c.o.length c2] 25) = W := ⟨_, rfl⟩
  rw [hW0] at hb0 hc0 ⊢
  have HB0 := Lib.hid hb0
  have HC0 := Lib.hid hc0
  have hz0 := (Array.getElem?_eq_some_iff.1 hc0).1
  clear hW0 hb0 hc0
  go_wp2_with fail
  refine (begin_m W0).mono ?_
  rintro e w1 ⟨g, bm, h, rfl, hT, hb1, hg1, hg2, hg3⟩
  have hbmw : w.heap.size ≤ bm := by omega
  have HT := Lib.hid hT
  have HB := Lib.hid (Below.then HB0.out hb1 HB0.out.size)
  have HSn : Hid (∀ b, (fun b => b = h) b → w.heap.size ≤ b) := Lib.hid fun b hb => by have hb : b = h := hb; omega
  have hzw1 := hb1.size
  have Hc : Hid (Rw w1 (fun b => b = h) bm w.heap.size (.cells #[.int .i64 c.v, .int .i64 c.i, .int .i64 c.q, .slice A1 c.b.length c1, .slice A2 c.o.length c2] 25 (0, 0))) := Lib.hid ⟨(hb1.block _ hz0).trans HC0.out, by omega, by omega, by omega⟩
  have hgw : W0.heap.size ≤ g := hg1
  clear HB0 HC0 hb1 hT
  go_upto_region 3 with fail
  have hba := alloc_below w1 (.cells #[.pointer (some ⟨g, 0, none⟩), .pointer (some ⟨h, 0, none⟩)] 30)
  have hra : Rw (w1.alloc (.cells #[.pointer (some ⟨g, 0, none⟩), .pointer (some ⟨h, 0, none⟩)] 30)) (fun b => b = h) bm w1.heap.size (.cells #[.pointer (some ⟨g, 0, none⟩), .pointer (some ⟨h, 0, none⟩)] 30 (0, 0)) := Rw.new (.cells #[.pointer (some ⟨g, 0, none⟩), .pointer (some ⟨h, 0, none⟩)] 30) HT.out.lt HT.out.nt.lt.2
  have hsa : (w1.alloc (.cells #[.pointer (some ⟨g, 0, none⟩), .pointer (some ⟨h, 0, none⟩)] 30)).heap.size = w1.heap.size + 1 := by simp
  obtain ⟨w2, hWa⟩ : ∃ W_, w1.alloc (.cells #[.pointer (some ⟨g, 0, none⟩), .pointer (some ⟨h, 0, none⟩)] 30) = W_ := ⟨_, rfl⟩
  rw [hWa] at hba hra hsa ⊢
  have Hs_w2 := Lib.hid hsa
  have Hb_w2 := Lib.hid hba
  have Ht := Lib.hid hra
  clear hWa hra hsa
  replace Hc := Lib.hid (Hc.out.below hba)
  replace HT := Lib.hid (HT.out.below hba)
  replace HB := Lib.hid (Below.then HB.out hba HB.out.size)
  clear hba
  have kw0 := Psp.within_lo kind0 2
  have kw1 := Psp.within_hi kind0 2 (by omega)
  have hwk : IntKind.i64.wrap (4 + Psp.within kind0 2) = 4 + Psp.within kind0 2 := IntWalk.i64_in _ (by omega)
  go_upto_region 6 with (go_at_call 8; refine (within_i _ _ _ (by first | assumption | exact ⟨by omega, by omega⟩) (by exact ⟨by omega, by omega⟩)).mono ?_; rintro e w' ⟨rfl, rfl⟩)
  clear hwk
  obtain ⟨kind, hkx⟩ : ∃ kind, 4 + Psp.within kind0 2 = kind := ⟨_, rfl⟩
  rw [hkx]
  have hkind : kind = 4 ∨ kind = 5 := by omega
  clear hkx kw0 kw1
  have hzt := Ht.out.lt
  have hdr : Below w2.heap.size w2 w2.drew := (Below.refl _ _).drew
  obtain ⟨Wd, hWd⟩ : ∃ W_, w2.drew = W_ := ⟨_, rfl⟩
  refine wp_region_steps 10 (by kernel_rfl) (by kernel_rfl) ?_
  rw [hWd] at hdr ⊢
  clear hWd
  replace Hc := Lib.hid (Hc.out.below hdr)
  replace Ht := Lib.hid (Ht.out.below hdr)
  replace HT := Lib.hid (HT.out.below hdr)
  replace HB := Lib.hid (Below.then HB.out hdr HB.out.size)
  clear hdr
  have HRM : Hid (∀ w' : World, (∃ p : Later Wd, w' = p.W) → w'.rangeAt w.heap.size 0 [.int .i64 c.v, .int .i64 c.i, .int .i64 c.q, .slice A1 c.b.length c1, .slice A2 c.o.length c2]) := Lib.hid (by rintro w' ⟨p, rfl⟩; exact range_of_row ((p.h.block _ Hc.out.lt).trans Hc.out.row))
  have HRT : Hid (∀ w' : World, (∃ p : Later Wd, w' = p.W) → w'.rangeAt w1.heap.size 0 [.pointer (some ⟨g, 0, none⟩), .pointer (some ⟨h, 0, none⟩)]) := Lib.hid (by rintro w' ⟨p, rfl⟩; exact range_of_row ((p.h.block _ Ht.out.lt).trans Ht.out.row))
  refine wpAny_stage [] [(true, 0), (true, 1), (true, 2), (true, 3), (true, 4), (true, 5), (true, 6), (false, 7)] 2 (by kernel_rfl) ?_
  simp only [phW, List.getElem?_cons_zero, List.getElem?_cons_succ, Option.toList, List.length_cons, List.length_nil, Nat.reduceAdd, List.drop_succ_cons, List.drop_zero]
  repeat (first | go_big_quiet_step (fail) | (refine quiet_load (by simp [Region.wanted, yielded]) 30 (.tmp 15) (by rfl) w1.heap.size (0) (by rfl) [.pointer (some ⟨g, 0, none⟩), .pointer (some ⟨h, 0, none⟩)] _ HRT.out Tryz.underlying30 rfl sizeTwo ?_; intro K hK; go_simp; refine hK _ ?_; clear hK K) | (refine quiet_load (by simp [Region.wanted, yielded]) 25 (.tmp 7) (by rfl) w.heap.size (0) (by rfl) [.int .i64 c.v, .int .i64 c.i, .int .i64 c.q, .slice A1 c.b.length c1, .slice A2 c.o.length c2] _ HRM.out Tryz.underlying25 rfl sizeC ?_; intro K hK; go_simp; refine hK _ ?_; clear hK K) | quiet_step (fail) | refine wpQuiet_nil ?_)
  clear HRM HRT
  go_wp2_with fail
  refine (cut_m c A1 A2 c1 c2 f cl Wd _ ((HX.out.keeps (Keeps.below HB.out))) Hwc.out hf hcl).mono ?_
  rintro e w3 ⟨B1, n1, d1, rfl, hn1, hO1, hb3⟩
  obtain ⟨a, ha⟩ : ∃ a, Psp.cutC c f cl = a := ⟨_, rfl⟩
  have hCut := cutC_is hf hcl.1 c
  have hco : (Psp.cutC c f cl).o = c.o := rfl
  rw [ha] at hn1 hO1 hCut hco ⊢
  subst hn1
  have hl2 := HB.out.size
  have Ha : Hid (Ck w3 (fun b => b = h) bm ⟨a, .slice B1 a.b.length d1, .slice A2 a.o.length c2⟩) := Lib.hid ⟨(RdP.of_own hO1).mono fun b hb hPb => ⟨hb, fun hh => by have := hPb.2; have := HT.out.lt b hh; omega, by have := hPb.2; have := HT.out.nt.lt.2; omega⟩, by
    rw [hco]
    exact RdP.keeps HX.out.2 ⟨by have := hb3.size; omega, fun b hb hlt => ⟨(hb3.block b (by omega)).trans (HB.out.block b hlt), by have := hb3.size; omega, fun hh => by have := HSn.out b hh; omega, by omega⟩⟩⟩
  have HCut := Lib.hid hCut
  have hsb := hCut.sb
  rw [← hco]
  have HL := Lib.hid hb3
  clear hco hO1 hl2 hCut
  go_wp2_with fail
  refine And.intro ⟨⟨w3, HL.out⟩, rfl⟩ ?_
  replace Hc := Lib.hid (Hc.out.below hb3)
  replace Ht := Lib.hid (Ht.out.below hb3)
  replace HT := Lib.hid (HT.out.below hb3)
  replace HB := Lib.hid (Below.then HB.out hb3 HB.out.size)
  clear hb3
  refine wpAny_one 8 (by kernel_rfl) ?_
  simp only [List.getElem?_cons_zero, List.getElem?_cons_succ, Option.toList]
  go_wp2_with fail
  refine (two_cert' kind f skip a B1 A2 d1 c2 (fun b => b = h) g bm h [] w3 HT.out hf hsk Ha.out (by simp) (by omega)).mono ?_
  rintro e w4 ⟨x, K', E, dE, G, dG, S', hcs, rfl, hT', hS', hF', hx'⟩
  have hcf := certS_cf (skip := skip) (kind := kind) hkind hf hcl.2 HCut.out (K := []) (by simp)
  rw [hcs] at hcf
  dsimp only at hcf
  have HFx := Lib.hid hcf.1
  have hkl : K'.length ≤ 12 := by have := hcf.2.2; simp at this; omega
  have hw3 := HB.out.size
  have hzc := Hc.out.lt
  clear hcf hcs
  replace Hc := Lib.hid (Hc.out.seal hF' hS')
  replace Ht := Lib.hid (Ht.out.seal hF' hS')
  replace Ha := Lib.hid (Ck.seal Ha.out hF' hS')
  have hzb := HB.out.size
  replace HB := Lib.hid (HB.out.trans ((hF').to_below (B := w.heap.size) hzb (fun k hk hh => by rcases hh with hh | hh; (have := HSn.out k hh; omega); omega)))
  replace HSn : Hid (∀ b, (S') b → w.heap.size ≤ b) := Lib.hid fun b hb => by rcases hS' b hb with h1 | h1; exact HSn.out b h1; omega
  clear hzb
  replace HT := Lib.hid hT'
  clear hT' hS' hF'
  have HX0 : Hid (CertOk w4 (fun b => Off w4 S' bm b ∧ b ≠ w.heap.size) ⟨x, .slice E x.b.length dE, .slice G x.o.length dG⟩) := Lib.hid (CertOk.keeps hx' (Keeps.mono fun b _ hb => ⟨hb.2, by have := hb.1; omega⟩))
  clear hx'
  go_wp2_with fail
  refine wpAny_one 9 (by kernel_rfl) ?_
  simp only [List.getElem?_cons_zero, List.getElem?_cons_succ, Option.toList]
  have Hth := Lib.hid (row_there Hc.out.row)
  obtain ⟨s1, s2⟩ := row_store Hc.out.row [.int .i64 x.v, .int .i64 x.i, .int .i64 x.q, .slice E x.b.length dE, .slice G x.o.length dG] rfl
  have hfs : Fp (fun b => b = w.heap.size) w4 (w4.setCells w.heap.size 0 [.int .i64 x.v, .int .i64 x.i, .int .i64 x.q, .slice E x.b.length dE, .slice G x.o.length dG]) := (Fp.refl (fun b => b = w.heap.size) w4).setCells (Or.inl rfl) _
  have HT1 := Lib.hid s1
  have Hfs := Lib.hid hfs
  clear s1 s2 hfs
  go_wp2_with (first | (refine wpList_store_mid rfl 25 (.tmp 7) (.tmp 42) rfl w.heap.size 0 #[.int .i64 x.v, .int .i64 x.i, .int .i64 x.q, .slice E x.b.length dE, .slice G x.o.length dG] rfl rfl Hth.out sizeC (by simp [Value.oneCell']) ?_))
  refine wpAny_end (by kernel_rfl) ?_
  go_upto_region 7 with fail
  have t1 := HT1.out
  have hfs := Hfs.out
  obtain ⟨w5, hw5⟩ : ∃ w5, w4.setCells w.heap.size 0 [.int .i64 x.v, .int .i64 x.i, .int .i64 x.q, .slice E x.b.length dE, .slice G x.o.length dG] = w5 := ⟨_, rfl⟩
  rw [hw5] at t1 hfs ⊢
  have hsz := HB.out.size
  have hoc := Hc.out.off
  replace Ht := Lib.hid (Ht.out.other hfs (by omega))
  replace Hc : Hid (Rw w5 S' bm w.heap.size (.cells #[.int .i64 x.v, .int .i64 x.i, .int .i64 x.q, .slice E x.b.length dE, .slice G x.o.length dG] 25 (0, 0))) := Lib.hid ⟨t1, hoc.seal hfs fun b hb => .inl hb⟩
  have Hx : Hid (Ck w5 S' bm ⟨x, .slice E x.b.length dE, .slice G x.o.length dG⟩) := Lib.hid (CertOk.keeps HX0.out ⟨hfs.size, fun b hb hlt => ⟨hfs.block b hlt hb.2, hb.1.seal hfs fun b hb => .inl hb⟩⟩)
  replace HT := Lib.hid (HT.out.fp hfs (by omega) (fun he => hoc.2.2 he.symm) (fun b hb he => hoc.2.1 (he ▸ hb)))
  replace HB := Lib.hid (HB.out.trans (hfs.to_below (B := w.heap.size) hsz (fun k _ hk => by omega)))
  clear hw5 t1 hfs hsz hoc HX0 Hth HT1 Hfs Ha
  have hK'l : K'.length < 1099511627776 := by omega
  have hxb := HFx.out.sb
  have hxl := HFx.out.len hf
  have C1 : Hid (certifiedB K' kind x f cl = true) := Lib.hid (HFx.out.certified hcl.2 hK'l)
  have C2 : Hid (votedB K' kind x f = true) := Lib.hid HFx.out.voted
  have C3 : Hid (votedB K' (9 - kind) x f = false) := Lib.hid (HFx.out.other hf (by omega))
  have Wx := Lib.hid (HFx.out.wf hf.2 hcl.2 hK'l)
  have x9 : x.o.length ≤ 9 := by omega
  have x3 : 3 ≤ x.o.length := by omega
  clear hxl
  have f_c0 : w5.cell? ⟨w.heap.size, 0, none⟩ = some (.int .i64 x.v) := Hc.out.cell rfl
  have f_c1 : w5.cell? ⟨w.heap.size, 1, none⟩ = some (.int .i64 x.i) := Hc.out.cell rfl
  have f_c2 : w5.cell? ⟨w.heap.size, 2, none⟩ = some (.int .i64 x.q) := Hc.out.cell rfl
  have f_c3 : w5.cell? ⟨w.heap.size, 3, none⟩ = some (.slice E x.b.length dE) := Hc.out.cell rfl
  have f_c4 : w5.cell? ⟨w.heap.size, 4, none⟩ = some (.slice G x.o.length dG) := Hc.out.cell rfl
  have f_t0 : w5.cell? ⟨w1.heap.size, 0, none⟩ = some (.pointer (some ⟨g, 0, none⟩)) := Ht.out.cell rfl
  go_wp2_with fail
  clear f_c0 f_c1 f_c2 f_c3 f_c4 f_t0
  refine (certified_m kind x (.slice E x.b.length dE) (.slice G x.o.length dG) f cl g bm K' w5 _ Hx.out Wx.out HT.out.nt (by omega)).mono ?_
  rw [C1.out]
  rintro e w6 ⟨rfl, hbq⟩
  replace Hc := Lib.hid (Hc.out.below hbq)
  replace Ht := Lib.hid (Ht.out.below hbq)
  replace Hx := Lib.hid (Ck.below Hx.out hbq)
  replace HT := Lib.hid (HT.out.below hbq)
  replace HB := Lib.hid (Below.then HB.out hbq HB.out.size)
  clear hbq
  have f_c0 : w6.cell? ⟨w.heap.size, 0, none⟩ = some (.int .i64 x.v) := Hc.out.cell rfl
  have f_c1 : w6.cell? ⟨w.heap.size, 1, none⟩ = some (.int .i64 x.i) := Hc.out.cell rfl
  have f_c2 : w6.cell? ⟨w.heap.size, 2, none⟩ = some (.int .i64 x.q) := Hc.out.cell rfl
  have f_c3 : w6.cell? ⟨w.heap.size, 3, none⟩ = some (.slice E x.b.length dE) := Hc.out.cell rfl
  have f_c4 : w6.cell? ⟨w.heap.size, 4, none⟩ = some (.slice G x.o.length dG) := Hc.out.cell rfl
  have f_t0 : w6.cell? ⟨w1.heap.size, 0, none⟩ = some (.pointer (some ⟨g, 0, none⟩)) := Ht.out.cell rfl
  go_wp2_with fail
  clear f_c0 f_c1 f_c2 f_c3 f_c4 f_t0
  refine (voted_m kind x (.slice E x.b.length dE) (.slice G x.o.length dG) f g bm K' w6 _ Hx.out Wx.out.2.2.2.2 HT.out.nt (by omega)).mono ?_
  rw [C2.out]
  rintro e w7 ⟨rfl, hbq⟩
  replace Hc := Lib.hid (Hc.out.below hbq)
  replace Ht := Lib.hid (Ht.out.below hbq)
  replace Hx := Lib.hid (Ck.below Hx.out hbq)
  replace HT := Lib.hid (HT.out.below hbq)
  replace HB := Lib.hid (Below.then HB.out hbq HB.out.size)
  clear hbq
  have f_c0 : w7.cell? ⟨w.heap.size, 0, none⟩ = some (.int .i64 x.v) := Hc.out.cell rfl
  have f_c1 : w7.cell? ⟨w.heap.size, 1, none⟩ = some (.int .i64 x.i) := Hc.out.cell rfl
  have f_c2 : w7.cell? ⟨w.heap.size, 2, none⟩ = some (.int .i64 x.q) := Hc.out.cell rfl
  have f_c3 : w7.cell? ⟨w.heap.size, 3, none⟩ = some (.slice E x.b.length dE) := Hc.out.cell rfl
  have f_c4 : w7.cell? ⟨w.heap.size, 4, none⟩ = some (.slice G x.o.length dG) := Hc.out.cell rfl
  have f_t0 : w7.cell? ⟨w1.heap.size, 0, none⟩ = some (.pointer (some ⟨g, 0, none⟩)) := Ht.out.cell rfl
  go_wp2_with fail
  clear f_c0 f_c1 f_c2 f_c3 f_c4 f_t0
  refine (voted_m (9 - kind) x (.slice E x.b.length dE) (.slice G x.o.length dG) f g bm K' w7 _ Hx.out Wx.out.2.2.2.2 HT.out.nt (by omega)).mono ?_
  rw [C3.out]
  rintro e w8 ⟨rfl, hbq⟩
  replace Hc := Lib.hid (Hc.out.below hbq)
  replace Ht := Lib.hid (Ht.out.below hbq)
  replace Hx := Lib.hid (Ck.below Hx.out hbq)
  replace HT := Lib.hid (HT.out.below hbq)
  replace HB := Lib.hid (Below.then HB.out hbq HB.out.size)
  clear hbq
  have f_c0 : w8.cell? ⟨w.heap.size, 0, none⟩ = some (.int .i64 x.v) := Hc.out.cell rfl
  have f_c1 : w8.cell? ⟨w.heap.size, 1, none⟩ = some (.int .i64 x.i) := Hc.out.cell rfl
  have f_c2 : w8.cell? ⟨w.heap.size, 2, none⟩ = some (.int .i64 x.q) := Hc.out.cell rfl
  have f_c3 : w8.cell? ⟨w.heap.size, 3, none⟩ = some (.slice E x.b.length dE) := Hc.out.cell rfl
  have f_c4 : w8.cell? ⟨w.heap.size, 4, none⟩ = some (.slice G x.o.length dG) := Hc.out.cell rfl
  go_wp2_with fail
  clear f_c0 f_c1 f_c2 f_c3 f_c4
  have hba := alloc_below w8 (.cells #[.int .i64 x.v, .int .i64 x.i, .int .i64 x.q, .slice E x.b.length dE, .slice G x.o.length dG] 25)
  have hra : Rw (w8.alloc (.cells #[.int .i64 x.v, .int .i64 x.i, .int .i64 x.q, .slice E x.b.length dE, .slice G x.o.length dG] 25)) S' bm w8.heap.size (.cells #[.int .i64 x.v, .int .i64 x.i, .int .i64 x.q, .slice E x.b.length dE, .slice G x.o.length dG] 25 (0, 0)) := Rw.new (.cells #[.int .i64 x.v, .int .i64 x.i, .int .i64 x.q, .slice E x.b.length dE, .slice G x.o.length dG] 25) HT.out.lt HT.out.nt.lt.2
  have hsa : (w8.alloc (.cells #[.int .i64 x.v, .int .i64 x.i, .int .i64 x.q, .slice E x.b.length dE, .slice G x.o.length dG] 25)).heap.size = w8.heap.size + 1 := by simp
  obtain ⟨w9, hWa⟩ : ∃ W_, w8.alloc (.cells #[.int .i64 x.v, .int .i64 x.i, .int .i64 x.q, .slice E x.b.length dE, .slice G x.o.length dG] 25) = W_ := ⟨_, rfl⟩
  rw [hWa] at hba hra hsa ⊢
  have Hs_w9 := Lib.hid hsa
  have Hb_w9 := Lib.hid hba
  have Hl := Lib.hid hra
  clear hWa hra hsa
  replace Hc := Lib.hid (Hc.out.below hba)
  replace Ht := Lib.hid (Ht.out.below hba)
  replace Hx := Lib.hid (Ck.below Hx.out hba)
  replace HT := Lib.hid (HT.out.below hba)
  replace HB := Lib.hid (Below.then HB.out hba HB.out.size)
  clear hba
  refine (copy_certso _ [x] w9 _ (rdC_one (x := ⟨x, .slice E x.b.length dE, .slice G x.o.length dG⟩) Hl.out Hx.out) (by simp) (fun y hy => by rw [List.mem_singleton.1 hy]; omega)).mono ?_
  rintro e w10 ⟨Q, cq, xs, rfl, hxs, hown, hin, hbq⟩
  obtain ⟨y, rfl⟩ : ∃ y, xs = [y] := by
    cases xs with
    | nil => cases hxs
    | cons y t => cases t with
      | nil => exact ⟨y, rfl⟩
      | cons z t => simp at hxs
  obtain ⟨yc, yb, yo⟩ := y
  have hyc : yc = x := by simpa using hxs
  subst hyc
  obtain ⟨ob, oo⟩ := hin _ List.mem_cons_self
  dsimp only at ob oo
  obtain ⟨Yb, db, rfl, _, _, _⟩ := own_slice ob
  obtain ⟨Yo, dO, rfl, _, _, _⟩ := own_slice oo
  have HOb := Lib.hid ob
  have HOo := Lib.hid oo
  obtain ⟨_, _, e9, _, _, hli⟩ := own_slice hown
  injection e9 with e9 _ e9c
  obtain ⟨qb, e10, hq1, hq2, hq3⟩ := hli (by simp)
  rw [← e9] at e10
  subst e10
  have hl9 := Hl.out.lt
  have Hg9 : Hid (g < w9.heap.size) := Lib.hid HT.out.nt.lt.1
  have Ht9 : Hid (w1.heap.size < w9.heap.size) := Lib.hid Ht.out.lt
  have Hw9 : Hid (w.heap.size ≤ w9.heap.size) := Lib.hid HB.out.size
  have HSo : Hid (∀ b, S' b → b < w9.heap.size) := Lib.hid HT.out.lt
  have HSb : Hid (bm < w9.heap.size) := Lib.hid HT.out.nt.lt.2
  clear e9 e9c hli hown hin hxs
  have q0 : w10.cell? ⟨qb, 0, none⟩ = some (.int .i64 yc.v) := by have := hq3 0 _ rfl; simpa [cv, iv] using this
  have q1 : w10.cell? ⟨qb, 1, none⟩ = some (.int .i64 yc.i) := by have := hq3 1 _ rfl; simpa [cv, iv] using this
  have q2 : w10.cell? ⟨qb, 2, none⟩ = some (.int .i64 yc.q) := by have := hq3 2 _ rfl; simpa [cv, iv] using this
  have q3 : w10.cell? ⟨qb, 3, none⟩ = some (.slice Yb yc.b.length db) := by have := hq3 3 _ rfl; simpa [cv, iv] using this
  have q4 : w10.cell? ⟨qb, 4, none⟩ = some (.slice Yo yc.o.length dO) := by have := hq3 4 _ rfl; simpa [cv, iv] using this
  clear hq3 ob oo
  replace Hc := Lib.hid (Hc.out.below hbq)
  replace Ht := Lib.hid (Ht.out.below hbq)
  replace Hl := Lib.hid (Hl.out.below hbq)
  replace Hx := Lib.hid (Ck.below Hx.out hbq)
  replace HT := Lib.hid (HT.out.below hbq)
  replace HB := Lib.hid (Below.then HB.out hbq HB.out.size)
  clear hbq
  have HD10 : Hid (CertOk w10 (fun b => w9.heap.size ≤ b ∧ b < w10.heap.size) ⟨yc, .slice Yb yc.b.length db, .slice Yo yc.o.length dO⟩) := Lib.hid ⟨(RdP.of_own HOb.out).mono fun b hb hPb => ⟨hPb.2, hb⟩, (RdP.of_own HOo.out).mono fun b hb hPb => ⟨hPb.2, hb⟩⟩
  have HbY : Hid (∀ b, (Value.slice Yb yc.b.length db).ownBlock = some b → b < w10.heap.size) := Lib.hid fun b hb => (HOb.out.lt b hb).2
  have HoY : Hid (∀ b, (Value.slice Yo yc.o.length dO).ownBlock = some b → b < w10.heap.size) := Lib.hid fun b hb => (HOo.out.lt b hb).2
  go_upto_region 10 with fail
  clear q0 q1 q2 q3 q4
  have HT10 : Hid (g < w10.heap.size) := Lib.hid HT.out.nt.lt.1
  have Ht10 : Hid (w1.heap.size < w10.heap.size) := Lib.hid Ht.out.lt
  have Hw10 : Hid (w.heap.size ≤ w10.heap.size) := Lib.hid HB.out.size
  have hba := alloc_below w10 (.cells #[.int .i64 yc.v, .int .i64 yc.i, .int .i64 yc.q, .slice Yb yc.b.length db, .slice Yo yc.o.length dO] 25)
  have hra : Rw (w10.alloc (.cells #[.int .i64 yc.v, .int .i64 yc.i, .int .i64 yc.q, .slice Yb yc.b.length db, .slice Yo yc.o.length dO] 25)) S' bm w10.heap.size (.cells #[.int .i64 yc.v, .int .i64 yc.i, .int .i64 yc.q, .slice Yb yc.b.length db, .slice Yo yc.o.length dO] 25 (0, 0)) := Rw.new (.cells #[.int .i64 yc.v, .int .i64 yc.i, .int .i64 yc.q, .slice Yb yc.b.length db, .slice Yo yc.o.length dO] 25) HT.out.lt HT.out.nt.lt.2
  have hsa : (w10.alloc (.cells #[.int .i64 yc.v, .int .i64 yc.i, .int .i64 yc.q, .slice Yb yc.b.length db, .slice Yo yc.o.length dO] 25)).heap.size = w10.heap.size + 1 := by simp
  obtain ⟨w11, hWa⟩ : ∃ W_, w10.alloc (.cells #[.int .i64 yc.v, .int .i64 yc.i, .int .i64 yc.q, .slice Yb yc.b.length db, .slice Yo yc.o.length dO] 25) = W_ := ⟨_, rfl⟩
  rw [hWa] at hba hra hsa ⊢
  have Hs_w11 := Lib.hid hsa
  have Hb_w11 := Lib.hid hba
  have Hd := Lib.hid hra
  clear hWa hra hsa
  replace Hc := Lib.hid (Hc.out.below hba)
  replace Ht := Lib.hid (Ht.out.below hba)
  replace Hl := Lib.hid (Hl.out.below hba)
  replace Hx := Lib.hid (Ck.below Hx.out hba)
  replace HT := Lib.hid (HT.out.below hba)
  replace HB := Lib.hid (Below.then HB.out hba HB.out.size)
  clear hba
  replace HOb := Lib.hid (own_below HOb.out Hb_w11.out)
  replace HOo := Lib.hid (own_below HOo.out Hb_w11.out)
  have hz911 := Hs_w11.out
  clear hz911
  have f_d4 : w11.cell? ⟨w10.heap.size, 4, none⟩ = some (.slice Yo yc.o.length dO) := Hd.out.cell rfl
  go_upto_block 0 with (go_at_call 8; refine (within_i _ _ _ (by first | assumption | exact ⟨by omega, by omega⟩) (by exact ⟨by omega, by omega⟩)).mono ?_; rintro e w' ⟨rfl, rfl⟩)
  clear f_d4
  obtain ⟨i, hi, hiq⟩ : ∃ i : Nat, Psp.within at0 (yc.o.length : Int) = (i : Int) ∧ i < yc.o.length := by
    have h1 := Psp.within_lo at0 (yc.o.length : Int)
    have h2 := Psp.within_hi at0 (yc.o.length : Int) (by omega)
    exact ⟨(Psp.within at0 (yc.o.length : Int)).toNat, by omega, by omega⟩
  obtain ⟨t, ht⟩ : ∃ t, Psp.within turn 8 = t := ⟨_, rfl⟩
  have tw0 : 0 ≤ t := by rw [← ht]; exact Psp.within_lo _ _
  have tw1 : t < 8 := by rw [← ht]; exact Psp.within_hi _ _ (by omega)
  rw [hi, ht]
  clear hi ht
  go_cut [] from 81 to 157 (fun wx => ∃ (d : Psp.Cert) (Vb Vo : Value), Hid (votedB K' kind d f = false) ∧ Hid (wfCert d) ∧ d.b.length ≤ 1000 ∧ Hid (Rw wx S' bm w10.heap.size (.cells #[.int .i64 d.v, .int .i64 d.i, .int .i64 d.q, Vb, Vo] 25 (0, 0))) ∧ Hid (Ck wx S' bm ⟨d, Vb, Vo⟩) ∧ Hid (Tw wx S' g bm h K') ∧ Hid (Rw wx S' bm w1.heap.size (.cells #[.pointer (some ⟨g, 0, none⟩), .pointer (some ⟨h, 0, none⟩)] 30 (0, 0))) ∧ Hid (Below w.heap.size w wx))
  case first =>
    have hPv := HFx.out.pl
    have hwd := Wx.out
    have hofd : ∀ b, w9.heap.size ≤ b ∧ b < w10.heap.size → Off w11 S' bm b ∧ b ≠ w10.heap.size := fun b hb => ⟨⟨by have := Hs_w11.out; omega, fun hh => by have := HSo.out b hh; omega, by have := HSb.out; omega⟩, by omega⟩
    have HDk : Hid (CertOk w11 (fun b => Off w11 S' bm b ∧ b ≠ w10.heap.size) ⟨yc, .slice Yb yc.b.length db, .slice Yo yc.o.length dO⟩) := Lib.hid (CertOk.keeps HD10.out ⟨by have := Hs_w11.out; omega, fun b hb hlt => ⟨Hb_w11.out.block b hlt, hofd b hb⟩⟩)
    have hDo := Hd.out.off
    have hz_ := HB.out.size
    have hgD : g < w10.heap.size := by have := HT10.out; omega
    have htD : w1.heap.size < w10.heap.size := Ht10.out
    have HWd := Lib.hid hwd
    have hsD := Hd.out.lt
    have ways : t = 0 ∨ t = 1 ∨ t = 2 ∨ t = 3 ∨ t = 4 ∨ t = 5 ∨ t = 6 ∨ t = 7 := by omega
    clear tw0 tw1 hwd
    rcases ways with rfl | rfl | rfl | rfl | rfl | rfl | rfl | rfl
    · have f_d0 : w11.cell? ⟨w10.heap.size, 0, none⟩ = some (.int .i64 yc.v) := Hd.out.cell rfl
      have fz_d0 : w11.frozen? ⟨w10.heap.size, 0, none⟩ = false := Hd.out.ice 0
      go_wp2_with fail
      clear f_d0 fz_d0
      go_meet
      have hfs : Fp (fun b => b = w10.heap.size) w11 (w11.setCell ⟨w10.heap.size, 0, none⟩ (.int .i64 ((yc.v + 1) % 13))) := (Fp.refl (fun b => b = w10.heap.size) w11).setCell (p := ⟨w10.heap.size, 0, none⟩) (Or.inl (show w10.heap.size = w10.heap.size from rfl)) _
      have hrw : (w11.setCell ⟨w10.heap.size, 0, none⟩ (.int .i64 ((yc.v + 1) % 13))).heap[w10.heap.size]? = some (.cells #[.int .i64 ((yc.v + 1) % 13), .int .i64 yc.i, .int .i64 yc.q, .slice Yb yc.b.length db, .slice Yo yc.o.length dO] 25 (0, 0)) := by rw [heap_setCell_same w11 w10.heap.size 0 _ _ _ Hd.out.row]; rfl
      have hw10 := Hw10.out
      refine ⟨{ yc with v := ((yc.v + 1) % 13) }, _, _, Lib.hid (tn_v HFx.out hf (by omega)), Lib.hid ⟨i64_small (by show 0 ≤ (yc.v + 1) % 13; omega) (by show (yc.v + 1) % 13 < _; omega), HWd.out.2.1, HWd.out.2.2.1, HWd.out.2.2.2⟩, by show yc.b.length ≤ 1000; omega, Lib.hid ⟨hrw, hDo.seal hfs fun b hb => .inl hb⟩, Lib.hid (CertOk.keeps (x := ⟨{ yc with v := ((yc.v + 1) % 13) }, .slice Yb yc.b.length db, .slice Yo yc.o.length dO⟩) HDk.out ⟨hfs.size, fun b hb hlt => ⟨hfs.block b hlt hb.2, hb.1.seal hfs fun b hb => .inl hb⟩⟩), Lib.hid (HT.out.fp hfs (by omega) (fun he => hDo.2.2 he.symm) (fun b hb he => hDo.2.1 (he ▸ hb))), Lib.hid (Ht.out.other hfs (by omega)), Lib.hid (HB.out.trans (hfs.to_below (B := w.heap.size) hz_ (fun k _ hk => by omega)))⟩
    · have f_d1 : w11.cell? ⟨w10.heap.size, 1, none⟩ = some (.int .i64 yc.i) := Hd.out.cell rfl
      have fz_d1 : w11.frozen? ⟨w10.heap.size, 1, none⟩ = false := Hd.out.ice 1
      go_wp2_with fail
      clear f_d1 fz_d1
      go_meet
      have hfs : Fp (fun b => b = w10.heap.size) w11 (w11.setCell ⟨w10.heap.size, 1, none⟩ (.int .i64 ((yc.i + 1) % (f + 1)))) := (Fp.refl (fun b => b = w10.heap.size) w11).setCell (p := ⟨w10.heap.size, 1, none⟩) (Or.inl (show w10.heap.size = w10.heap.size from rfl)) _
      have hrw : (w11.setCell ⟨w10.heap.size, 1, none⟩ (.int .i64 ((yc.i + 1) % (f + 1)))).heap[w10.heap.size]? = some (.cells #[.int .i64 yc.v, .int .i64 ((yc.i + 1) % (f + 1)), .int .i64 yc.q, .slice Yb yc.b.length db, .slice Yo yc.o.length dO] 25 (0, 0)) := by rw [heap_setCell_same w11 w10.heap.size 1 _ _ _ Hd.out.row]; rfl
      have hw10 := Hw10.out
      refine ⟨{ yc with i := ((yc.i + 1) % (f + 1)) }, _, _, Lib.hid (tn_i HFx.out hf (by rcases (show f = 1 ∨ f = 2 ∨ f = 3 ∨ f = 4 by omega) with rfl | rfl | rfl | rfl <;> omega)), Lib.hid ⟨HWd.out.1, i64_small (Int.emod_nonneg _ (by omega)) (by have h1 := Int.emod_lt_of_pos (yc.i + 1) (show 0 < f + 1 by omega); show (yc.i + 1) % (f + 1) < _; omega), HWd.out.2.2.1, HWd.out.2.2.2⟩, by show yc.b.length ≤ 1000; omega, Lib.hid ⟨hrw, hDo.seal hfs fun b hb => .inl hb⟩, Lib.hid (CertOk.keeps (x := ⟨{ yc with i := ((yc.i + 1) % (f + 1)) }, .slice Yb yc.b.length db, .slice Yo yc.o.length dO⟩) HDk.out ⟨hfs.size, fun b hb hlt => ⟨hfs.block b hlt hb.2, hb.1.seal hfs fun b hb => .inl hb⟩⟩), Lib.hid (HT.out.fp hfs (by omega) (fun he => hDo.2.2 he.symm) (fun b hb he => hDo.2.1 (he ▸ hb))), Lib.hid (Ht.out.other hfs (by omega)), Lib.hid (HB.out.trans (hfs.to_below (B := w.heap.size) hz_ (fun k _ hk => by omega)))⟩
    · have f_d2 : w11.cell? ⟨w10.heap.size, 2, none⟩ = some (.int .i64 yc.q) := Hd.out.cell rfl
      have fz_d2 : w11.frozen? ⟨w10.heap.size, 2, none⟩ = false := Hd.out.ice 2
      go_wp2_with fail
      clear f_d2 fz_d2
      go_meet
      have hfs : Fp (fun b => b = w10.heap.size) w11 (w11.setCell ⟨w10.heap.size, 2, none⟩ (.int .i64 (1 + yc.q % 16))) := (Fp.refl (fun b => b = w10.heap.size) w11).setCell (p := ⟨w10.heap.size, 2, none⟩) (Or.inl (show w10.heap.size = w10.heap.size from rfl)) _
      have hrw : (w11.setCell ⟨w10.heap.size, 2, none⟩ (.int .i64 (1 + yc.q % 16))).heap[w10.heap.size]? = some (.cells #[.int .i64 yc.v, .int .i64 yc.i, .int .i64 (1 + yc.q % 16), .slice Yb yc.b.length db, .slice Yo yc.o.length dO] 25 (0, 0)) := by rw [heap_setCell_same w11 w10.heap.size 2 _ _ _ Hd.out.row]; rfl
      have hw10 := Hw10.out
      refine ⟨{ yc with q := (1 + yc.q % 16) }, _, _, Lib.hid (tn_q HFx.out hf (by omega)), Lib.hid ⟨HWd.out.1, HWd.out.2.1, i64_small (by show 0 ≤ 1 + yc.q % 16; omega) (by show 1 + yc.q % 16 < _; omega), HWd.out.2.2.2⟩, by show yc.b.length ≤ 1000; omega, Lib.hid ⟨hrw, hDo.seal hfs fun b hb => .inl hb⟩, Lib.hid (CertOk.keeps (x := ⟨{ yc with q := (1 + yc.q % 16) }, .slice Yb yc.b.length db, .slice Yo yc.o.length dO⟩) HDk.out ⟨hfs.size, fun b hb hlt => ⟨hfs.block b hlt hb.2, hb.1.seal hfs fun b hb => .inl hb⟩⟩), Lib.hid (HT.out.fp hfs (by omega) (fun he => hDo.2.2 he.symm) (fun b hb he => hDo.2.1 (he ▸ hb))), Lib.hid (Ht.out.other hfs (by omega)), Lib.hid (HB.out.trans (hfs.to_below (B := w.heap.size) hz_ (fun k _ hk => by omega)))⟩
    · have hge : ∃ v, yc.o[i]? = some v := ⟨_, List.getElem?_eq_getElem hiq⟩
      obtain ⟨⟨tn, ts⟩, hge⟩ := hge
      have hvb := HFx.out.vs _ (List.mem_of_getElem? hge)
      have hsb1 := sealed_bd hvb.2
      have hvn := hvb.1
      dsimp only at hsb1 hvn
      have hoow := HOo.out
      rcases HOo.out.2 with ⟨_, h0⟩ | ⟨blk, cap, cur, hv, hB, hcur, hcap1, hcap2, hsz, htk⟩
      · exact absurd h0 (by omega)
      injection hv with hA hqq hc
      subst hA hc
      clear hqq
      obtain ⟨_, A', c', e', _, _, hxc⟩ := RdP.parts (RdP.of_own hoow)
      injection e' with e1 _ e3
      subst e1 e3
      obtain ⟨b1, o1, hA1, _, _, h1⟩ := hxc (by omega)
      injection hA1 with hA1
      injection hA1 with hA1 hA2
      subst hA1 hA2
      have r1 := range_elem (f := vt) (k := 2) (fun _ => rfl) h1 hiq
      have hgv : yc.o[i] = ⟨tn, ts⟩ := by rw [List.getElem?_eq_getElem hiq] at hge; injection hge
      rw [hgv] at r1
      have n0 := r1 0 _ rfl
      have n1 := r1 1 _ rfl
      simp only [Nat.zero_add, Nat.add_zero, iv] at n0 n1
      have fz0 : w11.frozen? ⟨blk, i * 2, none⟩ = false := frozen_of_row _ _ _ _ _ hcur
      have fz1 : w11.frozen? ⟨blk, i * 2 + 1, none⟩ = false := frozen_of_row _ _ _ _ _ hcur
      have hblk : blk < w10.heap.size := HoY.out blk rfl
      have hap := own_apart HOb.out hoow (by decide)
      have Hap := Lib.hid hap
      have Hcur := Lib.hid hcur
      have Htk := Lib.hid htk
      have Hsz := Lib.hid hsz
      have Hge := Lib.hid hge
      have Hvb := Lib.hid hvb
      have ki0 : (0 : Int) ≤ (i : Int) := by omega
      have ki1 : (i : Int) < (yc.o.length : Int) := by omega
      clear hxc h1 r1 hgv hoow hap hcur htk hsz hge hvb
      have f_d4 : w11.cell? ⟨w10.heap.size, 4, none⟩ = some (.slice (some ⟨blk, 0, none⟩) yc.o.length dO) := Hd.out.cell rfl
      go_wp2_with fail
      clear f_d4 n0 n1 fz0 fz1
      go_meet
      have hfs : Fp (fun b => b = blk) w11 (w11.setCell ⟨blk, i * 2 + 1, none⟩ (.int .i64 (ts + 1))) := (Fp.refl (fun b => b = blk) w11).setCell (p := ⟨blk, i * 2 + 1, none⟩) (Or.inl (show blk = blk from rfl)) _
      have hrs := rd_set (k := i * 2 + 1) (u := .int .i64 (ts + 1)) Hcur.out Htk.out hcap1 hcap2 Hsz.out (by omega) (xs' := (yc.o.set i ⟨tn, ts + 1⟩).flatMap vt) (vt_set_s _ _ _ _ Hge.out)
      have hw9 := Hw9.out
      have hg9 := Hg9.out
      have ht9 := Ht9.out
      have hofb := hofd blk ⟨hB, hblk⟩
      have hnb : ∀ b, (Value.slice Yb yc.b.length db).ownBlock = some b → b ≠ blk := fun b hb he => by
        rcases Hap.out with h1 | h1
        · rw [h1] at hb; cases hb
        · exact h1 (by rw [hb, he]; rfl)
      refine ⟨{ yc with o := yc.o.set i ⟨tn, ts + 1⟩ }, _, _, Lib.hid (tn_seal HFx.out Hge.out), Lib.hid ⟨HWd.out.1, HWd.out.2.1, HWd.out.2.2.1, HWd.out.2.2.2.1, fun v hv => ?_⟩, by show yc.b.length ≤ 1000; omega, Lib.hid (Hd.out.other hfs (by omega)), Lib.hid ⟨?_, ?_⟩, Lib.hid (HT.out.fp hfs (by omega) (fun he => hofb.1.2.2 he.symm) (fun b hb he => hofb.1.2.1 (he ▸ hb))), Lib.hid (Ht.out.other hfs (by omega)), Lib.hid (HB.out.trans (hfs.to_below (B := w.heap.size) hz_ (fun k _ hk => by omega)))⟩
      · rcases List.mem_or_eq_of_mem_set hv with h | h
        · exact HWd.out.2.2.2.2 v h
        · subst h; exact ⟨i64_small (by show 0 ≤ tn; omega) (by show tn < _; omega), i64_small (by show 0 ≤ ts + 1; omega) (by show ts + 1 < _; omega)⟩
      · exact (RdP.of_own (own_keep HOb.out fun b hb => hfs.block b (HOb.out.lt b hb).2 (hnb b hb))).mono fun b hb hPb => (hofd b ⟨hPb.2, HbY.out b hPb.1⟩).1.seal hfs fun b hb => .inl hb
      · show RdP _ _ 2 _ (yc.o.set i ⟨tn, ts + 1⟩).length _
        rw [List.length_set]
        exact hrs.mono fun b hb hPb => by rw [show b = blk from hPb]; exact hofb.1.seal hfs fun b hb => .inl hb
    · have hge : ∃ v, yc.o[i]? = some v := ⟨_, List.getElem?_eq_getElem hiq⟩
      obtain ⟨⟨tn, ts⟩, hge⟩ := hge
      have hvb := HFx.out.vs _ (List.mem_of_getElem? hge)
      have hsb1 := sealed_bd hvb.2
      have hvn := hvb.1
      dsimp only at hsb1 hvn
      have hoow := HOo.out
      rcases HOo.out.2 with ⟨_, h0⟩ | ⟨blk, cap, cur, hv, hB, hcur, hcap1, hcap2, hsz, htk⟩
      · exact absurd h0 (by omega)
      injection hv with hA hqq hc
      subst hA hc
      clear hqq
      obtain ⟨_, A', c', e', _, _, hxc⟩ := RdP.parts (RdP.of_own hoow)
      injection e' with e1 _ e3
      subst e1 e3
      obtain ⟨b1, o1, hA1, _, _, h1⟩ := hxc (by omega)
      injection hA1 with hA1
      injection hA1 with hA1 hA2
      subst hA1 hA2
      have r1 := range_elem (f := vt) (k := 2) (fun _ => rfl) h1 hiq
      have hgv : yc.o[i] = ⟨tn, ts⟩ := by rw [List.getElem?_eq_getElem hiq] at hge; injection hge
      rw [hgv] at r1
      have n0 := r1 0 _ rfl
      have n1 := r1 1 _ rfl
      simp only [Nat.zero_add, Nat.add_zero, iv] at n0 n1
      have fz0 : w11.frozen? ⟨blk, i * 2, none⟩ = false := frozen_of_row _ _ _ _ _ hcur
      have fz1 : w11.frozen? ⟨blk, i * 2 + 1, none⟩ = false := frozen_of_row _ _ _ _ _ hcur
      have hblk : blk < w10.heap.size := HoY.out blk rfl
      have hap := own_apart HOb.out hoow (by decide)
      have Hap := Lib.hid hap
      have Hcur := Lib.hid hcur
      have Htk := Lib.hid htk
      have Hsz := Lib.hid hsz
      have Hge := Lib.hid hge
      have Hvb := Lib.hid hvb
      have ki0 : (0 : Int) ≤ (i : Int) := by omega
      have ki1 : (i : Int) < (yc.o.length : Int) := by omega
      clear hxc h1 r1 hgv hoow hap hcur htk hsz hge hvb
      have f_d4 : w11.cell? ⟨w10.heap.size, 4, none⟩ = some (.slice (some ⟨blk, 0, none⟩) yc.o.length dO) := Hd.out.cell rfl
      have fz_d4 : w11.frozen? ⟨w10.heap.size, 4, none⟩ = false := Hd.out.ice 4
      clear n0 n1 fz0 fz1
      obtain ⟨i0, hi0, hz0, hz1, hz2⟩ := info_parts vot_info
      have hown : w11.drew.ownsRow w9.heap.size 54 2 (.slice (some ⟨blk, 0, none⟩) i dO) i ((yc.o.take i).flatMap vt) := vd_pre (show w11.drew.ownsRow _ _ _ _ _ _ from HOo.out) (by omega)
      have hnews := vd_news (j := i + 1) (show w11.drew.ownsRow _ _ _ _ _ _ from HOo.out) (by omega)
      have hlen : ((yc.o.drop (i + 1)).flatMap vt).length = (yc.o.length - (i + 1)) * 2 := by rw [vd_len, List.length_drop]
      have hsz11 : w9.heap.size ≤ w11.drew.heap.size := by show w9.heap.size ≤ w11.heap.size; omega
      have hicl : i + 1 ≤ dO := by omega
      go_wp2_with fail
      have i2 : (i : Int) ≤ (dO : Int) := by omega
      have i3 : (i : Int) + 1 ≤ (yc.o.length : Int) := by omega
      have i4 : (yc.o.length : Int) ≤ (dO : Int) := by omega
      have i5 : (0 : Int) ≤ (i : Int) + 1 := by omega
      have i6 : (i : Int) + 1 ≤ (dO : Int) := by omega
      have i7 : (dO : Int) ≤ 9223372036854775807 := by unfold maxLen at hcap2; omega
      have i8 : i ≤ dO := by omega
      have hwi : IntKind.i64.wrap ((i : Int) + 1) = (i : Int) + 1 := IntWalk.i64_in _ (by omega)
      have hti : ((i : Int) + 1).toNat = i + 1 := by omega
      have i9 : (yc.o.length : Int) ≤ 9 := by omega
      have hdd : Below w11.heap.size w11 w11.drew := (Below.refl _ _).drew
      have HdD := Lib.hid (Hd.out.below hdd)
      have hw9 := Hw9.out
      have hg9 := Hg9.out
      have ht9 := Ht9.out
      have hofb := hofd blk ⟨hB, hblk⟩
      have hnb : ∀ b, (Value.slice Yb yc.b.length db).ownBlock = some b → b ≠ blk := fun b hb he => by
        rcases Hap.out with h1 | h1
        · rw [h1] at hb; cases hb
        · exact h1 (by rw [hb, he]; rfl)
      have HZ : Hid (∀ (w6 : World) (g6 nn cap6 : Nat), Fp (fun b => b = blk) w11 w6 → (g6 = blk ∨ g6 = w11.heap.size) → w6.ownsRow w9.heap.size 54 2 (.slice (some ⟨g6, 0, none⟩) nn cap6) nn ((yc.o.take i ++ yc.o.drop (i + 1)).flatMap vt) → nn = yc.o.length - 1 →
          ∃ (d : Psp.Cert) (Vb Vo : Value), Hid (votedB K' kind d f = false) ∧ Hid (wfCert d) ∧ d.b.length ≤ 1000 ∧ Hid (Rw (w6.setCell ⟨w10.heap.size, 4, none⟩ (.slice (some ⟨g6, 0, none⟩) nn cap6)) S' bm w10.heap.size (.cells #[.int .i64 d.v, .int .i64 d.i, .int .i64 d.q, Vb, Vo] 25 (0, 0))) ∧ Hid (Ck (w6.setCell ⟨w10.heap.size, 4, none⟩ (.slice (some ⟨g6, 0, none⟩) nn cap6)) S' bm ⟨d, Vb, Vo⟩) ∧ Hid (Tw (w6.setCell ⟨w10.heap.size, 4, none⟩ (.slice (some ⟨g6, 0, none⟩) nn cap6)) S' g bm h K') ∧ Hid (Rw (w6.setCell ⟨w10.heap.size, 4, none⟩ (.slice (some ⟨g6, 0, none⟩) nn cap6)) S' bm w1.heap.size (.cells #[.pointer (some ⟨g, 0, none⟩), .pointer (some ⟨h, 0, none⟩)] 30 (0, 0))) ∧ Hid (Below w.heap.size w (w6.setCell ⟨w10.heap.size, 4, none⟩ (.slice (some ⟨g6, 0, none⟩) nn cap6)))) := Lib.hid fun w6 g6 nn cap6 hF hg6 hown6 hnn => by
        have hdA := Hd.out.other hF (by omega)
        have hsA := hF.size
        have hfs : Fp (fun b => b = w10.heap.size) w6 (w6.setCell ⟨w10.heap.size, 4, none⟩ (.slice (some ⟨g6, 0, none⟩) nn cap6)) := (Fp.refl (fun b => b = w10.heap.size) w6).setCell (p := ⟨w10.heap.size, 4, none⟩) (Or.inl (show w10.heap.size = w10.heap.size from rfl)) _
        have hrw : (w6.setCell ⟨w10.heap.size, 4, none⟩ (.slice (some ⟨g6, 0, none⟩) nn cap6)).heap[w10.heap.size]? = some (.cells #[.int .i64 yc.v, .int .i64 yc.i, .int .i64 yc.q, .slice Yb yc.b.length db, .slice (some ⟨g6, 0, none⟩) nn cap6] 25 (0, 0)) := by rw [heap_setCell_same w6 w10.heap.size 4 _ _ _ hdA.row]; rfl
        have hll : (yc.o.take i ++ yc.o.drop (i + 1)).length = nn := by rw [List.length_append, List.length_take, List.length_drop]; omega
        refine ⟨{ yc with o := yc.o.take i ++ yc.o.drop (i + 1) }, _, _, Lib.hid (tn_rise HFx.out hf (by rw [hll]; omega)), Lib.hid ⟨HWd.out.1, HWd.out.2.1, HWd.out.2.2.1, HWd.out.2.2.2.1, fun v hv => ?_⟩, by show yc.b.length ≤ 1000; omega, Lib.hid ⟨hrw, hdA.off.seal hfs fun b hb => .inl hb⟩, Lib.hid ⟨?_, ?_⟩, Lib.hid ((HT.out.fp hF (by omega) (fun he => hofb.1.2.2 he.symm) (fun b hb he => hofb.1.2.1 (he ▸ hb))).fp hfs (by omega) (fun he => hDo.2.2 he.symm) (fun b hb he => hDo.2.1 (he ▸ hb))), Lib.hid ((Ht.out.other hF (by omega)).other hfs (by omega)), Lib.hid ((HB.out.trans (hF.to_below (B := w.heap.size) hz_ (fun k _ hk => by omega))).trans (hfs.to_below (B := w.heap.size) (by omega) (fun k _ hk => by omega)))⟩
        · rcases List.mem_append.1 hv with h | h
          · exact HWd.out.2.2.2.2 v (List.mem_of_mem_take h)
          · exact HWd.out.2.2.2.2 v (List.mem_of_mem_drop h)
        · exact (RdP.of_own (own_keep (own_keep HOb.out fun b hb => hF.block b (HOb.out.lt b hb).2 (hnb b hb)) fun b hb => hfs.block b (by have := (HOb.out.lt b hb).2; omega) (by have := HbY.out b hb; omega))).mono fun b hb hPb => ((hofd b ⟨hPb.2, HbY.out b hPb.1⟩).1.seal hF fun b hb => .inl hb).seal hfs fun b hb => .inl hb
        · show RdP _ _ 2 _ (yc.o.take i ++ yc.o.drop (i + 1)).length _
          rw [hll]
          exact (RdP.of_own (own_keep hown6 fun b hb => hfs.block b (hown6.lt b hb).2 (by
            have hb' : g6 = b := by injection hb
            have := Hs_w11.out
            have := Hd.out.lt
            show ¬ (b = w10.heap.size)
            rcases hg6 with h2 | h2
            · rw [← hb', h2]; omega
            · rw [← hb', h2]; omega))).mono fun b hb hPb => by
              have h3 := hPb.1
              injection h3 with h3
              rcases hg6 with h2 | h2
              · have h4 : b = blk := h3.symm.trans h2
                rw [h4]; exact (hofb.1.seal hF fun b hb => .inl hb).seal hfs fun b hb => .inl hb
              · exact ⟨hb, fun hh => by have := HSo.out b hh; have := Hs_w11.out; omega, by have := HSb.out; have := Hs_w11.out; omega⟩
      by_cases hil : i + 1 < yc.o.length
      · have hne : ¬ dO = i + 1 := by omega
        have hne2 : ¬ dO = i := by omega
        go_region_law (first
          | (refine step_append_lies _ (by rfl) _ _ _ (by rfl) w9.heap.size 54 i0 _ 2 16 Tryz.underlying23 hi0 hz0 hz1 hz2 rfl (by omega) (.slice (some ⟨blk, 0, none⟩) i dO) i ((yc.o.take i).flatMap vt) (by rfl) hown ⟨blk, (i + 1) * 2, none⟩ (yc.o.length - (i + 1)) (dO - (i + 1)) ((yc.o.drop (i + 1)).flatMap vt) (by rfl) hlen hnews (votes_one _) (by omega) (by unfold maxLen; omega) (by omega) hsz11 w11.heap.size rfl ?_; intro g6 cap6 w6 hown6 hg6 hat6 hlt6; have hFA : Fp (fun b => b = blk) w11.drew w6 := (Fp.refl _ w11.drew).grown hg6 (fun k hk => Or.inl (by injection hk with hk; exact hk.symm)); have hdA := HdD.out.other hFA (by omega); have fA4 := hdA.cell (k := 4) rfl; have fzA4 := hdA.ice 4))
        all_goals
          go_wp2_with fail
          go_meet
          exact HZ.out w6 g6 _ cap6 ⟨hFA.os, hFA.tape, hFA.output, hFA.size, hFA.block⟩ (by rcases hat6 with h1 | h1; (injection h1 with h1; exact .inl h1.symm); exact .inr h1) (by rw [List.flatMap_append]; exact hown6) (by omega)
      · have hil2 : yc.o.length ≤ i + 1 := by omega
        have hown0 : w11.drew.ownsRow w9.heap.size 54 2 (.slice (some ⟨blk, 0, none⟩) i dO) i ((yc.o.take i ++ yc.o.drop (i + 1)).flatMap vt) := by
          rw [List.drop_of_length_le (by omega), List.append_nil]; exact hown
        have HOw0 := Lib.hid hown0
        have hne2 : ¬ dO = i := by omega
        have fA4 : (w11.drew.setCells blk (i * 2) []).cell? ⟨w10.heap.size, 4, none⟩ = some (.slice (some ⟨blk, 0, none⟩) yc.o.length dO) := HdD.out.cell (k := 4) rfl
        have fzA4 : (w11.drew.setCells blk (i * 2) []).frozen? ⟨w10.heap.size, 4, none⟩ = false := HdD.out.ice 4
        have hF0 : Fp (fun b => b = blk) w11 (w11.drew.setCells blk (i * 2) []) := (Fp.refl _ w11).drew
        clear hown hown0 hnews hlen
        by_cases hic : dO = i + 1
        · have hdt : (dO = i + 1) = True := eq_true hic
          have Hic := Lib.hid hic
          clear hic
          go_region_law (first
            | (refine step_append_room (by rfl) _ _ _ (by rfl) 54 i0 2 Tryz.underlying23 hi0 hz1 blk 0 i dO (by rfl) ⟨blk, 0, none⟩ 0 (dO - (i + 1)) [] (by rfl) rfl (fun j u h => by cases h) (fun u h => by cases h) (by omega) (fun j h => by cases h) ?_))
          all_goals
            go_wp2_with fail
            go_meet
            exact HZ.out _ blk _ dO hF0 (.inl rfl) HOw0.out (by omega)
        · go_region_law (first
            | (refine step_append_room (by rfl) _ _ _ (by rfl) 54 i0 2 Tryz.underlying23 hi0 hz1 blk 0 i dO (by rfl) ⟨blk, (i + 1) * 2, none⟩ 0 (dO - (i + 1)) [] (by rfl) rfl (fun j u h => by cases h) (fun u h => by cases h) (by omega) (fun j h => by cases h) ?_))
          all_goals
            go_wp2_with fail
            go_meet
            exact HZ.out _ blk _ dO hF0 (.inl rfl) HOw0.out (by omega)
    · have hge : ∃ v, yc.o[i]? = some v := ⟨_, List.getElem?_eq_getElem hiq⟩
      obtain ⟨⟨tn, ts⟩, hge⟩ := hge
      have hvb := HFx.out.vs _ (List.mem_of_getElem? hge)
      have hsb1 := sealed_bd hvb.2
      have hvn := hvb.1
      dsimp only at hsb1 hvn
      have hoow := HOo.out
      rcases HOo.out.2 with ⟨_, h0⟩ | ⟨blk, cap, cur, hv, hB, hcur, hcap1, hcap2, hsz, htk⟩
      · exact absurd h0 (by omega)
      injection hv with hA hqq hc
      subst hA hc
      clear hqq
      obtain ⟨_, A', c', e', _, _, hxc⟩ := RdP.parts (RdP.of_own hoow)
      injection e' with e1 _ e3
      subst e1 e3
      obtain ⟨b1, o1, hA1, _, _, h1⟩ := hxc (by omega)
      injection hA1 with hA1
      injection hA1 with hA1 hA2
      subst hA1 hA2
      have r1 := range_elem (f := vt) (k := 2) (fun _ => rfl) h1 hiq
      have hgv : yc.o[i] = ⟨tn, ts⟩ := by rw [List.getElem?_eq_getElem hiq] at hge; injection hge
      rw [hgv] at r1
      have n0 := r1 0 _ rfl
      have n1 := r1 1 _ rfl
      simp only [Nat.zero_add, Nat.add_zero, iv] at n0 n1
      have fz0 : w11.frozen? ⟨blk, i * 2, none⟩ = false := frozen_of_row _ _ _ _ _ hcur
      have fz1 : w11.frozen? ⟨blk, i * 2 + 1, none⟩ = false := frozen_of_row _ _ _ _ _ hcur
      have hblk : blk < w10.heap.size := HoY.out blk rfl
      have hap := own_apart HOb.out hoow (by decide)
      have Hap := Lib.hid hap
      have Hcur := Lib.hid hcur
      have Htk := Lib.hid htk
      have Hsz := Lib.hid hsz
      have Hge := Lib.hid hge
      have Hvb := Lib.hid hvb
      have ki0 : (0 : Int) ≤ (i : Int) := by omega
      have ki1 : (i : Int) < (yc.o.length : Int) := by omega
      have hj : ∃ j : Nat, j ≠ i ∧ j < yc.o.length ∧ ((i : Int) + 1) % (yc.o.length : Int) = (j : Int) := by
        by_cases hlt : i + 1 < yc.o.length
        · exact ⟨i + 1, by omega, hlt, by rw [Int.emod_eq_of_lt (by omega) (by omega)]; rfl⟩
        · refine ⟨0, by omega, by omega, ?_⟩
          have : ((i : Int) + 1) = (yc.o.length : Int) := by omega
          rw [this, Int.emod_self]
          rfl
      obtain ⟨j, hji, hjl, hmod⟩ := hj
      have rj := range_elem (f := vt) (k := 2) (fun _ => rfl) h1 hjl
      have hgej : ∃ v, yc.o[j]? = some v := ⟨_, List.getElem?_eq_getElem hjl⟩
      obtain ⟨⟨un, us⟩, hgej⟩ := hgej
      have hgvj : yc.o[j] = ⟨un, us⟩ := by rw [List.getElem?_eq_getElem hjl] at hgej; injection hgej
      rw [hgvj] at rj
      have m0 := rj 0 _ rfl
      have m1 := rj 1 _ rfl
      simp only [Nat.zero_add, Nat.add_zero, iv] at m0 m1
      have Hgej := Lib.hid hgej
      have kj0 : (0 : Int) ≤ (j : Int) := by omega
      have kj1 : (j : Int) < (yc.o.length : Int) := by omega
      clear rj hgvj hgej
      clear hxc h1 r1 hgv hoow hap hcur htk hsz hge hvb
      have f_d4 : w11.cell? ⟨w10.heap.size, 4, none⟩ = some (.slice (some ⟨blk, 0, none⟩) yc.o.length dO) := Hd.out.cell rfl
      go_wp2_with fail
      go_region
      clear f_d4 n0 n1 m0 m1 fz0 fz1 hmod
      go_wp2_with fail
      go_meet
      have hcur1 := heap_setCell_same w11 blk (i * 2) _ _ (.int .i64 un) Hcur.out
      have htk1 : (cur.setIfInBounds (i * 2) (.int .i64 un)).toList.take (yc.o.length * 2) = (yc.o.set i ⟨un, ts⟩).flatMap vt := by
        rw [Array.toList_setIfInBounds, List.take_set, Htk.out, vt_set_n _ _ _ _ Hge.out]
        rfl
      have hsz1 : (cur.setIfInBounds (i * 2) (.int .i64 un)).size = dO * 2 := by rw [Array.size_setIfInBounds]; exact Hsz.out
      have hge1 : (yc.o.set i (⟨un, ts⟩ : Psp.Vote))[i]? = some ⟨un, ts⟩ := List.getElem?_set_self hiq
      have hrs := rd_set (k := i * 2 + 1) (u := .int .i64 us) hcur1 htk1 hcap1 hcap2 hsz1 (by omega) (xs' := ((yc.o.set i ⟨un, ts⟩).set i ⟨un, us⟩).flatMap vt) (vt_set_s _ _ _ _ hge1)
      rw [List.set_set] at hrs
      have hfs : Fp (fun b => b = blk) w11 (((w11.setCell ⟨blk, i * 2, none⟩ (.int .i64 un)).setCell ⟨blk, i * 2 + 1, none⟩ (.int .i64 us)).drew) := (((Fp.refl (fun b => b = blk) w11).setCell (p := ⟨blk, i * 2, none⟩) (Or.inl (show blk = blk from rfl)) _).setCell (p := ⟨blk, i * 2 + 1, none⟩) (Or.inl (show blk = blk from rfl)) _).drew
      have hrs2 : RdP (((w11.setCell ⟨blk, i * 2, none⟩ (.int .i64 un)).setCell ⟨blk, i * 2 + 1, none⟩ (.int .i64 us)).drew) (fun b => b = blk) 2 (.slice (some ⟨blk, 0, none⟩) yc.o.length dO) yc.o.length ((yc.o.set i ⟨un, us⟩).flatMap vt) := hrs.keep (Nat.le_refl _) fun b _ _ => rfl
      obtain ⟨wz, hwz⟩ : ∃ wz, (((w11.setCell ⟨blk, i * 2, none⟩ (.int .i64 un)).setCell ⟨blk, i * 2 + 1, none⟩ (.int .i64 us))).drew = wz := ⟨_, rfl⟩
      rw [hwz] at hfs hrs2 ⊢
      have hw9 := Hw9.out
      have hg9 := Hg9.out
      have ht9 := Ht9.out
      have hofb := hofd blk ⟨hB, hblk⟩
      have hnb : ∀ b, (Value.slice Yb yc.b.length db).ownBlock = some b → b ≠ blk := fun b hb he => by
        rcases Hap.out with h1 | h1
        · rw [h1] at hb; cases hb
        · exact h1 (by rw [hb, he]; rfl)
      refine ⟨{ yc with o := yc.o.set i ⟨un, us⟩ }, _, _, Lib.hid (tn_same HFx.out (Ne.symm hji) hiq Hgej.out), Lib.hid ⟨HWd.out.1, HWd.out.2.1, HWd.out.2.2.1, HWd.out.2.2.2.1, fun v hv => ?_⟩, by show yc.b.length ≤ 1000; omega, Lib.hid (Hd.out.other hfs (by omega)), Lib.hid ⟨?_, ?_⟩, Lib.hid (HT.out.fp hfs (by omega) (fun he => hofb.1.2.2 he.symm) (fun b hb he => hofb.1.2.1 (he ▸ hb))), Lib.hid (Ht.out.other hfs (by omega)), Lib.hid (HB.out.trans (hfs.to_below (B := w.heap.size) hz_ (fun k _ hk => by omega)))⟩
      · rcases List.mem_or_eq_of_mem_set hv with h | h
        · exact HWd.out.2.2.2.2 v h
        · rw [h]; exact HWd.out.2.2.2.2 _ (List.mem_of_getElem? Hgej.out)
      · exact (RdP.of_own (own_keep HOb.out fun b hb => hfs.block b (HOb.out.lt b hb).2 (hnb b hb))).mono fun b hb hPb => (hofd b ⟨hPb.2, HbY.out b hPb.1⟩).1.seal hfs fun b hb => .inl hb
      · show RdP _ _ 2 _ (yc.o.set i ⟨un, us⟩).length _
        rw [List.length_set]
        exact hrs2.mono fun b hb hPb => by rw [show b = blk from hPb]; exact hofb.1.seal hfs fun b hb => .inl hb
    · have f_d3 : w11.cell? ⟨w10.heap.size, 3, none⟩ = some (.slice Yb yc.b.length db) := Hd.out.cell rfl
      have fz_d3 : w11.frozen? ⟨w10.heap.size, 3, none⟩ = false := Hd.out.ice 3
      have hsz11 : w9.heap.size ≤ w11.heap.size := by have := Hs_w11.out; have := Hd.out.lt; omega
      have Hap := Lib.hid (own_apart HOo.out HOb.out (by decide))
      go_wp2_with (at_builtin; refine wpList_app1 reqE rfl _ _ rfl w9.heap.size (.slice Yb yc.b.length db) yc.b.length _ rfl HOb.out _ rfl rfl (by simp [Value.oneCell']) (by omega) (by decide) (by omega) ?_; intro v' wA hownA hgA hbA hvA; have HownA := Lib.hid hownA; have HvA := Lib.hid hvA; have hFA : Fp (fun b => (Value.slice Yb yc.b.length db).ownBlock = some b) w11 wA := (Fp.refl _ w11).grown hgA (fun j hj => Or.inl hj); have HFA := Lib.hid hFA; have hdA := Hd.out.other hFA (fun hh => by have := HbY.out _ hh; omega); have HdA := Lib.hid hdA; have fA3 := hdA.cell (k := 3) rfl; have fzA3 := hdA.ice 3; clear hownA hgA hbA hvA hFA hdA; obtain ⟨A5, c5, rfl, _, _, _⟩ := own_slice HownA.out)
      clear f_d3 fz_d3 fA3 fzA3
      go_meet
      have hfs : Fp (fun b => b = w10.heap.size) wA (wA.setCell ⟨w10.heap.size, 3, none⟩ (.slice A5 (yc.b.length + 1) c5)) := (Fp.refl (fun b => b = w10.heap.size) wA).setCell (p := ⟨w10.heap.size, 3, none⟩) (Or.inl (show w10.heap.size = w10.heap.size from rfl)) _
      have hrw : (wA.setCell ⟨w10.heap.size, 3, none⟩ (.slice A5 (yc.b.length + 1) c5)).heap[w10.heap.size]? = some (.cells #[.int .i64 yc.v, .int .i64 yc.i, .int .i64 yc.q, .slice A5 (yc.b.length + 1) c5, .slice Yo yc.o.length dO] 25 (0, 0)) := by rw [heap_setCell_same wA w10.heap.size 3 _ _ _ HdA.out.row]; rfl
      have hw9 := Hw9.out
      have hg9 := Hg9.out
      have ht9 := Ht9.out
      have hszA := HFA.out.size
      have hyb : ∀ b, (Value.slice Yb yc.b.length db).ownBlock = some b → w9.heap.size ≤ b ∧ b < w10.heap.size := fun b hb => ⟨(HOb.out.lt b hb).1, HbY.out b hb⟩
      have hoo : ∀ b, (Value.slice Yo yc.o.length dO).ownBlock = some b → (Value.slice Yb yc.b.length db).ownBlock ≠ some b := fun b hb he => by
        rcases Hap.out with h1 | h1
        · rw [h1] at hb; cases hb
        · exact h1 (by rw [hb, he])
      have hoA : ∀ b, w9.heap.size ≤ b ∧ b < w10.heap.size → Off wA S' bm b := fun b hb => ((hofd b hb).1.seal HFA.out fun b hb => .inl hb)
      refine ⟨{ yc with b := yc.b ++ [(⟨0, 60, 2, 0, 0, 0⟩ : Psp.Req)] }, _, _, Lib.hid (tn_b HFx.out hf _), Lib.hid ⟨HWd.out.1, HWd.out.2.1, HWd.out.2.2.1, fun r hr => ?_, HWd.out.2.2.2.2⟩, by show (yc.b ++ [_]).length ≤ 1000; rw [List.length_append]; show yc.b.length + 1 ≤ 1000; omega, Lib.hid ⟨hrw, HdA.out.off.seal hfs fun b hb => .inl hb⟩, Lib.hid ⟨?_, ?_⟩, Lib.hid ((HT.out.fp HFA.out (fun hh => by have := hyb _ hh; omega) (fun hh => (hofd _ (hyb _ hh)).1.2.2 rfl) (fun b hb hh => (hofd _ (hyb _ hh)).1.2.1 hb)).fp hfs (by omega) (fun he => hDo.2.2 he.symm) (fun b hb he => hDo.2.1 (he ▸ hb))), Lib.hid ((Ht.out.other HFA.out (fun hh => by have := hyb _ hh; omega)).other hfs (by omega)), Lib.hid ((HB.out.trans (HFA.out.to_below (B := w.heap.size) hz_ (fun k _ hk => by have := hyb _ hk; omega))).trans (hfs.to_below (B := w.heap.size) (by omega) (fun k _ hk => by omega)))⟩
      · rcases List.mem_append.1 hr with h | h
        · exact HWd.out.2.2.2.1 r h
        · rw [List.mem_singleton.1 h]; exact ⟨i64_small (by decide) (by decide), i64_small (by decide) (by decide), i64_small (by decide) (by decide), i64_small (by decide) (by decide), i64_small (by decide) (by decide), i64_small (by decide) (by decide)⟩
      · have h1 := own_keep HownA.out (w' := wA.setCell ⟨w10.heap.size, 3, none⟩ (.slice A5 (yc.b.length + 1) c5)) fun b hb => hfs.block b (HownA.out.lt b hb).2 (by
          rcases HvA.out with h2 | h2
          · rw [h2] at hb; have := hyb _ hb; omega
          · rw [h2] at hb; injection hb with hb; omega)
        have h2 := (RdP.of_own h1).mono (P' := Off (wA.setCell ⟨w10.heap.size, 3, none⟩ (.slice A5 (yc.b.length + 1) c5)) S' bm) fun b hb hPb => by
          rcases HvA.out with h2 | h2
          · have h3 := hPb.1
            rw [h2] at h3
            exact (hoA b (hyb b h3)).seal hfs fun b hb => .inl hb
          · have h3 := hPb.1
            rw [h2] at h3
            injection h3 with h3
            exact ⟨hb, fun hh => by have := HSo.out b hh; omega, by have := HSb.out; omega⟩
        show RdP _ _ 6 _ (yc.b ++ [(⟨0, 60, 2, 0, 0, 0⟩ : Psp.Req)]).length ((yc.b ++ [(⟨0, 60, 2, 0, 0, 0⟩ : Psp.Req)]).flatMap rq)
        rw [List.length_append, List.flatMap_append]
        simpa [rq, iv] using h2
      · exact (RdP.of_own (own_keep (own_keep HOo.out fun b hb => HFA.out.block b (HOo.out.lt b hb).2 (hoo b hb)) fun b hb => hfs.block b (by have := (HOo.out.lt b hb).2; omega) (by have := HoY.out b hb; omega))).mono fun b hb hPb => (hoA b ⟨hPb.2, HoY.out b hPb.1⟩).seal hfs fun b hb => .inl hb
    · have hge : ∃ v, yc.o[i]? = some v := ⟨_, List.getElem?_eq_getElem hiq⟩
      obtain ⟨⟨tn, ts⟩, hge⟩ := hge
      have hvb := HFx.out.vs _ (List.mem_of_getElem? hge)
      have hsb1 := sealed_bd hvb.2
      have hvn := hvb.1
      dsimp only at hsb1 hvn
      have hoow := HOo.out
      rcases HOo.out.2 with ⟨_, h0⟩ | ⟨blk, cap, cur, hv, hB, hcur, hcap1, hcap2, hsz, htk⟩
      · exact absurd h0 (by omega)
      injection hv with hA hqq hc
      subst hA hc
      clear hqq
      obtain ⟨_, A', c', e', _, _, hxc⟩ := RdP.parts (RdP.of_own hoow)
      injection e' with e1 _ e3
      subst e1 e3
      obtain ⟨b1, o1, hA1, _, _, h1⟩ := hxc (by omega)
      injection hA1 with hA1
      injection hA1 with hA1 hA2
      subst hA1 hA2
      have r1 := range_elem (f := vt) (k := 2) (fun _ => rfl) h1 hiq
      have hgv : yc.o[i] = ⟨tn, ts⟩ := by rw [List.getElem?_eq_getElem hiq] at hge; injection hge
      rw [hgv] at r1
      have n0 := r1 0 _ rfl
      have n1 := r1 1 _ rfl
      simp only [Nat.zero_add, Nat.add_zero, iv] at n0 n1
      have fz0 : w11.frozen? ⟨blk, i * 2, none⟩ = false := frozen_of_row _ _ _ _ _ hcur
      have fz1 : w11.frozen? ⟨blk, i * 2 + 1, none⟩ = false := frozen_of_row _ _ _ _ _ hcur
      have hblk : blk < w10.heap.size := HoY.out blk rfl
      have hap := own_apart HOb.out hoow (by decide)
      have Hap := Lib.hid hap
      have Hcur := Lib.hid hcur
      have Htk := Lib.hid htk
      have Hsz := Lib.hid hsz
      have Hge := Lib.hid hge
      have Hvb := Lib.hid hvb
      have ki0 : (0 : Int) ≤ (i : Int) := by omega
      have ki1 : (i : Int) < (yc.o.length : Int) := by omega
      clear hxc h1 r1 hgv hoow hap hcur htk hsz hge hvb
      have f_d4 : w11.cell? ⟨w10.heap.size, 4, none⟩ = some (.slice (some ⟨blk, 0, none⟩) yc.o.length dO) := Hd.out.cell rfl
      go_wp2_with fail
      clear f_d4 n0 n1 fz0 fz1
      go_meet
      have hfs : Fp (fun b => b = blk) w11 (w11.setCell ⟨blk, i * 2, none⟩ (.int .i64 13)) := (Fp.refl (fun b => b = blk) w11).setCell (p := ⟨blk, i * 2, none⟩) (Or.inl (show blk = blk from rfl)) _
      have hrs := rd_set (k := i * 2) (u := .int .i64 13) Hcur.out Htk.out hcap1 hcap2 Hsz.out (by omega) (xs' := (yc.o.set i ⟨13, ts⟩).flatMap vt) (vt_set_n _ _ _ _ Hge.out)
      have hw9 := Hw9.out
      have hg9 := Hg9.out
      have ht9 := Ht9.out
      have hofb := hofd blk ⟨hB, hblk⟩
      have hnb : ∀ b, (Value.slice Yb yc.b.length db).ownBlock = some b → b ≠ blk := fun b hb he => by
        rcases Hap.out with h1 | h1
        · rw [h1] at hb; cases hb
        · exact h1 (by rw [hb, he]; rfl)
      refine ⟨{ yc with o := yc.o.set i ⟨13, ts⟩ }, _, _, Lib.hid (tn_node HFx.out hf hiq ts), Lib.hid ⟨HWd.out.1, HWd.out.2.1, HWd.out.2.2.1, HWd.out.2.2.2.1, fun v hv => ?_⟩, by show yc.b.length ≤ 1000; omega, Lib.hid (Hd.out.other hfs (by omega)), Lib.hid ⟨?_, ?_⟩, Lib.hid (HT.out.fp hfs (by omega) (fun he => hofb.1.2.2 he.symm) (fun b hb he => hofb.1.2.1 (he ▸ hb))), Lib.hid (Ht.out.other hfs (by omega)), Lib.hid (HB.out.trans (hfs.to_below (B := w.heap.size) hz_ (fun k _ hk => by omega)))⟩
      · rcases List.mem_or_eq_of_mem_set hv with h | h
        · exact HWd.out.2.2.2.2 v h
        · subst h; exact ⟨i64_small (by show (0 : Int) ≤ 13; omega) (by show (13 : Int) < _; omega), i64_small (by show 0 ≤ ts; omega) (by show ts < _; omega)⟩
      · exact (RdP.of_own (own_keep HOb.out fun b hb => hfs.block b (HOb.out.lt b hb).2 (hnb b hb))).mono fun b hb hPb => (hofd b ⟨hPb.2, HbY.out b hPb.1⟩).1.seal hfs fun b hb => .inl hb
      · show RdP _ _ 2 _ (yc.o.set i ⟨13, ts⟩).length _
        rw [List.length_set]
        exact hrs.mono fun b hb hPb => by rw [show b = blk from hPb]; exact hofb.1.seal hfs fun b hb => .inl hb
  case rest =>
    obtain ⟨d, Vb, Vo, Hvn, Hwd, hdb, Hd, Hk, HT, Ht, HB⟩ := hcut
    obtain ⟨A3, c3, A4, c4, e3, e4⟩ := Ck.slices Hk.out
    dsimp only at e3 e4
    subst e3 e4
    have HND := Lib.hid HT.out.nt.nd
    have D2 : Hid (certifiedB K' kind d f cl = false) := Lib.hid (certified_no Hvn.out)
    have f_d0 : wc.cell? ⟨w10.heap.size, 0, none⟩ = some (.int .i64 d.v) := Hd.out.cell rfl
    have f_d1 : wc.cell? ⟨w10.heap.size, 1, none⟩ = some (.int .i64 d.i) := Hd.out.cell rfl
    have f_d2 : wc.cell? ⟨w10.heap.size, 2, none⟩ = some (.int .i64 d.q) := Hd.out.cell rfl
    have f_d3 : wc.cell? ⟨w10.heap.size, 3, none⟩ = some (.slice A3 d.b.length c3) := Hd.out.cell rfl
    have f_d4 : wc.cell? ⟨w10.heap.size, 4, none⟩ = some (.slice A4 d.o.length c4) := Hd.out.cell rfl
    have f_t0 : wc.cell? ⟨w1.heap.size, 0, none⟩ = some (.pointer (some ⟨g, 0, none⟩)) := Ht.out.cell rfl
    go_wp2_with fail
    clear f_d0 f_d1 f_d2 f_d3 f_d4 f_t0
    refine (voted_m kind d (.slice A3 d.b.length c3) (.slice A4 d.o.length c4) f g bm K' wc _ Hk.out Hwd.out.2.2.2.2 HT.out.nt (by omega)).mono ?_
    rw [Hvn.out]
    rintro e z1 ⟨rfl, hbq⟩
    replace Ht := Lib.hid (Ht.out.below hbq)
    replace Hd := Lib.hid (Hd.out.below hbq)
    replace Hk := Lib.hid (Ck.below Hk.out hbq)
    replace HT := Lib.hid (HT.out.below hbq)
    replace HB := Lib.hid (Below.then HB.out hbq HB.out.size)
    clear hbq
    have f_d0 : z1.cell? ⟨w10.heap.size, 0, none⟩ = some (.int .i64 d.v) := Hd.out.cell rfl
    have f_d1 : z1.cell? ⟨w10.heap.size, 1, none⟩ = some (.int .i64 d.i) := Hd.out.cell rfl
    have f_d2 : z1.cell? ⟨w10.heap.size, 2, none⟩ = some (.int .i64 d.q) := Hd.out.cell rfl
    have f_d3 : z1.cell? ⟨w10.heap.size, 3, none⟩ = some (.slice A3 d.b.length c3) := Hd.out.cell rfl
    have f_d4 : z1.cell? ⟨w10.heap.size, 4, none⟩ = some (.slice A4 d.o.length c4) := Hd.out.cell rfl
    have f_t0 : z1.cell? ⟨w1.heap.size, 0, none⟩ = some (.pointer (some ⟨g, 0, none⟩)) := Ht.out.cell rfl
    go_wp2_with fail
    clear f_d0 f_d1 f_d2 f_d3 f_d4 f_t0
    refine (certified_m kind d (.slice A3 d.b.length c3) (.slice A4 d.o.length c4) f cl g bm K' z1 _ Hk.out Hwd.out HT.out.nt (by omega)).mono ?_
    rw [D2.out]
    rintro e z2 ⟨rfl, hbq⟩
    replace Ht := Lib.hid (Ht.out.below hbq)
    replace Hd := Lib.hid (Hd.out.below hbq)
    replace Hk := Lib.hid (Ck.below Hk.out hbq)
    replace HT := Lib.hid (HT.out.below hbq)
    replace HB := Lib.hid (Below.then HB.out hbq HB.out.size)
    clear hbq
    have f_d0 : z2.cell? ⟨w10.heap.size, 0, none⟩ = some (.int .i64 d.v) := Hd.out.cell rfl
    have f_d1 : z2.cell? ⟨w10.heap.size, 1, none⟩ = some (.int .i64 d.i) := Hd.out.cell rfl
    have f_d2 : z2.cell? ⟨w10.heap.size, 2, none⟩ = some (.int .i64 d.q) := Hd.out.cell rfl
    have f_d3 : z2.cell? ⟨w10.heap.size, 3, none⟩ = some (.slice A3 d.b.length c3) := Hd.out.cell rfl
    have f_d4 : z2.cell? ⟨w10.heap.size, 4, none⟩ = some (.slice A4 d.o.length c4) := Hd.out.cell rfl
    have f_t1 : z2.cell? ⟨w1.heap.size, 1, none⟩ = some (.pointer (some ⟨h, 0, none⟩)) := Ht.out.cell rfl
    go_wp2_with fail
    clear f_d0 f_d1 f_d2 f_d3 f_d4 f_t1
    refine (rvoted_m kind d (.slice A3 d.b.length c3) (.slice A4 d.o.length c4) f S' h K' z2 _ Hk.out Hwd.out.2.2.2.2 HT.out.nr HND.out).mono ?_
    rw [Hvn.out]
    rintro e z3 ⟨rfl, hbq⟩
    replace Ht := Lib.hid (Ht.out.below hbq)
    replace Hd := Lib.hid (Hd.out.below hbq)
    replace Hk := Lib.hid (Ck.below Hk.out hbq)
    replace HT := Lib.hid (HT.out.below hbq)
    replace HB := Lib.hid (Below.then HB.out hbq HB.out.size)
    clear hbq
    go_wp2_with fail
    refine (wakes06 _).mono ?_
    rintro e z4 ⟨rfl, hbq⟩
    go_wp2_with fail
    go_ret
    exact ⟨rfl, Below.then HB.out hbq HB.out.size⟩
end Go.Proofs.YtadpkjgjciodnaaGreat.msgsCerts
