/- The walk of MsgsProofs. Printed by gen_wproofs.py. -/
import Derived.Test.YtadpkjgjciodnaaGreatRwPr
import Derived.Test.YtadpkjgjciodnaaGreatJ24Pr
import Derived.Test.YtadpkjgjciodnaaGreatFq9Pr
namespace Go.Proofs.YtadpkjgjciodnaaGreat.msgsProofs
open Go.RowKit
set_option linter.unusedVariables false
set_option linter.unusedSimpArgs false

set_option maxRecDepth 100000 in
set_option maxHeartbeats 8000000 in
theorem walk (x : CertV) (f0 cl0 skip : Int) (w : World) (hx : CertOk w (fun b => b < w.heap.size) x ∧ wfCert x.c) (hf0 : isI64 f0) (hcl0 : isI64 cl0) (hsk : isI64 skip) :
    Calls Tryz.prog 4 #[.agg (cv x).toArray, .int .i64 f0, .int .i64 cl0, .int .i64 skip] w fun e w' => e = .returned (.bool true) ∧ Below w.heap.size w w' := by
  obtain ⟨hx, hwc⟩ := hx
  obtain ⟨c, vb, vo⟩ := x
  obtain ⟨_, A1, c1, e1, _⟩ := RdP.parts hx.1
  obtain ⟨_, A2, c2, e2, _⟩ := RdP.parts hx.2
  dsimp only at e1 e2 hwc
  subst e1 e2
  show Calls Tryz.prog 4 #[.agg #[.int .i64 c.v, .int .i64 c.i, .int .i64 c.q, .slice A1 c.b.length c1, .slice A2 c.o.length c2], .int .i64 f0, .int .i64 cl0, .int .i64 skip] w _
  have HX := Lib.hid hx
  have Hwc := Lib.hid hwc
  have hb0 := alloc_below w (.cells #[.int .i64 c.v, .int .i64 c.i, .int .i64 c.q, .slice A1 c.b.length c1, .slice A2 c.o.length c2] 25)
  have hc0 := heap_alloc_new w (.cells #[.int .i64 c.v, .int .i64 c.i, .int .i64 c.q, .slice A1 c.b.length c1, .slice A2 c.o.length c2] 25)
  have fw0 := Psp.within_lo f0 4
  have fw1 := Psp.within_hi f0 4 (by omega)
  have cw0 := Psp.within_lo cl0 4
  have cw1 := Psp.within_hi cl0 4 (by omega)
  have hwf : IntKind.i64.wrap (1 + Psp.within f0 4) = 1 + Psp.within f0 4 := IntWalk.i64_in _ (by omega)
  have hwc' : IntKind.i64.wrap (1 + Psp.within cl0 4) = 1 + Psp.within cl0 4 := IntWalk.i64_in _ (by omega)
  clear hx hwc
  go_enter Tryz.func4, Tryz.ntmps4
  go_upto_region 2 with (go_at_call 8; refine (within_i _ _ _ (by first | assumption | exact ⟨by omega, by omega⟩) (by exact ⟨by omega, by omega⟩)).mono ?_; rintro e w' ⟨rfl, rfl⟩)
  clear hwf hwc'
  obtain ⟨f, hfx⟩ : ∃ f, 1 + Psp.within f0 4 = f := ⟨_, rfl⟩
  obtain ⟨cl, hclx⟩ : ∃ cl, 1 + Psp.within cl0 4 = cl := ⟨_, rfl⟩
  rw [hfx, hclx]
  have hf : 1 ≤ f ∧ f ≤ 4 := ⟨by omega, by omega⟩
  have hcl : 1 ≤ cl ∧ cl ≤ 4 := ⟨by omega, by omega⟩
  clear hfx hclx fw0 fw1 cw0 cw1
  obtain ⟨W0, hW0⟩ : ∃ W, w.alloc (.cells #[.int .i64 c.v, .int .i64 c.i, .int .i64 c.q, .slice A1 c.b.length c1, .slice A2 c.o.length c2] 25) = W := ⟨_, rfl⟩
  rw [hW0] at hb0 hc0 ⊢
  have HB0 := Lib.hid hb0
  have HC0 := Lib.hid hc0
  have hz0 := (Array.getElem?_eq_some_iff.1 hc0).1
  clear hW0 hb0 hc0
  go_wp2_with fail
  refine (begin_m W0).mono ?_
  rintro e w1 ⟨g, bm, h, rfl, hT, hb1, hg1, hg2, hg3⟩
  have hbmw : w.heap.size ≤ bm := by omega
  have HT := Lib.hid hT
  have HB := Lib.hid (Below.then HB0.out hb1 HB0.out.size)
  have HSn : Hid (∀ b, (fun b => b = h) b → w.heap.size ≤ b) := Lib.hid fun b hb => by have hb : b = h := hb; omega
  have Hc : Hid (Rw w1 (fun b => b = h) bm w.heap.size (.cells #[.int .i64 c.v, .int .i64 c.i, .int .i64 c.q, .slice A1 c.b.length c1, .slice A2 c.o.length c2] 25 (0, 0))) := Lib.hid ⟨(hb1.block _ hz0).trans HC0.out, by have := hb1.size; omega, by omega, by omega⟩
  have hgw : W0.heap.size ≤ g := hg1
  have hzw1 := hb1.size
  clear HB0 HC0 hb1 hT
  go_upto_region 3 with fail
  have hba := alloc_below w1 (.cells #[.pointer (some ⟨g, 0, none⟩), .pointer (some ⟨h, 0, none⟩)] 30)
  have hra : Rw (w1.alloc (.cells #[.pointer (some ⟨g, 0, none⟩), .pointer (some ⟨h, 0, none⟩)] 30)) (fun b => b = h) bm w1.heap.size (.cells #[.pointer (some ⟨g, 0, none⟩), .pointer (some ⟨h, 0, none⟩)] 30 (0, 0)) := Rw.new (.cells #[.pointer (some ⟨g, 0, none⟩), .pointer (some ⟨h, 0, none⟩)] 30) HT.out.lt HT.out.nt.lt.2
  have hsa : (w1.alloc (.cells #[.pointer (some ⟨g, 0, none⟩), .pointer (some ⟨h, 0, none⟩)] 30)).heap.size = w1.heap.size + 1 := by simp
  obtain ⟨w2, hWa⟩ : ∃ W, w1.alloc (.cells #[.pointer (some ⟨g, 0, none⟩), .pointer (some ⟨h, 0, none⟩)] 30) = W := ⟨_, rfl⟩
  rw [hWa] at hba hra hsa ⊢
  have Hs_w2 := Lib.hid hsa
  have Hb_w2 := Lib.hid hba
  have Ht := Lib.hid hra
  clear hWa hra hsa
  replace Hc := Lib.hid (Hc.out.below hba)
  replace HT := Lib.hid (HT.out.below hba)
  replace HB := Lib.hid (Below.then HB.out hba HB.out.size)
  clear hba
  have f_c0 : w2.cell? ⟨w.heap.size, 0, none⟩ = some (.int .i64 c.v) := Hc.out.cell rfl
  have f_c1 : w2.cell? ⟨w.heap.size, 1, none⟩ = some (.int .i64 c.i) := Hc.out.cell rfl
  have f_c2 : w2.cell? ⟨w.heap.size, 2, none⟩ = some (.int .i64 c.q) := Hc.out.cell rfl
  have f_c3 : w2.cell? ⟨w.heap.size, 3, none⟩ = some (.slice A1 c.b.length c1) := Hc.out.cell rfl
  have f_c4 : w2.cell? ⟨w.heap.size, 4, none⟩ = some (.slice A2 c.o.length c2) := Hc.out.cell rfl
  go_wp2_with fail
  clear f_c0 f_c1 f_c2 f_c3 f_c4
  refine (cut_m c A1 A2 c1 c2 f cl w2 _ ((HX.out.keeps (Keeps.below HB.out))) Hwc.out hf hcl).mono ?_
  rintro e w3 ⟨B1, n1, d1, rfl, hn1, hO1, hb3⟩
  obtain ⟨a, ha⟩ : ∃ a, Psp.cutC c f cl = a := ⟨_, rfl⟩
  have hCut := cutC_is hf hcl.1 c
  have hco : (Psp.cutC c f cl).o = c.o := rfl
  rw [ha] at hn1 hO1 hCut hco ⊢
  subst hn1
  have hl2 := HB.out.size
  have HA0 : Hid (CertOk w3 (fun b => Off w3 (fun b => b = h) bm b ∧ b ≠ w.heap.size) ⟨a, .slice B1 a.b.length d1, .slice A2 a.o.length c2⟩) := Lib.hid ⟨(RdP.of_own hO1).mono fun b hb hPb => ⟨⟨hb, fun hh => by have := hPb.2; have := HT.out.lt b hh; omega, by have := hPb.2; have := HT.out.nt.lt.2; omega⟩, by have := hPb.2; have := HT.out.lt h rfl; omega⟩, by
    rw [hco]
    exact RdP.keeps HX.out.2 ⟨by have := hb3.size; omega, fun b hb hlt => ⟨(hb3.block b (by omega)).trans (HB.out.block b hlt), ⟨by have := hb3.size; omega, fun hh => by have := HSn.out b hh; omega, by omega⟩, by omega⟩⟩⟩
  have HCut := Lib.hid hCut
  have hsb := hCut.sb
  rw [← hco]
  clear hco hO1 hl2 hCut
  replace Hc := Lib.hid (Hc.out.below hb3)
  replace Ht := Lib.hid (Ht.out.below hb3)
  replace HT := Lib.hid (HT.out.below hb3)
  replace HB := Lib.hid (Below.then HB.out hb3 HB.out.size)
  clear hb3
  have Hth := Lib.hid (row_there Hc.out.row)
  obtain ⟨s1, s2⟩ := row_store Hc.out.row [.int .i64 a.v, .int .i64 a.i, .int .i64 a.q, .slice B1 a.b.length d1, .slice A2 a.o.length c2] rfl
  have hfs : Fp (fun b => b = w.heap.size) w3 (w3.setCells w.heap.size 0 [.int .i64 a.v, .int .i64 a.i, .int .i64 a.q, .slice B1 a.b.length d1, .slice A2 a.o.length c2]) := (Fp.refl (fun b => b = w.heap.size) w3).setCells (Or.inl rfl) _
  have HT1 := Lib.hid s1
  have Hfs := Lib.hid hfs
  clear s1 s2 hfs
  go_upto_region 6 with (first | (refine wpList_store_mid rfl 25 (.tmp 4) (.tmp 33) rfl w.heap.size 0 #[.int .i64 a.v, .int .i64 a.i, .int .i64 a.q, .slice B1 a.b.length d1, .slice A2 a.o.length c2] rfl rfl Hth.out sizeC (by simp [Value.oneCell']) ?_))
  have t1 := HT1.out
  have hfs := Hfs.out
  obtain ⟨w4, hw4⟩ : ∃ w4, w3.setCells w.heap.size 0 [.int .i64 a.v, .int .i64 a.i, .int .i64 a.q, .slice B1 a.b.length d1, .slice A2 a.o.length c2] = w4 := ⟨_, rfl⟩
  rw [hw4] at t1 hfs ⊢
  have hsz := HB.out.size
  have hoc := Hc.out.off
  have htl := Ht.out.lt
  replace Ht := Lib.hid (Ht.out.other hfs (by omega))
  replace Hc : Hid (Rw w4 (fun b => b = h) bm w.heap.size (.cells #[.int .i64 a.v, .int .i64 a.i, .int .i64 a.q, .slice B1 a.b.length d1, .slice A2 a.o.length c2] 25 (0, 0))) := Lib.hid ⟨t1, hoc.seal hfs fun b hb => .inl hb⟩
  have Ha : Hid (Ck w4 (fun b => b = h) bm ⟨a, .slice B1 a.b.length d1, .slice A2 a.o.length c2⟩) := Lib.hid (CertOk.keeps HA0.out ⟨hfs.size, fun b hb hlt => ⟨hfs.block b hlt hb.2, hb.1.seal hfs fun b hb => .inl hb⟩⟩)
  replace HT := Lib.hid (HT.out.fp hfs (by omega) (by omega) (fun b hb he => by have := HSn.out b hb; have hh : b = h := hb; omega))
  replace HB := Lib.hid (HB.out.trans (hfs.to_below (B := w.heap.size) hsz (fun k _ hk => by omega)))
  clear hw4 t1 hfs hsz hoc htl HA0 Hth HT1 Hfs
  have f_t0 : w4.cell? ⟨w1.heap.size, 0, none⟩ = some (.pointer (some ⟨g, 0, none⟩)) := Ht.out.cell rfl
  have f_t1 : w4.cell? ⟨w1.heap.size, 1, none⟩ = some (.pointer (some ⟨h, 0, none⟩)) := Ht.out.cell rfl
  have f_c0 : w4.cell? ⟨w.heap.size, 0, none⟩ = some (.int .i64 a.v) := Hc.out.cell rfl
  have f_c1 : w4.cell? ⟨w.heap.size, 1, none⟩ = some (.int .i64 a.i) := Hc.out.cell rfl
  have f_c2 : w4.cell? ⟨w.heap.size, 2, none⟩ = some (.int .i64 a.q) := Hc.out.cell rfl
  have f_c3 : w4.cell? ⟨w.heap.size, 3, none⟩ = some (.slice B1 a.b.length d1) := Hc.out.cell rfl
  have f_c4 : w4.cell? ⟨w.heap.size, 4, none⟩ = some (.slice A2 a.o.length c2) := Hc.out.cell rfl
  go_wp2_with fail
  clear f_t0 f_t1 f_c0 f_c1 f_c2 f_c3 f_c4
  refine (two_cert' 5 f skip a B1 A2 d1 c2 (fun b => b = h) g bm h [] w4 HT.out hf hsk Ha.out (by simp) (by omega)).mono ?_
  rintro e w5 ⟨x, K5, Ex, dx, Fx, qx, S5, hcs, rfl, hT', hS', hF', hx'⟩
  have hcf := certS_cf (skip := skip) (kind := 5) (Or.inr rfl) hf hcl.2 HCut.out (K := []) (by simp)
  rw [hcs] at hcf
  dsimp only at hcf
  have HFx := Lib.hid hcf.1
  have HUx := Lib.hid hcf.2.1
  have hklx : K5.length ≤ 12 := by have := hcf.2.2; simp at this; omega
  clear hcf hcs
  replace Hc := Lib.hid (Hc.out.seal hF' hS')
  replace Ht := Lib.hid (Ht.out.seal hF' hS')
  replace Ha := Lib.hid (Ck.seal Ha.out hF' hS')
  have hzb := HB.out.size
  replace HB := Lib.hid (HB.out.trans ((hF').to_below (B := w.heap.size) hzb (fun k hk hh => by rcases hh with hh | hh; (have := HSn.out k hh; omega); omega)))
  replace HSn : Hid (∀ b, (S5) b → w.heap.size ≤ b) := Lib.hid fun b hb => by rcases hS' b hb with h1 | h1; exact HSn.out b h1; omega
  clear hzb
  replace HT := Lib.hid hT'
  clear hT' hS' hF'
  have Hx : Hid (Ck w5 S5 bm ⟨x, .slice Ex x.b.length dx, .slice Fx x.o.length qx⟩) := Lib.hid (CertOk.keeps hx' (Keeps.mono fun b _ hb => hb.2))
  clear hx'
  go_upto_region 7 with fail
  have hba := alloc_below w5 (.cells #[.int .i64 x.v, .int .i64 x.i, .int .i64 x.q, .slice Ex x.b.length dx, .slice Fx x.o.length qx] 25)
  have hra : Rw (w5.alloc (.cells #[.int .i64 x.v, .int .i64 x.i, .int .i64 x.q, .slice Ex x.b.length dx, .slice Fx x.o.length qx] 25)) S5 bm w5.heap.size (.cells #[.int .i64 x.v, .int .i64 x.i, .int .i64 x.q, .slice Ex x.b.length dx, .slice Fx x.o.length qx] 25 (0, 0)) := Rw.new (.cells #[.int .i64 x.v, .int .i64 x.i, .int .i64 x.q, .slice Ex x.b.length dx, .slice Fx x.o.length qx] 25) HT.out.lt HT.out.nt.lt.2
  have hsa : (w5.alloc (.cells #[.int .i64 x.v, .int .i64 x.i, .int .i64 x.q, .slice Ex x.b.length dx, .slice Fx x.o.length qx] 25)).heap.size = w5.heap.size + 1 := by simp
  obtain ⟨w6, hWa⟩ : ∃ W, w5.alloc (.cells #[.int .i64 x.v, .int .i64 x.i, .int .i64 x.q, .slice Ex x.b.length dx, .slice Fx x.o.length qx] 25) = W := ⟨_, rfl⟩
  rw [hWa] at hba hra hsa ⊢
  have Hs_w6 := Lib.hid hsa
  have Hb_w6 := Lib.hid hba
  have Hrx := Lib.hid hra
  clear hWa hra hsa
  replace Hc := Lib.hid (Hc.out.below hba)
  replace Ht := Lib.hid (Ht.out.below hba)
  replace Ha := Lib.hid (Ck.below Ha.out hba)
  replace Hx := Lib.hid (Ck.below Hx.out hba)
  replace HT := Lib.hid (HT.out.below hba)
  replace HB := Lib.hid (Below.then HB.out hba HB.out.size)
  clear hba
  have f_t0 : w6.cell? ⟨w1.heap.size, 0, none⟩ = some (.pointer (some ⟨g, 0, none⟩)) := Ht.out.cell rfl
  have f_t1 : w6.cell? ⟨w1.heap.size, 1, none⟩ = some (.pointer (some ⟨h, 0, none⟩)) := Ht.out.cell rfl
  have f_c0 : w6.cell? ⟨w.heap.size, 0, none⟩ = some (.int .i64 a.v) := Hc.out.cell rfl
  have f_c1 : w6.cell? ⟨w.heap.size, 1, none⟩ = some (.int .i64 a.i) := Hc.out.cell rfl
  have f_c2 : w6.cell? ⟨w.heap.size, 2, none⟩ = some (.int .i64 a.q) := Hc.out.cell rfl
  have f_c3 : w6.cell? ⟨w.heap.size, 3, none⟩ = some (.slice B1 a.b.length d1) := Hc.out.cell rfl
  have f_c4 : w6.cell? ⟨w.heap.size, 4, none⟩ = some (.slice A2 a.o.length c2) := Hc.out.cell rfl
  go_wp2_with fail
  clear f_t0 f_t1 f_c0 f_c1 f_c2 f_c3 f_c4
  refine (two_cert' 4 f skip a B1 A2 d1 c2 S5 g bm h K5 w6 HT.out hf hsk Ha.out (by omega) (by omega)).mono ?_
  rintro e w7 ⟨y, K7, Ey, dy, Fy, qy, S7, hcs, rfl, hT', hS', hF', hx'⟩
  have hcf := certS_cf (skip := skip) (kind := 4) (Or.inl rfl) hf hcl.2 HCut.out (K := K5) (by omega)
  rw [hcs] at hcf
  dsimp only at hcf
  have HFy := Lib.hid hcf.1
  have HUy := Lib.hid hcf.2.1
  have hkly : K7.length ≤ 24 := by have := hcf.2.2; omega
  clear hcf hcs
  replace Hc := Lib.hid (Hc.out.seal hF' hS')
  replace Ht := Lib.hid (Ht.out.seal hF' hS')
  replace Hrx := Lib.hid (Hrx.out.seal hF' hS')
  replace Ha := Lib.hid (Ck.seal Ha.out hF' hS')
  replace Hx := Lib.hid (Ck.seal Hx.out hF' hS')
  have hzb := HB.out.size
  replace HB := Lib.hid (HB.out.trans ((hF').to_below (B := w.heap.size) hzb (fun k hk hh => by rcases hh with hh | hh; (have := HSn.out k hh; omega); omega)))
  replace HSn : Hid (∀ b, (S7) b → w.heap.size ≤ b) := Lib.hid fun b hb => by rcases hS' b hb with h1 | h1; exact HSn.out b h1; omega
  clear hzb
  replace HT := Lib.hid hT'
  clear hT' hS' hF'
  have Hy : Hid (Ck w7 S7 bm ⟨y, .slice Ey y.b.length dy, .slice Fy y.o.length qy⟩) := Lib.hid (CertOk.keeps hx' (Keeps.mono fun b _ hb => hb.2))
  clear hx'
  go_upto_region 8 with fail
  have hba := alloc_below w7 (.cells #[.int .i64 y.v, .int .i64 y.i, .int .i64 y.q, .slice Ey y.b.length dy, .slice Fy y.o.length qy] 25)
  have hra : Rw (w7.alloc (.cells #[.int .i64 y.v, .int .i64 y.i, .int .i64 y.q, .slice Ey y.b.length dy, .slice Fy y.o.length qy] 25)) S7 bm w7.heap.size (.cells #[.int .i64 y.v, .int .i64 y.i, .int .i64 y.q, .slice Ey y.b.length dy, .slice Fy y.o.length qy] 25 (0, 0)) := Rw.new (.cells #[.int .i64 y.v, .int .i64 y.i, .int .i64 y.q, .slice Ey y.b.length dy, .slice Fy y.o.length qy] 25) HT.out.lt HT.out.nt.lt.2
  have hsa : (w7.alloc (.cells #[.int .i64 y.v, .int .i64 y.i, .int .i64 y.q, .slice Ey y.b.length dy, .slice Fy y.o.length qy] 25)).heap.size = w7.heap.size + 1 := by simp
  obtain ⟨w8, hWa⟩ : ∃ W, w7.alloc (.cells #[.int .i64 y.v, .int .i64 y.i, .int .i64 y.q, .slice Ey y.b.length dy, .slice Fy y.o.length qy] 25) = W := ⟨_, rfl⟩
  rw [hWa] at hba hra hsa ⊢
  have Hs_w8 := Lib.hid hsa
  have Hb_w8 := Lib.hid hba
  have Hry := Lib.hid hra
  clear hWa hra hsa
  replace Hc := Lib.hid (Hc.out.below hba)
  replace Ht := Lib.hid (Ht.out.below hba)
  replace Hrx := Lib.hid (Hrx.out.below hba)
  replace Ha := Lib.hid (Ck.below Ha.out hba)
  replace Hx := Lib.hid (Ck.below Hx.out hba)
  replace Hy := Lib.hid (Ck.below Hy.out hba)
  replace HT := Lib.hid (HT.out.below hba)
  replace HB := Lib.hid (Below.then HB.out hba HB.out.size)
  clear hba
  replace HFx := Lib.hid (HFx.out.sub HUy.out)
  have hK7 : K7.length < 1099511627776 := by omega
  obtain ⟨po1, po2⟩ := pr_ok HFx.out hf hcl.2 hK7
  have pf := pr_form HFx.out hf hK7
  obtain ⟨os1, os2⟩ := open_sealed (K := K7) po1 po2 pf (by omega)
  have HPo := Lib.hid po1
  have HOs := Lib.hid os1
  have HOp := Lib.hid os2
  clear po1 po2 pf os1 os2
  have f_rx0 : w8.cell? ⟨w5.heap.size, 0, none⟩ = some (.int .i64 x.v) := Hrx.out.cell rfl
  have f_rx1 : w8.cell? ⟨w5.heap.size, 1, none⟩ = some (.int .i64 x.i) := Hrx.out.cell rfl
  have f_rx2 : w8.cell? ⟨w5.heap.size, 2, none⟩ = some (.int .i64 x.q) := Hrx.out.cell rfl
  have f_rx3 : w8.cell? ⟨w5.heap.size, 3, none⟩ = some (.slice Ex x.b.length dx) := Hrx.out.cell rfl
  have f_rx4 : w8.cell? ⟨w5.heap.size, 4, none⟩ = some (.slice Fx x.o.length qx) := Hrx.out.cell rfl
  go_upto_region 9 with fail
  clear f_rx0 f_rx1 f_rx2 f_rx3 f_rx4
  have hba := alloc_below w8 (.cells #[.int .i64 x.v, .int .i64 x.i, .int .i64 x.q, .slice Ex x.b.length dx, .slice Fx x.o.length qx] 25)
  have hra : Rw (w8.alloc (.cells #[.int .i64 x.v, .int .i64 x.i, .int .i64 x.q, .slice Ex x.b.length dx, .slice Fx x.o.length qx] 25)) S7 bm w8.heap.size (.cells #[.int .i64 x.v, .int .i64 x.i, .int .i64 x.q, .slice Ex x.b.length dx, .slice Fx x.o.length qx] 25 (0, 0)) := Rw.new (.cells #[.int .i64 x.v, .int .i64 x.i, .int .i64 x.q, .slice Ex x.b.length dx, .slice Fx x.o.length qx] 25) HT.out.lt HT.out.nt.lt.2
  have hsa : (w8.alloc (.cells #[.int .i64 x.v, .int .i64 x.i, .int .i64 x.q, .slice Ex x.b.length dx, .slice Fx x.o.length qx] 25)).heap.size = w8.heap.size + 1 := by simp
  obtain ⟨w9, hWa⟩ : ∃ W, w8.alloc (.cells #[.int .i64 x.v, .int .i64 x.i, .int .i64 x.q, .slice Ex x.b.length dx, .slice Fx x.o.length qx] 25) = W := ⟨_, rfl⟩
  rw [hWa] at hba hra hsa ⊢
  have Hs_w9 := Lib.hid hsa
  have Hb_w9 := Lib.hid hba
  have Hl := Lib.hid hra
  clear hWa hra hsa
  replace Hc := Lib.hid (Hc.out.below hba)
  replace Ht := Lib.hid (Ht.out.below hba)
  replace Hrx := Lib.hid (Hrx.out.below hba)
  replace Hry := Lib.hid (Hry.out.below hba)
  replace Ha := Lib.hid (Ck.below Ha.out hba)
  replace Hx := Lib.hid (Ck.below Hx.out hba)
  replace Hy := Lib.hid (Ck.below Hy.out hba)
  replace HT := Lib.hid (HT.out.below hba)
  replace HB := Lib.hid (Below.then HB.out hba HB.out.size)
  clear hba
  have hba := alloc_below w9 (.cells #[.int .i64 9, .int .i64 1, .int .i64 0, .int .i64 0, .int .i64 0, .int .i64 0, .slice none 0 0, .slice none 0 0, .slice (some ⟨w8.heap.size, 0, none⟩) 1 1, .slice none 0 0] 41)
  have hra : Rw (w9.alloc (.cells #[.int .i64 9, .int .i64 1, .int .i64 0, .int .i64 0, .int .i64 0, .int .i64 0, .slice none 0 0, .slice none 0 0, .slice (some ⟨w8.heap.size, 0, none⟩) 1 1, .slice none 0 0] 41)) S7 bm w9.heap.size (.cells #[.int .i64 9, .int .i64 1, .int .i64 0, .int .i64 0, .int .i64 0, .int .i64 0, .slice none 0 0, .slice none 0 0, .slice (some ⟨w8.heap.size, 0, none⟩) 1 1, .slice none 0 0] 41 (0, 0)) := Rw.new (.cells #[.int .i64 9, .int .i64 1, .int .i64 0, .int .i64 0, .int .i64 0, .int .i64 0, .slice none 0 0, .slice none 0 0, .slice (some ⟨w8.heap.size, 0, none⟩) 1 1, .slice none 0 0] 41) HT.out.lt HT.out.nt.lt.2
  have hsa : (w9.alloc (.cells #[.int .i64 9, .int .i64 1, .int .i64 0, .int .i64 0, .int .i64 0, .int .i64 0, .slice none 0 0, .slice none 0 0, .slice (some ⟨w8.heap.size, 0, none⟩) 1 1, .slice none 0 0] 41)).heap.size = w9.heap.size + 1 := by simp
  obtain ⟨w10, hWa⟩ : ∃ W, w9.alloc (.cells #[.int .i64 9, .int .i64 1, .int .i64 0, .int .i64 0, .int .i64 0, .int .i64 0, .slice none 0 0, .slice none 0 0, .slice (some ⟨w8.heap.size, 0, none⟩) 1 1, .slice none 0 0] 41) = W := ⟨_, rfl⟩
  rw [hWa] at hba hra hsa ⊢
  have Hs_w10 := Lib.hid hsa
  have Hb_w10 := Lib.hid hba
  rw [Hs_w9.out] at hra
  have Hm := Lib.hid hra
  clear hWa hra hsa
  replace Hc := Lib.hid (Hc.out.below hba)
  replace Ht := Lib.hid (Ht.out.below hba)
  replace Hrx := Lib.hid (Hrx.out.below hba)
  replace Hry := Lib.hid (Hry.out.below hba)
  replace Hl := Lib.hid (Hl.out.below hba)
  replace Ha := Lib.hid (Ck.below Ha.out hba)
  replace Hx := Lib.hid (Ck.below Hx.out hba)
  replace Hy := Lib.hid (Ck.below Hy.out hba)
  replace HT := Lib.hid (HT.out.below hba)
  replace HB := Lib.hid (Below.then HB.out hba HB.out.size)
  clear hba
  have HMo : Hid (MsgOk w10 (Off w10 S7 bm) ⟨prM x, .slice none 0 0, .slice none 0 0, .slice (some ⟨w8.heap.size, 0, none⟩) 1 1, .slice none 0 0⟩) := Lib.hid ⟨RdP.none_, RdP.none_, rdC_one (x := ⟨x, .slice Ex x.b.length dx, .slice Fx x.o.length qx⟩) Hl.out Hx.out, RdA.nil⟩
  have f_m0 : w10.cell? ⟨w8.heap.size + 1, 0, none⟩ = some (.int .i64 9) := Hm.out.cell rfl
  have f_m1 : w10.cell? ⟨w8.heap.size + 1, 1, none⟩ = some (.int .i64 1) := Hm.out.cell rfl
  have f_m2 : w10.cell? ⟨w8.heap.size + 1, 2, none⟩ = some (.int .i64 0) := Hm.out.cell rfl
  have f_m3 : w10.cell? ⟨w8.heap.size + 1, 3, none⟩ = some (.int .i64 0) := Hm.out.cell rfl
  have f_m4 : w10.cell? ⟨w8.heap.size + 1, 4, none⟩ = some (.int .i64 0) := Hm.out.cell rfl
  have f_m5 : w10.cell? ⟨w8.heap.size + 1, 5, none⟩ = some (.int .i64 0) := Hm.out.cell rfl
  have f_m6 : w10.cell? ⟨w8.heap.size + 1, 6, none⟩ = some (.slice none 0 0) := Hm.out.cell rfl
  have f_m7 : w10.cell? ⟨w8.heap.size + 1, 7, none⟩ = some (.slice none 0 0) := Hm.out.cell rfl
  have f_m8 : w10.cell? ⟨w8.heap.size + 1, 8, none⟩ = some (.slice (some ⟨w8.heap.size, 0, none⟩) 1 1) := Hm.out.cell rfl
  have f_m9 : w10.cell? ⟨w8.heap.size + 1, 9, none⟩ = some (.slice none 0 0) := Hm.out.cell rfl
  have f_t0 : w10.cell? ⟨w1.heap.size, 0, none⟩ = some (.pointer (some ⟨g, 0, none⟩)) := Ht.out.cell rfl
  go_wp2_with fail
  clear f_m0 f_m1 f_m2 f_m3 f_m4 f_m5 f_m6 f_m7 f_m8 f_m9 f_t0
  refine (seal_m (prM x) _ _ _ _ g bm K7 w10 (HMo.out.keeps (Keeps.mono fun b hb _ => hb)) ⟨by show _ ≤ (1 : Int); omega, by show (1 : Int) ≤ _; omega⟩ HT.out.nt hK7).mono ?_
  rintro e w11 ⟨v, rfl, hv, hN', hF''⟩
  rw [HOs.out] at hv ⊢
  rw [res_yes] at hv
  have hF' : Fp (fun b => S7 b ∨ b = bm) w10 w11 := hF''.mono fun k _ hk => .inr hk
  have hS' : ∀ b, S7 b → S7 b ∨ w10.heap.size ≤ b := fun b hb => .inl hb
  have HN := Lib.hid hN'
  obtain ⟨Bv, cv_, rfl, _, _, _⟩ := own_slice hv
  have HMo2 : Hid (MsgOk w11 (Off w11 S7 bm) ⟨prM x, .slice none 0 0, .slice none 0 0, .slice (some ⟨w8.heap.size, 0, none⟩) 1 1, .slice none 0 0⟩) := Lib.hid (HMo.out.keeps ⟨hF'.size, fun b hP hlt => ⟨hF'.block b hlt (by rintro (hh | hh); exact hP.2.1 hh; exact hP.2.2 hh), hP.seal hF' hS'⟩⟩)
  obtain ⟨bs, hbs⟩ : ∃ bs, Psp.encN (sealN K7 (kM (prM x))) ++ Psp.encM (prM x) = bs := ⟨_, rfl⟩
  rw [hbs] at hv ⊢
  obtain ⟨nb, hnb⟩ : ∃ nb, bs.length = nb := ⟨_, rfl⟩
  have Hv := Lib.hid ((RdP.of_own hv).mono (P' := fun k => k < w11.heap.size) fun b hb _ => hb)
  have hsl : HOp = HOp := rfl
  have HOp2 := HOp.out
  rw [hbs] at HOp2
  have HFk : Hid (∀ n a m', dN bs 0 = some (n, a) → Psp.parseM (bs.drop a.toNat) = some m' → FormOk f cl m') := Lib.hid (by
    rw [← hbs]
    refine open_form HPo.out ?_ (fun vb vo vc vp w P hx hw => form_9 _ vb vo vc vp f cl w P hx hw (may_of hf) rfl)
    have h1 := HOs.out
    unfold okS okE at h1
    simp only [Bool.and_eq_true] at h1
    exact h1.2.1)
  have HOp3 := Lib.hid HOp2
  clear hv hN' hF'' hbs hsl HOp2 HMo HOp hnb
  have HTl := Lib.hid HT.out.lt
  replace Hc := Lib.hid (Hc.out.seal hF' hS')
  replace Ht := Lib.hid (Ht.out.seal hF' hS')
  replace Hrx := Lib.hid (Hrx.out.seal hF' hS')
  replace Hry := Lib.hid (Hry.out.seal hF' hS')
  replace Hl := Lib.hid (Hl.out.seal hF' hS')
  replace Hm := Lib.hid (Hm.out.seal hF' hS')
  replace Ha := Lib.hid (Ck.seal Ha.out hF' hS')
  replace Hx := Lib.hid (Ck.seal Hx.out hF' hS')
  replace Hy := Lib.hid (Ck.seal Hy.out hF' hS')
  have hzb := HB.out.size
  replace HB := Lib.hid (HB.out.trans (hF'.to_below (B := w.heap.size) hzb (fun k hk hh => by rcases hh with hh | hh; (have := HSn.out k hh; omega); omega)))
  have hz11 := hF'.size
  have hgl := HN.out.lt
  have HSl : Hid (∀ b, S7 b → b < w11.heap.size) := Lib.hid fun b hb => by have := HT.out.lt b hb; omega
  clear hzb hF' hS' HTl HT
  have f_t0 : w11.cell? ⟨w1.heap.size, 0, none⟩ = some (.pointer (some ⟨g, 0, none⟩)) := Ht.out.cell rfl
  go_wp2_with fail
  clear f_t0
  refine (open_m bs _ f cl g bm (sealK K7 (prM x)) w11 Hv.out HN.out HFk.out).mono ?_
  rintro e w12 ⟨h1, -, hb12⟩
  obtain ⟨vb, vo, vc, vp, rfl, hmx⟩ := h1 _ _ HOp3.out
  obtain ⟨Gb, Go_, Gc, Gp, gb, go_, gc, gp, rfl, rfl, rfl, rfl⟩ := msg_slices hmx
  have HMx := Lib.hid hmx
  have HMo3 : Hid (MsgOk w12 (Off w12 S7 bm) ⟨prM x, .slice none 0 0, .slice none 0 0, .slice (some ⟨w8.heap.size, 0, none⟩) 1 1, .slice none 0 0⟩) := Lib.hid (HMo2.out.keeps ⟨hb12.size, fun b hP hlt => ⟨hb12.block b hlt, hP.below hb12⟩⟩)
  replace HN := Lib.hid (HN.out.below hb12)
  replace HSl : Hid (∀ b, S7 b → b < w12.heap.size) := Lib.hid fun b hb => by have := HSl.out b hb; have := hb12.size; omega
  clear h1 hmx HMo2 Hv
  replace Hc := Lib.hid (Hc.out.below hb12)
  replace Ht := Lib.hid (Ht.out.below hb12)
  replace Hrx := Lib.hid (Hrx.out.below hb12)
  replace Hry := Lib.hid (Hry.out.below hb12)
  replace Hl := Lib.hid (Hl.out.below hb12)
  replace Hm := Lib.hid (Hm.out.below hb12)
  replace Ha := Lib.hid (Ck.below Ha.out hb12)
  replace Hx := Lib.hid (Ck.below Hx.out hb12)
  replace Hy := Lib.hid (Ck.below Hy.out hb12)
  replace HB := Lib.hid (Below.then HB.out hb12 HB.out.size)
  clear hb12
  go_upto_region 11 with fail
  have hba := alloc_below w12 (.cells #[.int .i64 (prM x).k, .int .i64 (prM x).f, .int .i64 (prM x).v, .int .i64 (prM x).i, .int .i64 (prM x).q, .int .i64 (prM x).r, .slice Gb (prM x).b.length gb, .slice Go_ (prM x).o.length go_, .slice Gc (prM x).c.length gc, .slice Gp (prM x).p.length gp] 41)
  have hra : Rw (w12.alloc (.cells #[.int .i64 (prM x).k, .int .i64 (prM x).f, .int .i64 (prM x).v, .int .i64 (prM x).i, .int .i64 (prM x).q, .int .i64 (prM x).r, .slice Gb (prM x).b.length gb, .slice Go_ (prM x).o.length go_, .slice Gc (prM x).c.length gc, .slice Gp (prM x).p.length gp] 41)) S7 bm w12.heap.size (.cells #[.int .i64 (prM x).k, .int .i64 (prM x).f, .int .i64 (prM x).v, .int .i64 (prM x).i, .int .i64 (prM x).q, .int .i64 (prM x).r, .slice Gb (prM x).b.length gb, .slice Go_ (prM x).o.length go_, .slice Gc (prM x).c.length gc, .slice Gp (prM x).p.length gp] 41 (0, 0)) := Rw.new (.cells #[.int .i64 (prM x).k, .int .i64 (prM x).f, .int .i64 (prM x).v, .int .i64 (prM x).i, .int .i64 (prM x).q, .int .i64 (prM x).r, .slice Gb (prM x).b.length gb, .slice Go_ (prM x).o.length go_, .slice Gc (prM x).c.length gc, .slice Gp (prM x).p.length gp] 41) HSl.out HN.out.lt.2
  have hsa : (w12.alloc (.cells #[.int .i64 (prM x).k, .int .i64 (prM x).f, .int .i64 (prM x).v, .int .i64 (prM x).i, .int .i64 (prM x).q, .int .i64 (prM x).r, .slice Gb (prM x).b.length gb, .slice Go_ (prM x).o.length go_, .slice Gc (prM x).c.length gc, .slice Gp (prM x).p.length gp] 41)).heap.size = w12.heap.size + 1 := by simp
  obtain ⟨w13, hWa⟩ : ∃ W, w12.alloc (.cells #[.int .i64 (prM x).k, .int .i64 (prM x).f, .int .i64 (prM x).v, .int .i64 (prM x).i, .int .i64 (prM x).q, .int .i64 (prM x).r, .slice Gb (prM x).b.length gb, .slice Go_ (prM x).o.length go_, .slice Gc (prM x).c.length gc, .slice Gp (prM x).p.length gp] 41) = W := ⟨_, rfl⟩
  rw [hWa] at hba hra hsa ⊢
  have Hs_w13 := Lib.hid hsa
  have Hb_w13 := Lib.hid hba
  have Hu := Lib.hid hra
  clear hWa hra hsa
  replace Hc := Lib.hid (Hc.out.below hba)
  replace Ht := Lib.hid (Ht.out.below hba)
  replace Hrx := Lib.hid (Hrx.out.below hba)
  replace Hry := Lib.hid (Hry.out.below hba)
  replace Hl := Lib.hid (Hl.out.below hba)
  replace Hm := Lib.hid (Hm.out.below hba)
  replace Ha := Lib.hid (Ck.below Ha.out hba)
  replace Hx := Lib.hid (Ck.below Hx.out hba)
  replace Hy := Lib.hid (Ck.below Hy.out hba)
  replace HN := Lib.hid (HN.out.below hba)
  replace HB := Lib.hid (Below.then HB.out hba HB.out.size)
  clear hba
  have hkx := sealK_len K7 (prM x)
  obtain ⟨K', hK'⟩ : ∃ K', sealK K7 (prM x) = K' := ⟨_, rfl⟩
  have hsub := sub_sealK K7 (prM x)
  rw [hK'] at HN hkx hsub
  have hK'l : K'.length < 1099511627776 := by omega
  replace HFx := Lib.hid (HFx.out.sub hsub)
  replace HFy := Lib.hid (HFy.out.sub hsub)
  have hxb := HFx.out.sb
  have hyb := HFy.out.sb
  have C1 : Hid (certifiedB K' 5 x f cl = true) := Lib.hid (HFx.out.certified hcl.2 hK'l)
  have C2 : Hid (certifiedB K' 4 y f cl = true) := Lib.hid (HFy.out.certified hcl.2 hK'l)
  have C3 : Hid (certifiedB K' 5 y f cl = false) := Lib.hid (certified_no (HFy.out.other hf (by decide)))
  have C4 : Hid (certifiedB K' 4 x f cl = false) := Lib.hid (certified_no (HFx.out.other hf (by decide)))
  have Wx := Lib.hid (HFx.out.wf hf.2 hcl.2 hK'l)
  have Wy := Lib.hid (HFy.out.wf hf.2 hcl.2 hK'l)
  replace HSl : Hid (∀ b, S7 b → b < w13.heap.size) := Lib.hid fun b hb => by have := HSl.out b hb; have := Hs_w13.out; omega
  clear hK' hkx hsub
  have f_u0 : w13.cell? ⟨w12.heap.size, 0, none⟩ = some (.int .i64 (prM x).k) := Hu.out.cell rfl
  have f_u1 : w13.cell? ⟨w12.heap.size, 1, none⟩ = some (.int .i64 (prM x).f) := Hu.out.cell rfl
  have f_u2 : w13.cell? ⟨w12.heap.size, 2, none⟩ = some (.int .i64 (prM x).v) := Hu.out.cell rfl
  have f_u3 : w13.cell? ⟨w12.heap.size, 3, none⟩ = some (.int .i64 (prM x).i) := Hu.out.cell rfl
  have f_u4 : w13.cell? ⟨w12.heap.size, 4, none⟩ = some (.int .i64 (prM x).q) := Hu.out.cell rfl
  have f_u5 : w13.cell? ⟨w12.heap.size, 5, none⟩ = some (.int .i64 (prM x).r) := Hu.out.cell rfl
  have f_u6 : w13.cell? ⟨w12.heap.size, 6, none⟩ = some (.slice Gb (prM x).b.length gb) := Hu.out.cell rfl
  have f_u7 : w13.cell? ⟨w12.heap.size, 7, none⟩ = some (.slice Go_ (prM x).o.length go_) := Hu.out.cell rfl
  have f_u8 : w13.cell? ⟨w12.heap.size, 8, none⟩ = some (.slice Gc (prM x).c.length gc) := Hu.out.cell rfl
  have f_u9 : w13.cell? ⟨w12.heap.size, 9, none⟩ = some (.slice Gp (prM x).p.length gp) := Hu.out.cell rfl
  have f_m0 : w13.cell? ⟨w8.heap.size + 1, 0, none⟩ = some (.int .i64 9) := Hm.out.cell rfl
  have f_m1 : w13.cell? ⟨w8.heap.size + 1, 1, none⟩ = some (.int .i64 1) := Hm.out.cell rfl
  have f_m2 : w13.cell? ⟨w8.heap.size + 1, 2, none⟩ = some (.int .i64 0) := Hm.out.cell rfl
  have f_m3 : w13.cell? ⟨w8.heap.size + 1, 3, none⟩ = some (.int .i64 0) := Hm.out.cell rfl
  have f_m4 : w13.cell? ⟨w8.heap.size + 1, 4, none⟩ = some (.int .i64 0) := Hm.out.cell rfl
  have f_m5 : w13.cell? ⟨w8.heap.size + 1, 5, none⟩ = some (.int .i64 0) := Hm.out.cell rfl
  have f_m6 : w13.cell? ⟨w8.heap.size + 1, 6, none⟩ = some (.slice none 0 0) := Hm.out.cell rfl
  have f_m7 : w13.cell? ⟨w8.heap.size + 1, 7, none⟩ = some (.slice none 0 0) := Hm.out.cell rfl
  have f_m8 : w13.cell? ⟨w8.heap.size + 1, 8, none⟩ = some (.slice (some ⟨w8.heap.size, 0, none⟩) 1 1) := Hm.out.cell rfl
  have f_m9 : w13.cell? ⟨w8.heap.size + 1, 9, none⟩ = some (.slice none 0 0) := Hm.out.cell rfl
  go_wp2_with fail
  clear f_u0 f_u1 f_u2 f_u3 f_u4 f_u5 f_u6 f_u7 f_u8 f_u9 f_m0 f_m1 f_m2 f_m3 f_m4 f_m5 f_m6 f_m7 f_m8 f_m9
  refine (msg_same_yes (prM x) (prM x) _ _ _ _ _ _ _ _ w13 _ _ (HMx.out.keeps ⟨by have := Hs_w13.out; omega, fun b hb hlt => ⟨(Hb_w13.out.block b hlt), hb⟩⟩) (HMo3.out.keeps ⟨by have := Hs_w13.out; omega, fun b hb hlt => ⟨(Hb_w13.out.block b hlt), hb⟩⟩) rfl).mono ?_
  rintro e w14 ⟨rfl, hb14⟩
  replace Hc := Lib.hid (Hc.out.below hb14)
  replace Ht := Lib.hid (Ht.out.below hb14)
  replace Hrx := Lib.hid (Hrx.out.below hb14)
  replace Hry := Lib.hid (Hry.out.below hb14)
  replace Hl := Lib.hid (Hl.out.below hb14)
  replace Hm := Lib.hid (Hm.out.below hb14)
  replace Hu := Lib.hid (Hu.out.below hb14)
  replace Ha := Lib.hid (Ck.below Ha.out hb14)
  replace Hx := Lib.hid (Ck.below Hx.out hb14)
  replace Hy := Lib.hid (Ck.below Hy.out hb14)
  replace HN := Lib.hid (HN.out.below hb14)
  replace HB := Lib.hid (Below.then HB.out hb14 HB.out.size)
  clear hb14
  have f_rx0 : w14.cell? ⟨w5.heap.size, 0, none⟩ = some (.int .i64 x.v) := Hrx.out.cell rfl
  have f_rx1 : w14.cell? ⟨w5.heap.size, 1, none⟩ = some (.int .i64 x.i) := Hrx.out.cell rfl
  have f_rx2 : w14.cell? ⟨w5.heap.size, 2, none⟩ = some (.int .i64 x.q) := Hrx.out.cell rfl
  have f_rx3 : w14.cell? ⟨w5.heap.size, 3, none⟩ = some (.slice Ex x.b.length dx) := Hrx.out.cell rfl
  have f_rx4 : w14.cell? ⟨w5.heap.size, 4, none⟩ = some (.slice Fx x.o.length qx) := Hrx.out.cell rfl
  have f_t0 : w14.cell? ⟨w1.heap.size, 0, none⟩ = some (.pointer (some ⟨g, 0, none⟩)) := Ht.out.cell rfl
  go_wp2_with fail
  clear f_rx0 f_rx1 f_rx2 f_rx3 f_rx4 f_t0
  refine (certified_m 5 x _ _ f cl g bm K' w14 _ Hx.out Wx.out HN.out (by omega)).mono ?_
  rw [C1.out]
  rintro e w15 ⟨rfl, hb15⟩
  replace Hc := Lib.hid (Hc.out.below hb15)
  replace Ht := Lib.hid (Ht.out.below hb15)
  replace Hrx := Lib.hid (Hrx.out.below hb15)
  replace Hry := Lib.hid (Hry.out.below hb15)
  replace Hl := Lib.hid (Hl.out.below hb15)
  replace Hm := Lib.hid (Hm.out.below hb15)
  replace Hu := Lib.hid (Hu.out.below hb15)
  replace Ha := Lib.hid (Ck.below Ha.out hb15)
  replace Hx := Lib.hid (Ck.below Hx.out hb15)
  replace Hy := Lib.hid (Ck.below Hy.out hb15)
  replace HN := Lib.hid (HN.out.below hb15)
  replace HB := Lib.hid (Below.then HB.out hb15 HB.out.size)
  clear hb15
  have f_ry0 : w15.cell? ⟨w7.heap.size, 0, none⟩ = some (.int .i64 y.v) := Hry.out.cell rfl
  have f_ry1 : w15.cell? ⟨w7.heap.size, 1, none⟩ = some (.int .i64 y.i) := Hry.out.cell rfl
  have f_ry2 : w15.cell? ⟨w7.heap.size, 2, none⟩ = some (.int .i64 y.q) := Hry.out.cell rfl
  have f_ry3 : w15.cell? ⟨w7.heap.size, 3, none⟩ = some (.slice Ey y.b.length dy) := Hry.out.cell rfl
  have f_ry4 : w15.cell? ⟨w7.heap.size, 4, none⟩ = some (.slice Fy y.o.length qy) := Hry.out.cell rfl
  have f_t0 : w15.cell? ⟨w1.heap.size, 0, none⟩ = some (.pointer (some ⟨g, 0, none⟩)) := Ht.out.cell rfl
  go_wp2_with fail
  clear f_ry0 f_ry1 f_ry2 f_ry3 f_ry4 f_t0
  refine (certified_m 4 y _ _ f cl g bm K' w15 _ Hy.out Wy.out HN.out (by omega)).mono ?_
  rw [C2.out]
  rintro e w16 ⟨rfl, hb16⟩
  replace Hc := Lib.hid (Hc.out.below hb16)
  replace Ht := Lib.hid (Ht.out.below hb16)
  replace Hrx := Lib.hid (Hrx.out.below hb16)
  replace Hry := Lib.hid (Hry.out.below hb16)
  replace Hl := Lib.hid (Hl.out.below hb16)
  replace Hm := Lib.hid (Hm.out.below hb16)
  replace Hu := Lib.hid (Hu.out.below hb16)
  replace Ha := Lib.hid (Ck.below Ha.out hb16)
  replace Hx := Lib.hid (Ck.below Hx.out hb16)
  replace Hy := Lib.hid (Ck.below Hy.out hb16)
  replace HN := Lib.hid (HN.out.below hb16)
  replace HB := Lib.hid (Below.then HB.out hb16 HB.out.size)
  clear hb16
  have f_ry0 : w16.cell? ⟨w7.heap.size, 0, none⟩ = some (.int .i64 y.v) := Hry.out.cell rfl
  have f_ry1 : w16.cell? ⟨w7.heap.size, 1, none⟩ = some (.int .i64 y.i) := Hry.out.cell rfl
  have f_ry2 : w16.cell? ⟨w7.heap.size, 2, none⟩ = some (.int .i64 y.q) := Hry.out.cell rfl
  have f_ry3 : w16.cell? ⟨w7.heap.size, 3, none⟩ = some (.slice Ey y.b.length dy) := Hry.out.cell rfl
  have f_ry4 : w16.cell? ⟨w7.heap.size, 4, none⟩ = some (.slice Fy y.o.length qy) := Hry.out.cell rfl
  have f_t0 : w16.cell? ⟨w1.heap.size, 0, none⟩ = some (.pointer (some ⟨g, 0, none⟩)) := Ht.out.cell rfl
  go_wp2_with fail
  clear f_ry0 f_ry1 f_ry2 f_ry3 f_ry4 f_t0
  refine (certified_m 5 y _ _ f cl g bm K' w16 _ Hy.out Wy.out HN.out (by omega)).mono ?_
  rw [C3.out]
  rintro e w17 ⟨rfl, hb17⟩
  replace Hc := Lib.hid (Hc.out.below hb17)
  replace Ht := Lib.hid (Ht.out.below hb17)
  replace Hrx := Lib.hid (Hrx.out.below hb17)
  replace Hry := Lib.hid (Hry.out.below hb17)
  replace Hl := Lib.hid (Hl.out.below hb17)
  replace Hm := Lib.hid (Hm.out.below hb17)
  replace Hu := Lib.hid (Hu.out.below hb17)
  replace Ha := Lib.hid (Ck.below Ha.out hb17)
  replace Hx := Lib.hid (Ck.below Hx.out hb17)
  replace Hy := Lib.hid (Ck.below Hy.out hb17)
  replace HN := Lib.hid (HN.out.below hb17)
  replace HB := Lib.hid (Below.then HB.out hb17 HB.out.size)
  clear hb17
  have f_rx0 : w17.cell? ⟨w5.heap.size, 0, none⟩ = some (.int .i64 x.v) := Hrx.out.cell rfl
  have f_rx1 : w17.cell? ⟨w5.heap.size, 1, none⟩ = some (.int .i64 x.i) := Hrx.out.cell rfl
  have f_rx2 : w17.cell? ⟨w5.heap.size, 2, none⟩ = some (.int .i64 x.q) := Hrx.out.cell rfl
  have f_rx3 : w17.cell? ⟨w5.heap.size, 3, none⟩ = some (.slice Ex x.b.length dx) := Hrx.out.cell rfl
  have f_rx4 : w17.cell? ⟨w5.heap.size, 4, none⟩ = some (.slice Fx x.o.length qx) := Hrx.out.cell rfl
  have f_t0 : w17.cell? ⟨w1.heap.size, 0, none⟩ = some (.pointer (some ⟨g, 0, none⟩)) := Ht.out.cell rfl
  go_wp2_with fail
  clear f_rx0 f_rx1 f_rx2 f_rx3 f_rx4 f_t0
  refine (certified_m 4 x _ _ f cl g bm K' w17 _ Hx.out Wx.out HN.out (by omega)).mono ?_
  rw [C4.out]
  rintro e w18 ⟨rfl, hb18⟩
  replace Hc := Lib.hid (Hc.out.below hb18)
  replace Ht := Lib.hid (Ht.out.below hb18)
  replace Hrx := Lib.hid (Hrx.out.below hb18)
  replace Hry := Lib.hid (Hry.out.below hb18)
  replace Hl := Lib.hid (Hl.out.below hb18)
  replace Hm := Lib.hid (Hm.out.below hb18)
  replace Hu := Lib.hid (Hu.out.below hb18)
  replace Ha := Lib.hid (Ck.below Ha.out hb18)
  replace Hx := Lib.hid (Ck.below Hx.out hb18)
  replace Hy := Lib.hid (Ck.below Hy.out hb18)
  replace HN := Lib.hid (HN.out.below hb18)
  replace HB := Lib.hid (Below.then HB.out hb18 HB.out.size)
  clear hb18
  go_wp2_with fail
  refine (wakes06 _).mono ?_
  rintro e w19 ⟨rfl, hb19⟩
  go_wp2_with fail
  go_ret
  exact ⟨rfl, Below.then HB.out hb19 HB.out.size⟩
end Go.Proofs.YtadpkjgjciodnaaGreat.msgsProofs
