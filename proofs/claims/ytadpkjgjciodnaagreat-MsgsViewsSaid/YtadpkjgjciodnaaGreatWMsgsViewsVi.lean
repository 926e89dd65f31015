/- The walk of MsgsViews. Printed by gen_wviews.py. -/
import Derived.Test.YtadpkjgjciodnaaGreatRwVi
import Derived.Test.YtadpkjgjciodnaaGreatJ24Vi
import Derived.Test.YtadpkjgjciodnaaGreatFq8Vi
import Derived.Test.YtadpkjgjciodnaaGreatCpoVi
import Derived.Test.YtadpkjgjciodnaaGreatVweVi
import Derived.Deep.CutBlock
import Derived.Test.YtadpkjgjciodnaaGreatVwnVi
import Derived.Test.YtadpkjgjciodnaaGreatCtVi
import Derived.Test.YtadpkjgjciodnaaGreatVwdVi
import Derived.Test.YtadpkjgjciodnaaGreatCpyVi
namespace Go.Proofs.YtadpkjgjciodnaaGreat.msgsViews
open Go.RowKit
set_option linter.unusedVariables false
set_option linter.unusedSimpArgs false

set_option maxRecDepth 100000 in
set_option maxHeartbeats 16000000 in
theorem walk (v : Value) (l : List Psp.Cert) (f0 cl0 view0 from0 skip turn : Int) (w : World) (hx : RdC w (fun b => b < w.heap.size) v l) (hwl : ∀ c ∈ l, wfCert c) (hf0 : isI64 f0) (hcl0 : isI64 cl0) (hv0 : isI64 view0) (hfr0 : isI64 from0) (hsk : isI64 skip) (htu : isI64 turn) :
    Calls Tryz.prog 7 #[v, .int .i64 f0, .int .i64 cl0, .int .i64 view0, .int .i64 from0, .int .i64 skip, .int .i64 turn] w fun e w' => e = .returned (.bool true) ∧ Below w.heap.size w w' := by
  obtain ⟨L0, rfl, hrl, hrc⟩ := hx
  obtain ⟨hll, Al, cl_, rfl, hlc, hlm, _⟩ := id hrl
  have HRL := Lib.hid hrl
  have HRC := Lib.hid hrc
  have Hwl := Lib.hid hwl
  have fw0 := Psp.within_lo f0 4
  have fw1 := Psp.within_hi f0 4 (by omega)
  have gw0 := Psp.within_lo f0 2
  have gw1 := Psp.within_hi f0 2 (by omega)
  have cw0 := Psp.within_lo cl0 4
  have cw1 := Psp.within_hi cl0 4 (by omega)
  have vw0 := Psp.within_lo view0 12
  have vw1 := Psp.within_hi view0 12 (by omega)
  have hwf : IntKind.i64.wrap (1 + Psp.within f0 2) = 1 + Psp.within f0 2 := IntWalk.i64_in _ (by omega)
  have hwc : IntKind.i64.wrap (1 + Psp.within cl0 4) = 1 + Psp.within cl0 4 := IntWalk.i64_in _ (by omega)
  have hwv : IntKind.i64.wrap (1 + Psp.within view0 12) = 1 + Psp.within view0 12 := IntWalk.i64_in _ (by omega)
  clear hrl hrc hwl
  go_enter Tryz.func7, Tryz.ntmps7
  go_upto_region 2 with (go_at_call 8; refine (within_i _ _ _ (by first | assumption | exact ⟨by omega, by omega⟩) (by exact ⟨by omega, by omega⟩)).mono ?_; rintro e w' ⟨rfl, rfl⟩)
  clear hwf hwc hwv
  obtain ⟨f, hfx⟩ : ∃ f, 1 + Psp.within f0 2 = f := ⟨_, rfl⟩
  obtain ⟨cl, hclx⟩ : ∃ cl, 1 + Psp.within cl0 4 = cl := ⟨_, rfl⟩
  obtain ⟨view, hvx⟩ : ∃ view, 1 + Psp.within view0 12 = view := ⟨_, rfl⟩
  rw [hfx, hclx, hvx]
  have hf2 : 1 ≤ f ∧ f ≤ 2 := ⟨by omega, by omega⟩
  have hf : 1 ≤ f ∧ f ≤ 4 := ⟨by omega, by omega⟩
  have hcl : 1 ≤ cl ∧ cl ≤ 4 := ⟨by omega, by omega⟩
  have hv : 1 ≤ view ∧ view ≤ 12 := ⟨by omega, by omega⟩
  clear hfx hclx hvx fw0 fw1 cw0 cw1 vw0 vw1 gw0 gw1
  go_wp2_with fail
  refine (begin_m w).mono ?_
  rintro e w1 ⟨g, bm, h, rfl, hT, hb1, hg1, hg2, hg3⟩
  have hbmw : w.heap.size ≤ bm := by omega
  have HT := Lib.hid hT
  have HB := Lib.hid hb1
  have HSn : Hid (∀ b, (fun b => b = h) b → w.heap.size ≤ b) := Lib.hid fun b hb => by have hb : b = h := hb; omega
  clear hb1 hT
  go_upto_region 3 with fail
  have hba := alloc_below w1 (.cells #[.pointer (some ⟨g, 0, none⟩), .pointer (some ⟨h, 0, none⟩)] 30)
  have hra : Rw (w1.alloc (.cells #[.pointer (some ⟨g, 0, none⟩), .pointer (some ⟨h, 0, none⟩)] 30)) (fun b => b = h) bm w1.heap.size (.cells #[.pointer (some ⟨g, 0, none⟩), .pointer (some ⟨h, 0, none⟩)] 30 (0, 0)) := Rw.new (.cells #[.pointer (some ⟨g, 0, none⟩), .pointer (some ⟨h, 0, none⟩)] 30) HT.out.lt HT.out.nt.lt.2
  have hsa : (w1.alloc (.cells #[.pointer (some ⟨g, 0, none⟩), .pointer (some ⟨h, 0, none⟩)] 30)).heap.size = w1.heap.size + 1 := by simp
  obtain ⟨w2, hWa⟩ : ∃ W_, w1.alloc (.cells #[.pointer (some ⟨g, 0, none⟩), .pointer (some ⟨h, 0, none⟩)] 30) = W_ := ⟨_, rfl⟩
  rw [hWa] at hba hra hsa ⊢
  have Hs_w2 := Lib.hid hsa
  have Hb_w2 := Lib.hid hba
  have Ht := Lib.hid hra
  clear hWa hra hsa
  replace HT := Lib.hid (HT.out.below hba)
  replace HB := Lib.hid (Below.then HB.out hba HB.out.size)
  clear hba
  go_upto_block 0 with fail
  obtain ⟨lc, hlc0⟩ : ∃ lc, L0.map (·.c) = lc := ⟨_, rfl⟩
  have hlcl : lc.length = L0.length := by rw [← hlc0, List.length_map]
  have Hlc0 := Lib.hid hlc0
  have Hwc : Hid (∀ c ∈ lc, wfCert c) := Lib.hid (by rw [← hlc0]; exact Hwl.out)
  have hz12 : w1.heap.size < w2.heap.size := Ht.out.lt
  have hgz : g < w2.heap.size := HT.out.nt.lt.1
  have hzw2 : w.heap.size ≤ w2.heap.size := HB.out.size
  clear hlc0
  go_cut [17, 18, 19] from 47 to 81 (fun out i_ c_ wx => ∃ (L : List CertV) (K : List Key) (c : Nat) (A : Option Addr) (S' : Nat → Prop), out = .slice A L.length c ∧ Hid (CL K f cl view (L.map (·.c))) ∧ K.length ≤ 48 ∧ Hid (Tw wx S' g bm h K) ∧ Hid (∀ b, S' b → w.heap.size ≤ b) ∧ Hid (Below w.heap.size w wx) ∧ Hid (Rw wx S' bm w1.heap.size (.cells #[.pointer (some ⟨g, 0, none⟩), .pointer (some ⟨h, 0, none⟩)] 30 (0, 0))) ∧ Hid (Cs wx S' bm wx.heap.size out (L.map (·.c))))
  case first =>
    go_wp2_with fail
    go_loopw [17, 18] (fun out i wr => ∃ (k : Nat) (L : List CertV) (c : Nat) (A : Option Addr) (S' : Nat → Prop), i = .int .i64 (k : Int) ∧ k ≤ 4 ∧ k ≤ L0.length ∧ out = .slice A k c ∧ L.length = k ∧ Hid (L.map (·.c) = (cts [] f cl view skip lc k).1) ∧ Hid (Tw wr S' g bm h (cts [] f cl view skip lc k).2) ∧ Hid (∀ b, S' b → w.heap.size ≤ b) ∧ Hid (Below w.heap.size w wr) ∧ Hid (Rw wr S' bm w1.heap.size (.cells #[.pointer (some ⟨g, 0, none⟩), .pointer (some ⟨h, 0, none⟩)] 30 (0, 0))) ∧ w2.heap.size ≤ wr.heap.size ∧ Hid (Cg wr S' bm w2.heap.size L out)) (fun _ i _ => 4 - (intOf i).toNat)
    case atStart => exact ⟨0, [], 0, none, _, rfl, by omega, Nat.zero_le _, rfl, rfl, Lib.hid rfl, HT, HSn, HB, Ht, Nat.le_refl _, Lib.hid Cg.nil⟩
    case round =>
      clear HT HSn HB Ht
      obtain ⟨k, L, c, A, S', rfl, hk4, hkl, rfl, hLk, HLc, HT, HSn, HB, Ht, hwr2, HG⟩ := hrel
      by_cases hlt : k < L0.length
      case neg =>
        have hd1 : decide ((k : Int) < (L0.length : Int)) = false := by simp; omega
        have HLk := Lib.hid hLk
        go_wp2_with fail
        go_meet
        have hcl_ := cts_cl (K := []) (skip := skip) (l := lc) hf hcl hv (by simp) k (by omega) hk4
        refine ⟨L, _, c, A, S', by rw [HLk.out], Lib.hid ?_, ?_, HT, HSn, HB, Ht, Lib.hid (Cs.of HG.out.rd)⟩
        · rw [HLc.out]; exact hcl_.1
        · have := hcl_.2.2.1; simp only [List.length_nil] at this; omega
      by_cases hlt4 : k < 4
      case neg =>
        have hd1 : decide ((k : Int) < (L0.length : Int)) = true := by simp; omega
        have hd2 : decide ((k : Int) < 4) = false := by simp; omega
        have HLk := Lib.hid hLk
        go_wp2_with fail
        go_meet
        have hcl_ := cts_cl (K := []) (skip := skip) (l := lc) hf hcl hv (by simp) k (by omega) hk4
        refine ⟨L, _, c, A, S', by rw [HLk.out], Lib.hid ?_, ?_, HT, HSn, HB, Ht, Lib.hid (Cs.of HG.out.rd)⟩
        · rw [HLc.out]; exact hcl_.1
        · have := hcl_.2.2.1; simp only [List.length_nil] at this; omega
      have hd1 : decide ((k : Int) < (L0.length : Int)) = true := by simp; omega
      have hd2 : decide ((k : Int) < 4) = true := by simp; omega
      have kb0 : (0 : Int) ≤ (k : Int) := by omega
      have kb1 : (k : Int) < (L0.length : Int) := by omega
      obtain ⟨hxl, A_, c_, e_, hx1, hx2, hxc⟩ := HRL.out.parts
      injection e_ with e1 _ e3
      subst e1 e3
      obtain ⟨b1, o1, hA1, hP1, hb1, h1⟩ := hxc (by omega)
      subst hA1
      have r1 := range_keep (range_elem (f := cv) (k := 5) (fun _ => rfl) h1 hlt) (HB.out.block b1 hb1)
      have hok1 : CertOk wr (fun b => b < w.heap.size) L0[k] := (HRC.out _ (List.getElem_mem hlt)).keeps (Keeps.below (w := w) (w' := wr) HB.out)
      have hlcg : lc[k]? = some L0[k].c := by rw [← Hlc0.out, List.getElem?_map, List.getElem?_eq_getElem hlt]; rfl
      obtain ⟨t, ht⟩ : ∃ t, L0[k] = t := ⟨_, rfl⟩
      rw [ht] at r1 hok1 hlcg
      obtain ⟨a0, vb, vo⟩ := t
      obtain ⟨_, Ab, cb, e1, _, _, _⟩ := hok1.1.parts
      obtain ⟨_, Ao, co, e2, _, _, _⟩ := hok1.2.parts
      dsimp only at e1 e2 hlcg
      subst e1 e2
      have Hok := Lib.hid hok1
      have Hlcg := Lib.hid hlcg
      have hwa : wfCert a0 := Hwc.out _ (List.mem_of_getElem? hlcg)
      have x0 := r1 0 _ rfl
      have x1 := r1 1 _ rfl
      have x2 := r1 2 _ rfl
      have x3 := r1 3 _ rfl
      have x4 := r1 4 _ rfl
      simp only [Nat.add_zero, iv] at x0 x1 x2 x3 x4
      clear r1 h1 ht hok1 hlcg hxl hxc hx1 hx2
      go_wp2_with fail
      clear x0 x1 x2 x3 x4
      refine (cut_m a0 Ab Ao cb co f cl wr _ Hok.out hwa hf hcl).mono ?_
      rintro e w3 ⟨B1, n1, d1, rfl, hn1, hO1, hb3⟩
      obtain ⟨a, ha⟩ : ∃ a, Psp.cutC a0 f cl = a := ⟨_, rfl⟩
      have hco : (Psp.cutC a0 f cl).o = a0.o := rfl
      rw [ha] at hn1 hO1 hco ⊢
      subst hn1
      have hl2 := HB.out.size
      have hw3 := hb3.size
      have hw3k := hb3.size
      have Ha : Hid (CertOk w3 (fun b => Off w3 S' bm b ∧ (Value.slice A k c).ownBlock ≠ some b) ⟨a, .slice B1 a.b.length d1, .slice Ao a.o.length co⟩) := Lib.hid ⟨(RdP.of_own hO1).mono fun b hb hPb => ⟨⟨hb, fun hh => by have := hPb.2; have := HT.out.lt b hh; omega, by have := hPb.2; have := HT.out.nt.lt.2; omega⟩, fun he => by have := hPb.2; have := (HG.out.own.lt b he).2; omega⟩, by
        rw [hco]
        exact RdP.keeps Hok.out.2 ⟨hw3, fun b hb hlt => ⟨hb3.block b hlt, ⟨by omega, fun hh => by have := HSn.out b hh; omega, by omega⟩, fun he => by have := (HG.out.own.lt b he).1; omega⟩⟩⟩
      have Hcut := Lib.hid ha
      rw [← hco]
      clear hco hO1 hl2 hw3 ha
      replace Ht := Lib.hid (Ht.out.below hb3)
      replace HG := Lib.hid (HG.out.below hb3)
      replace HT := Lib.hid (HT.out.below hb3)
      replace HB := Lib.hid (Below.then HB.out hb3 HB.out.size)
      clear hb3
      go_upto_region 10 with fail
      have hvz : ¬ view = 0 := by omega
      have hmul : IntKind.i64.wrap (2 * (k : Int)) = 2 * (k : Int) := IntWalk.i64_in _ (by omega)
      have hadd : IntKind.i64.wrap (1 + 2 * (k : Int)) = 1 + 2 * (k : Int) := IntWalk.i64_in _ (by omega)
      have htm : a.v.tmod view = a.v % view := Int.tmod_eq_emod_of_nonneg (by have := (cutC_is hf hcl.1 a0).pl.1.1; rw [Hcut.out] at this; exact this)
      have hba := alloc_below w3 (.cells #[.int .i64 a.v, .int .i64 a.i, .int .i64 a.q, .slice B1 a.b.length d1, .slice Ao a.o.length co] 25)
      have hra := heap_alloc_new w3 (.cells #[.int .i64 a.v, .int .i64 a.i, .int .i64 a.q, .slice B1 a.b.length d1, .slice Ao a.o.length co] 25)
      have hia : ∀ j, (w3.alloc (.cells #[.int .i64 a.v, .int .i64 a.i, .int .i64 a.q, .slice B1 a.b.length d1, .slice Ao a.o.length co] 25)).frozen? ⟨w3.heap.size, j, none⟩ = false := fun j => by have h : Rw (w3.alloc (.cells #[.int .i64 a.v, .int .i64 a.i, .int .i64 a.q, .slice B1 a.b.length d1, .slice Ao a.o.length co] 25)) (fun _ => False) (w3.heap.size + 1) w3.heap.size (.cells #[.int .i64 a.v, .int .i64 a.i, .int .i64 a.q, .slice B1 a.b.length d1, .slice Ao a.o.length co] 25 (0, 0)) := ⟨hra, (Array.getElem?_eq_some_iff.1 hra).1, fun h => h, by omega⟩; exact h.ice j
      have f0 : (w3.alloc (.cells #[.int .i64 a.v, .int .i64 a.i, .int .i64 a.q, .slice B1 a.b.length d1, .slice Ao a.o.length co] 25)).cell? ⟨w3.heap.size, 0, none⟩ = some (.int .i64 a.v) := by rw [cell_of_row _ _ 0 _ _ _ hra]; rfl
      have f1 : (w3.alloc (.cells #[.int .i64 a.v, .int .i64 a.i, .int .i64 a.q, .slice B1 a.b.length d1, .slice Ao a.o.length co] 25)).cell? ⟨w3.heap.size, 1, none⟩ = some (.int .i64 a.i) := by rw [cell_of_row _ _ 1 _ _ _ hra]; rfl
      have f2 : (w3.alloc (.cells #[.int .i64 a.v, .int .i64 a.i, .int .i64 a.q, .slice B1 a.b.length d1, .slice Ao a.o.length co] 25)).cell? ⟨w3.heap.size, 2, none⟩ = some (.int .i64 a.q) := by rw [cell_of_row _ _ 2 _ _ _ hra]; rfl
      obtain ⟨w4, hw4⟩ : ∃ w4, w3.alloc (.cells #[.int .i64 a.v, .int .i64 a.i, .int .i64 a.q, .slice B1 a.b.length d1, .slice Ao a.o.length co] 25) = w4 := ⟨_, rfl⟩
      rw [hw4] at hba hra hia f0 f1 f2 ⊢
      have z0 := hia 0
      have z1 := hia 1
      have z2 := hia 2
      have HBA := Lib.hid hba
      have HRA := Lib.hid hra
      clear hw4 hia hba hra
      go_upto_region 11 with fail
      clear f0 f1 f2 z0 z1 z2 hvz hmul hadd
      have hb5 : Below w3.heap.size w3 (((w4.setCell ⟨w3.heap.size, 0, none⟩ (.int .i64 (a.v % view))).setCell ⟨w3.heap.size, 1, none⟩ (.int .i64 0)).setCell ⟨w3.heap.size, 2, none⟩ (.int .i64 (1 + 2 * (k : Int)))) := ((HBA.out.setCell (p := ⟨w3.heap.size, 0, none⟩) (Nat.le_refl _) _).setCell (p := ⟨w3.heap.size, 1, none⟩) (Nat.le_refl _) _).setCell (p := ⟨w3.heap.size, 2, none⟩) (Nat.le_refl _) _
      have hr5 : (((w4.setCell ⟨w3.heap.size, 0, none⟩ (.int .i64 (a.v % view))).setCell ⟨w3.heap.size, 1, none⟩ (.int .i64 0)).setCell ⟨w3.heap.size, 2, none⟩ (.int .i64 (1 + 2 * (k : Int)))).heap[w3.heap.size]? = some (.cells #[.int .i64 (a.v % view), .int .i64 0, .int .i64 (1 + 2 * (k : Int)), .slice B1 a.b.length d1, .slice Ao a.o.length co] 25 (0, 0)) := by
        rw [heap_setCell_same _ w3.heap.size 2 _ _ _ (heap_setCell_same _ w3.heap.size 1 _ _ _ (heap_setCell_same w4 w3.heap.size 0 _ _ _ HRA.out))]; rfl
      obtain ⟨w5, hw5⟩ : ∃ w5, ((w4.setCell ⟨w3.heap.size, 0, none⟩ (.int .i64 (a.v % view))).setCell ⟨w3.heap.size, 1, none⟩ (.int .i64 0)).setCell ⟨w3.heap.size, 2, none⟩ (.int .i64 (1 + 2 * (k : Int))) = w5 := ⟨_, rfl⟩
      rw [hw5] at hb5 hr5 ⊢
      have HR5 := Lib.hid hr5
      clear hw5 hr5 HBA HRA
      obtain ⟨y, hy⟩ : ∃ y, vC f cl view k a0 = y := ⟨_, rfl⟩
      have hyb : y = ⟨a.v % view, 0, 1 + 2 * (k : Int), a.b, a.o⟩ := by rw [← hy, ← Hcut.out]; rfl
      have hcy : CutC f cl y := by rw [← hy]; exact vC_cut hf hcl.1 hv (by omega)
      have Hcy := Lib.hid hcy
      have Hyd := Lib.hid hy
      have h35 := hb5.size
      have Hy5 : Hid (Ck w5 S' bm ⟨y, .slice B1 a.b.length d1, .slice Ao a.o.length co⟩) := Lib.hid (by
        have h : CertOk w5 (Off w5 S' bm) ⟨a, .slice B1 a.b.length d1, .slice Ao a.o.length co⟩ := CertOk.keeps Ha.out ⟨h35, fun b hP hlt => ⟨hb5.block b hlt, hP.1.below hb5⟩⟩
        rw [hyb]
        exact ⟨h.1, h.2⟩)
      clear Ha hcy hy
      replace Ht := Lib.hid (Ht.out.below hb5)
      replace HG := Lib.hid (HG.out.below hb5)
      replace HT := Lib.hid (HT.out.below hb5)
      replace HB := Lib.hid (Below.then HB.out hb5 HB.out.size)
      clear hb5
      have f_t0 : w5.cell? ⟨w1.heap.size, 0, none⟩ = some (.pointer (some ⟨g, 0, none⟩)) := Ht.out.cell rfl
      have f_t1 : w5.cell? ⟨w1.heap.size, 1, none⟩ = some (.pointer (some ⟨h, 0, none⟩)) := Ht.out.cell rfl
      have x0 : w5.cell? ⟨w3.heap.size, 0, none⟩ = some (.int .i64 (a.v % view)) := by rw [cell_of_row _ _ 0 _ _ _ HR5.out]; rfl
      have x1 : w5.cell? ⟨w3.heap.size, 1, none⟩ = some (.int .i64 0) := by rw [cell_of_row _ _ 1 _ _ _ HR5.out]; rfl
      have x2 : w5.cell? ⟨w3.heap.size, 2, none⟩ = some (.int .i64 (1 + 2 * (k : Int))) := by rw [cell_of_row _ _ 2 _ _ _ HR5.out]; rfl
      have x3 : w5.cell? ⟨w3.heap.size, 3, none⟩ = some (.slice B1 a.b.length d1) := by rw [cell_of_row _ _ 3 _ _ _ HR5.out]; rfl
      have x4 : w5.cell? ⟨w3.heap.size, 4, none⟩ = some (.slice Ao a.o.length co) := by rw [cell_of_row _ _ 4 _ _ _ HR5.out]; rfl
      go_wp2_with fail
      clear x0 x1 x2 x3 x4 f_t0 f_t1 HR5
      have hkeys : (cts [] f cl view skip lc k).2.length ≤ 12 * k := by have := (cts_cl (K := []) (skip := skip) (l := lc) hf hcl hv (by simp) k (by omega) hk4).2.2.1; simpa using this
      have hsb := Hcy.out.sb
      subst hyb
      refine (two_cert' 4 f skip _ B1 Ao d1 co S' g bm h _ w5 HT.out hf hsk Hy5.out (by omega) (by omega)).mono ?_
      rintro e w6 ⟨x, K', E, dE, G, dG, S2, hcs, rfl, hT', hS', hF', hx'⟩
      have h55 := HB.out.size
      have hz56 := hF'.size
      have Hgl : Hid (∀ b, (Value.slice A k c).ownBlock = some b → b < w5.heap.size) := Lib.hid fun b hb => (HG.out.own.lt b hb).2
      have Hx6 : Hid (CertOk w6 (fun b => Off w6 S2 bm b ∧ (Value.slice A k c).ownBlock ≠ some b) ⟨x, .slice E x.b.length dE, .slice G x.o.length dG⟩) := Lib.hid (CertOk.keeps hx' (Keeps.mono fun b _ hb => ⟨hb.2, fun he => by have := Hgl.out b he; have := hb.1; omega⟩))
      clear hx' Hy5
      replace Ht := Lib.hid (Ht.out.seal hF' hS')
      replace HG := Lib.hid (HG.out.seal hF' hS')
      have hzb := HB.out.size
      replace HB := Lib.hid (HB.out.trans ((hF').to_below (B := w.heap.size) hzb (fun k hk hh => by rcases hh with hh | hh; (have := HSn.out k hh; omega); omega)))
      replace HSn : Hid (∀ b, (S2) b → w.heap.size ≤ b) := Lib.hid fun b hb => by rcases hS' b hb with h1 | h1; exact HSn.out b h1; omega
      clear hzb
      replace HT := Lib.hid hT'
      clear hT' hS' hF'
      have hks : cts [] f cl view skip lc (k + 1) = ((cts [] f cl view skip lc k).1 ++ [x], K') := by
        have h : certS (cts [] f cl view skip lc k).2 4 f skip (vC f cl view k a0) = (x, K') := by rw [Hyd.out]; exact hcs
        rw [cts_step Hlcg.out, h]
      have Hks := Lib.hid hks
      clear hcs hks
      have HLk := Lib.hid hLk
      have hT1 := cv_one Hx6.out
      have HT1 := Lib.hid hT1
      have hbs6 : w2.heap.size ≤ w6.heap.size := by omega
      have HG6 := HG
      clear hT1 hLk
      go_wp2_with (at_builtin; refine wpList_app1 certE rfl _ _ rfl w2.heap.size (.slice A k c) k (L.flatMap cv) rfl (by have h := HG6.out.own; rw [HLk.out] at h; exact h) _ rfl rfl (by exact HT1.out) (by omega) (by decide) (by omega) ?_; intro v' w7 hown7 hg7 _ hv7; have Hown7 := Lib.hid hown7; have Hg7 := Lib.hid hg7; have Hv7 := Lib.hid hv7; clear hown7 hg7 hv7; obtain ⟨A7, c7, rfl, _, _, _⟩ := own_slice Hown7.out)
      have hob : ∀ b, (Value.slice A k c).ownBlock = some b → w2.heap.size ≤ b ∧ b < w6.heap.size := fun b hb => HG6.out.own.lt b hb
      have hF67 : Fp (fun b => (Value.slice A k c).ownBlock = some b) w6 w7 := (Fp.refl _ w6).grown Hg7.out (fun j hj => Or.inl hj)
      have hsz67 := hF67.size
      have hbz6 := HB.out.size
      have hS6 : ∀ b, S2 b → b < w6.heap.size := HT.out.lt
      have hbm6 : bm < w6.heap.size := HT.out.nt.lt.2
      have HG7 : Cg w7 S2 bm w2.heap.size (L ++ [(⟨x, .slice E x.b.length dE, .slice G x.o.length dG⟩ : CertV)]) (.slice A7 (k + 1) c7) := HG6.out.snoc Hx6.out (by rw [HLk.out]; exact Hown7.out) Hg7.out Hv7.out hS6 hbm6
      refine ⟨⟨k + 1, L ++ [(⟨x, .slice E x.b.length dE, .slice G x.o.length dG⟩ : CertV)], c7, A7, S2, by go_num, by omega, by omega, rfl, by rw [List.length_append, HLk.out]; rfl, Lib.hid (by rw [Hks.out, List.map_append, HLc.out]; rfl), Lib.hid (by rw [Hks.out]; exact HT.out.fp hF67 (fun hh => by have := (hob g hh).1; omega) (fun hh => (HG6.out.sep bm hh).2 rfl) (fun b hb hh => (HG6.out.sep b hh).1 hb)), HSn, Lib.hid (HB.out.grown Hg7.out hbz6 fun j hj => by have := (hob j hj).1; omega), Lib.hid (Ht.out.grown Hg7.out fun hh => by have := (hob _ hh).1; omega), by omega, Lib.hid HG7⟩, ?_⟩
      simp [intOf]; omega
  case rest =>
    clear HT HSn HB Ht
    obtain ⟨L, K, cA, A, S0, rfl, HCL, hK48, HT, HSn, HB, Ht, HC⟩ := hcut
    obtain ⟨lx, hlx⟩ : ∃ lx, L.map (·.c) = lx := ⟨_, rfl⟩
    have hLx : L.length = lx.length := by rw [← hlx, List.length_map]
    rw [hlx] at HCL HC
    rw [hLx] at HC ⊢
    clear hLx hlx
    have hn1 : Psp.nodes f ≤ 3 * f + 1 := by rw [nodes_is hf]; omega
    have hn2 : 3 * f + 1 ≤ Psp.nodes f := by rw [nodes_is hf]; omega
    have gw0 := Psp.within_lo from0 (Psp.nodes f)
    have gw1 := Psp.within_hi from0 (Psp.nodes f) (by omega)
    go_upto_region 13 with (first | (go_at_call 30; refine (r_nodes_any _ _).mono ?_; rintro e w' ⟨rfl, rfl⟩) | (go_at_call 8; refine (within_i _ _ _ (by first | assumption | exact ⟨by omega, by omega⟩) (by exact ⟨by omega, by omega⟩)).mono ?_; rintro e w' ⟨rfl, rfl⟩))
    obtain ⟨fr, hfr⟩ : ∃ fr, Psp.within from0 (Psp.nodes f) = fr := ⟨_, rfl⟩
    rw [hfr] at gw0 gw1 ⊢
    have hfr2 : 0 ≤ fr ∧ fr ≤ 3 * f := ⟨gw0, by omega⟩
    clear hfr gw0 gw1
    have f_t0 : wc.cell? ⟨w1.heap.size, 0, none⟩ = some (.pointer (some ⟨g, 0, none⟩)) := Ht.out.cell rfl
    have f_t1 : wc.cell? ⟨w1.heap.size, 1, none⟩ = some (.pointer (some ⟨h, 0, none⟩)) := Ht.out.cell rfl
    go_wp2_with fail
    clear f_t0 f_t1
    refine (two_part f view fr skip lx A cA S0 g bm h K wc (fun b => Off wc S0 bm b ∧ b < wc.heap.size) HT.out hf hv ⟨by omega, by omega⟩ hsk HC.out.rd (fun b hb => hb.1.2) (by omega)).mono ?_
    rintro e w3 ⟨B2, q2, d2, S2, rfl, hq2, hT', hS', hF', hx'⟩
    subst hq2
    have hzc3 := hF'.size
    have hpf : (partS K f view fr skip lx).1.f = fr := rfl
    have hpc : (partS K f view fr skip lx).1.c = lx := rfl
    have hpp := partS_pf (skip := skip) hf hcl.2 hv hfr2 HCL.out (K := K) (by omega)
    obtain ⟨p, hp⟩ : ∃ p, (partS K f view fr skip lx).1 = p := ⟨_, rfl⟩
    obtain ⟨K2, hK2⟩ : ∃ K2, (partS K f view fr skip lx).2 = K2 := ⟨_, rfl⟩
    rw [hp, hK2] at hpp
    rw [hp] at hpf hpc hx' ⊢
    rw [hK2] at hT'
    subst hpf hpc
    have HPF := Lib.hid hpp.1
    have HCL2 := Lib.hid (HCL.out.sub hpp.2.1)
    have hK2l : K2.length ≤ 58 := by have := hpp.2.2; omega
    clear hpp hp hK2
    have Hp : Hid (Ps w3 S2 bm w3.heap.size ⟨p, .slice B2 p.o.length d2, .slice A p.c.length cA⟩) := Lib.hid (Ps.of (PartOk.keeps' hx' (Keeps.mono fun b hb hP => ⟨hP.1, hP.2.1, hP.2.2.1⟩)))
    clear hx'
    replace Ht := Lib.hid (Ht.out.seal hF' hS')
    replace HC := Lib.hid (HC.out.seal hF' hS')
    have hzb := HB.out.size
    replace HB := Lib.hid (HB.out.trans ((hF').to_below (B := w.heap.size) hzb (fun k hk hh => by rcases hh with hh | hh; (have := HSn.out k hh; omega); omega)))
    replace HSn : Hid (∀ b, (S2) b → w.heap.size ≤ b) := Lib.hid fun b hb => by rcases hS' b hb with h1 | h1; exact HSn.out b h1; omega
    clear hzb
    replace HT := Lib.hid hT'
    clear hT' hS' hF'
    go_upto_region 14 with fail
    have hba := alloc_below w3 (.cells #[.int .i64 p.f, .slice B2 p.o.length d2, .slice A p.c.length cA, .int .i64 p.s] 62)
    have hra : Rw (w3.alloc (.cells #[.int .i64 p.f, .slice B2 p.o.length d2, .slice A p.c.length cA, .int .i64 p.s] 62)) S2 bm w3.heap.size (.cells #[.int .i64 p.f, .slice B2 p.o.length d2, .slice A p.c.length cA, .int .i64 p.s] 62 (0, 0)) := Rw.new (.cells #[.int .i64 p.f, .slice B2 p.o.length d2, .slice A p.c.length cA, .int .i64 p.s] 62) HT.out.lt HT.out.nt.lt.2
    have hsa : (w3.alloc (.cells #[.int .i64 p.f, .slice B2 p.o.length d2, .slice A p.c.length cA, .int .i64 p.s] 62)).heap.size = w3.heap.size + 1 := by simp
    obtain ⟨w4, hWa⟩ : ∃ W_, w3.alloc (.cells #[.int .i64 p.f, .slice B2 p.o.length d2, .slice A p.c.length cA, .int .i64 p.s] 62) = W_ := ⟨_, rfl⟩
    rw [hWa] at hba hra hsa ⊢
    have Hs_w4 := Lib.hid hsa
    have Hb_w4 := Lib.hid hba
    have Hq := Lib.hid hra
    clear hWa hra hsa
    replace Ht := Lib.hid (Ht.out.below hba)
    replace HC := Lib.hid (HC.out.below hba)
    replace Hp := Lib.hid (Hp.out.below hba)
    replace HT := Lib.hid (HT.out.below hba)
    replace HB := Lib.hid (Below.then HB.out hba HB.out.size)
    clear hba
    have HV1 : Hid (viewedB K2 view p f cl = true) := Lib.hid (HPF.out.viewed hf hcl.2 (by omega))
    have HV2 : Hid (changedB K2 (view - 1) p.o f = true) := Lib.hid HPF.out.changed
    have HPW : Hid (wfPart p) := Lib.hid (HPF.out.wf hf hcl.2 (by omega))
    have hwv1 : IntKind.i64.wrap (view - 1) = view - 1 := IntWalk.i64_in _ (by omega)
    have f_q0 : w4.cell? ⟨w3.heap.size, 0, none⟩ = some (.int .i64 p.f) := Hq.out.cell rfl
    have f_q1 : w4.cell? ⟨w3.heap.size, 1, none⟩ = some (.slice B2 p.o.length d2) := Hq.out.cell rfl
    have f_q2 : w4.cell? ⟨w3.heap.size, 2, none⟩ = some (.slice A p.c.length cA) := Hq.out.cell rfl
    have f_q3 : w4.cell? ⟨w3.heap.size, 3, none⟩ = some (.int .i64 p.s) := Hq.out.cell rfl
    have f_t0 : w4.cell? ⟨w1.heap.size, 0, none⟩ = some (.pointer (some ⟨g, 0, none⟩)) := Ht.out.cell rfl
    go_wp2_with fail
    clear f_q0 f_q1 f_q2 f_q3 f_t0
    refine (viewed_m view p (.slice B2 p.o.length d2) (.slice A p.c.length cA) f cl g bm K2 w4 _ ⟨by omega, by omega⟩ Hp.out.ok HPW.out HT.out.nt (fun c hc => Nat.le_trans (HPF.out.big c hc) (by omega))).mono ?_
    rw [HV1.out]
    rintro e w5 ⟨rfl, hbq⟩
    replace Ht := Lib.hid (Ht.out.below hbq)
    replace Hq := Lib.hid (Hq.out.below hbq)
    replace HC := Lib.hid (HC.out.below hbq)
    replace Hp := Lib.hid (Hp.out.below hbq)
    replace HT := Lib.hid (HT.out.below hbq)
    replace HB := Lib.hid (Below.then HB.out hbq HB.out.size)
    clear hbq
    have f_q1 : w5.cell? ⟨w3.heap.size, 1, none⟩ = some (.slice B2 p.o.length d2) := Hq.out.cell rfl
    have f_t0 : w5.cell? ⟨w1.heap.size, 0, none⟩ = some (.pointer (some ⟨g, 0, none⟩)) := Ht.out.cell rfl
    go_wp2_with fail
    clear f_q1 f_t0
    refine (changed_m (view - 1) (.slice B2 p.o.length d2) p.o f g bm K2 w5 _ Hp.out.ok.1 HPW.out.2.1 HT.out.nt).mono ?_
    rw [HV2.out]
    rintro e w6 ⟨rfl, hbq⟩
    replace Ht := Lib.hid (Ht.out.below hbq)
    replace Hq := Lib.hid (Hq.out.below hbq)
    replace HC := Lib.hid (HC.out.below hbq)
    replace Hp := Lib.hid (Hp.out.below hbq)
    replace HT := Lib.hid (HT.out.below hbq)
    replace HB := Lib.hid (Below.then HB.out hbq HB.out.size)
    clear hbq
    go_upto_region 17 with (go_at_call 32; refine (r_primary_any f view 0 _ (by omega) (by omega) (by omega) (by omega)).mono ?_; rintro e w' ⟨rfl, rfl⟩)
    have la1 : g < w6.heap.size := HT.out.nt.lt.1
    have la2 : w1.heap.size < w6.heap.size := Ht.out.lt
    have la3 : w3.heap.size < w6.heap.size := Hq.out.lt
    have la4 : w.heap.size ≤ w6.heap.size := HB.out.size
    have la5 : wc.heap.size ≤ w6.heap.size := by omega
    have hba := alloc_below w6 (.cells #[.int .i64 8, .int .i64 (Psp.primary f view 0), .int .i64 view, .int .i64 0, .int .i64 0, .int .i64 0, .slice none 0 0, .slice none 0 0, .slice none 0 0, .slice none 0 0] 41)
    have hra : Rw (w6.alloc (.cells #[.int .i64 8, .int .i64 (Psp.primary f view 0), .int .i64 view, .int .i64 0, .int .i64 0, .int .i64 0, .slice none 0 0, .slice none 0 0, .slice none 0 0, .slice none 0 0] 41)) S2 bm w6.heap.size (.cells #[.int .i64 8, .int .i64 (Psp.primary f view 0), .int .i64 view, .int .i64 0, .int .i64 0, .int .i64 0, .slice none 0 0, .slice none 0 0, .slice none 0 0, .slice none 0 0] 41 (0, 0)) := Rw.new (.cells #[.int .i64 8, .int .i64 (Psp.primary f view 0), .int .i64 view, .int .i64 0, .int .i64 0, .int .i64 0, .slice none 0 0, .slice none 0 0, .slice none 0 0, .slice none 0 0] 41) HT.out.lt HT.out.nt.lt.2
    have hsa : (w6.alloc (.cells #[.int .i64 8, .int .i64 (Psp.primary f view 0), .int .i64 view, .int .i64 0, .int .i64 0, .int .i64 0, .slice none 0 0, .slice none 0 0, .slice none 0 0, .slice none 0 0] 41)).heap.size = w6.heap.size + 1 := by simp
    obtain ⟨w7, hWa⟩ : ∃ W_, w6.alloc (.cells #[.int .i64 8, .int .i64 (Psp.primary f view 0), .int .i64 view, .int .i64 0, .int .i64 0, .int .i64 0, .slice none 0 0, .slice none 0 0, .slice none 0 0, .slice none 0 0] 41) = W_ := ⟨_, rfl⟩
    rw [hWa] at hba hra hsa ⊢
    have Hs_w7 := Lib.hid hsa
    have Hb_w7 := Lib.hid hba
    have Hm := Lib.hid hra
    clear hWa hra hsa
    replace Ht := Lib.hid (Ht.out.below hba)
    replace Hq := Lib.hid (Hq.out.below hba)
    replace HC := Lib.hid (HC.out.below hba)
    replace Hp := Lib.hid (Hp.out.below hba)
    replace HT := Lib.hid (HT.out.below hba)
    replace HB := Lib.hid (Below.then HB.out hba HB.out.size)
    clear hba
    have la6 : w6.heap.size < w7.heap.size := Hm.out.lt
    obtain ⟨q, hqe⟩ : ∃ q : Nat, Psp.quorum f = (q : Int) := ⟨(2 * f + 1).toNat, by rw [quorum_is hf]; omega⟩
    have hqa : (q : Int) ≤ 2 * f + 1 := by rw [← hqe, quorum_is hf]; omega
    have hqb : 2 * f + 1 ≤ (q : Int) := by rw [← hqe, quorum_is hf]; omega
    have HQn : Hid (∀ W : World, Calls Tryz.prog 33 #[.int .i64 f] W fun e w' => e = .returned (.int .i64 (q : Int)) ∧ W = w') := Lib.hid (fun W => by have h_ := r_quorum_any f W; rw [hqe] at h_; exact h_)
    clear hqe
    go_wp2_with fail
    go_loopw [22] (fun i wr => ∃ (j : Nat) (Lp : List PartV) (c2 : Nat) (A2 : Option Addr) (S' : Nat → Prop), i = .int .i64 (j : Int) ∧ j ≤ q ∧ Lp.length = j ∧ Hid (Lp.map (·.p) = (pts K2 f view skip p.c j).1) ∧ Hid (Tw wr S' g bm h (pts K2 f view skip p.c j).2) ∧ Hid (∀ b, S' b → w.heap.size ≤ b) ∧ Hid (Below w.heap.size w wr) ∧ Hid (Rw wr S' bm w1.heap.size (.cells #[.pointer (some ⟨g, 0, none⟩), .pointer (some ⟨h, 0, none⟩)] 30 (0, 0))) ∧ Hid (Rw wr S' bm w3.heap.size (.cells #[.int .i64 p.f, .slice B2 p.o.length d2, .slice A p.c.length cA, .int .i64 p.s] 62 (0, 0))) ∧ Hid (Cs wr S' bm wc.heap.size (.slice A p.c.length cA) p.c) ∧ Hid (Ps wr S' bm w3.heap.size ⟨p, .slice B2 p.o.length d2, .slice A p.c.length cA⟩) ∧ Hid (Rw wr S' bm w6.heap.size (.cells #[.int .i64 8, .int .i64 (Psp.primary f view 0), .int .i64 view, .int .i64 0, .int .i64 0, .int .i64 0, .slice none 0 0, .slice none 0 0, .slice none 0 0, .slice A2 j c2] 41 (0, 0))) ∧ w7.heap.size ≤ wr.heap.size ∧ Hid (Pg wr (fun b => S' b ∨ b = w6.heap.size) bm w7.heap.size Lp (.slice A2 j c2))) (fun i _ => q - (intOf i).toNat)
    case atStart => exact ⟨0, [], 0, none, S2, rfl, Nat.zero_le _, rfl, Lib.hid rfl, HT, HSn, HB, Ht, Hq, HC, Hp, Hm, Nat.le_refl _, Lib.hid Pg.nil⟩
    case round =>
      clear HT HSn HB Ht Hq HC Hp Hm
      obtain ⟨j, Lp, c2, A2, S3, rfl, hjq, hLj, HLp, HT, HSn, HB, Ht, Hq, HC, Hp, Hm, hw7r, HQ⟩ := hrel
      have HLj := Lib.hid hLj
      clear hLj
      by_cases hlt : j < q
      case pos =>
        have hd1 : decide ((j : Int) < (q : Int)) = true := by simp; omega
        go_upto_region 20 with (go_at_call 33; refine (HQn.out _).mono ?_; rintro e w' ⟨rfl, rfl⟩)
        have HRT : Hid (∀ w' : World, (∃ p : LaterF wr.drew (fun b => b ≠ w1.heap.size ∧ b ≠ w6.heap.size), w' = p.W) → w'.rangeAt w1.heap.size 0 [.pointer (some ⟨g, 0, none⟩), .pointer (some ⟨h, 0, none⟩)]) := Lib.hid (by rintro w' ⟨p, rfl⟩; exact range_of_row ((p.h.block _ (show w1.heap.size < wr.heap.size from Ht.out.lt) (fun hh => hh.1 rfl)).trans Ht.out.row))
        have l9 := laterF_cell (w := wr.drew) (T := (fun b => b ≠ w1.heap.size ∧ b ≠ w6.heap.size)) (show wr.drew.cell? ⟨w6.heap.size, 9, none⟩ = some (.slice A2 j c2) from Hm.out.cell rfl) (fun hh => hh.2 rfl)
        have hpl := pts_pf (skip := skip) hf hcl.2 hv HCL2.out (K := K2) (by omega) j (by omega)
        have hkl : (pts K2 f view skip p.c j).2.length ≤ 148 := by have := hpl.2.2.1; omega
        clear hpl
        refine wp_region_phasesF (fun b => b ≠ w1.heap.size ∧ b ≠ w6.heap.size) [(true, 0), (true, 1), (true, 2), (true, 3), (true, 4), (true, 5), (true, 6), (true, 7), (false, 8), (false, 9), (false, 10)] (by kernel_rfl) (by kernel_rfl) ?_
        simp only [phS, List.getElem?_cons_zero, List.getElem?_cons_succ, Option.toList, List.length_cons, List.length_nil, Nat.reduceAdd, List.drop_succ_cons, List.drop_zero]
        repeat (first | go_big_quiet_step (fail) | (refine quiet_load (by simp [Region.wanted, yielded]) 30 (.tmp 15) (by rfl) w1.heap.size (0) (by rfl) [.pointer (some ⟨g, 0, none⟩), .pointer (some ⟨h, 0, none⟩)] _ HRT.out Tryz.underlying30 rfl sizeTwo ?_; intro K hK; go_simp; refine hK _ ?_; clear hK K) | quiet_step (fail) | refine wpQuiet_nil ?_)
        clear l9 HRT
        go_wp2_with fail
        have hdr : Below wr.heap.size wr wr.drew := (Below.refl _ _).drew
        refine (two_part f view (j : Int) skip p.c A cA S3 g bm h (pts K2 f view skip p.c j).2 wr.drew (fun b => Off wr S3 bm b ∧ b < wc.heap.size) (show Tw wr.drew S3 g bm h _ from HT.out.below hdr) hf hv ⟨by omega, by omega⟩ hsk (HC.out.below hdr).rd (fun b hb => hb.1.2) (by omega)).mono ?_
        rintro e w8 ⟨B3, q3, d3, S4, rfl, hq3, hT', hS'', hF'', hx'⟩
        subst hq3
        have hF' : Fp (fun b => S3 b ∨ b = bm) wr w8 := ⟨hF''.os, hF''.tape, hF''.output, hF''.size, hF''.block⟩
        have hS' : ∀ b, S4 b → S3 b ∨ wr.heap.size ≤ b := hS''
        have hxf : (partS (pts K2 f view skip p.c j).2 f view (j : Int) skip p.c).1.f = (j : Int) := rfl
        have hxc : (partS (pts K2 f view skip p.c j).2 f view (j : Int) skip p.c).1.c = p.c := rfl
        have hst : pts K2 f view skip p.c (j + 1) = _ := pts_step
        obtain ⟨x, hx⟩ : ∃ x, (partS (pts K2 f view skip p.c j).2 f view (j : Int) skip p.c).1 = x := ⟨_, rfl⟩
        obtain ⟨K4, hK4⟩ : ∃ K4, (partS (pts K2 f view skip p.c j).2 f view (j : Int) skip p.c).2 = K4 := ⟨_, rfl⟩
        rw [hx, hK4] at hst
        rw [hx] at hxf hxc hx' ⊢
        rw [hK4] at hT'
        have Hst := Lib.hid hst
        have Hxf := Lib.hid hxf
        have hol := Ht.out.off
        have hom := Hm.out.off
        have hop := HQ.out.own.lt
        have hz8 := hF'.size
        have hop3 : ∀ b, (Value.slice A2 j c2).ownBlock = some b → w7.heap.size ≤ b ∧ b < wr.heap.size := hop
        have Hx8 : Hid (PartOk w8 (fun b => Off w8 (fun b => S4 b ∨ b = w6.heap.size) bm b ∧ (Value.slice A2 j c2).ownBlock ≠ some b) ⟨x, .slice B3 x.o.length d3, .slice A p.c.length cA⟩) := Lib.hid (PartOk.keeps' hx' (Keeps.mono fun b hb hP => ⟨⟨hP.1, by
          rintro (hh | hh)
          · exact hP.2.1 hh
          · rcases hP.2.2.2 with h1 | h1
            · have h1' : wr.heap.size ≤ b := h1; omega
            · have := h1.2; omega, hP.2.2.1⟩, fun he => by
          have h3 := hop3 b he
          rcases hP.2.2.2 with h1 | h1
          · have h1' : wr.heap.size ≤ b := h1; omega
          · have := h1.2; omega⟩))
        have F8 := Lib.hid (show Fp (fun b => b ≠ w1.heap.size ∧ b ≠ w6.heap.size) wr.drew w8 from hF''.mono (fun j _ hj => ⟨fun hh => by rcases hj with hj | hj; exact hol.2.1 (hh ▸ hj); exact hol.2.2 (hh ▸ hj), fun hh => by rcases hj with hj | hj; exact hom.2.1 (hh ▸ hj); exact hom.2.2 (hh ▸ hj)⟩))
        have hQ8 : Pg w8 (fun b => S4 b ∨ b = w6.heap.size) bm w7.heap.size Lp (.slice A2 j c2) := HQ.out.seal (hF'.mono fun b _ hb => by rcases hb with hb | hb; exact .inl (.inl hb); exact .inr hb) (fun b hb => by rcases hb with hb | hb; (rcases hS' b hb with h1 | h1; exact .inl (.inl h1); exact .inr h1); exact .inl (.inr hb))
        have HQ8 := Lib.hid hQ8
        have HT1 := Lib.hid (pv_one Hx8.out)
        clear hx hK4 hst hxf hx' hol hom hop hQ8 hS'' hF''
        replace Ht := Lib.hid (Ht.out.seal hF' hS')
        replace Hq := Lib.hid (Hq.out.seal hF' hS')
        replace Hm := Lib.hid (Hm.out.seal hF' hS')
        replace HC := Lib.hid (HC.out.seal hF' hS')
        replace Hp := Lib.hid (Hp.out.seal hF' hS')
        have hzb := HB.out.size
        replace HB := Lib.hid (HB.out.trans ((hF').to_below (B := w.heap.size) hzb (fun k hk hh => by rcases hh with hh | hh; (have := HSn.out k hh; omega); omega)))
        replace HSn : Hid (∀ b, (S4) b → w.heap.size ≤ b) := Lib.hid fun b hb => by rcases hS' b hb with h1 | h1; exact HSn.out b h1; omega
        clear hzb
        replace HT := Lib.hid hT'
        clear hT' hS' hF'
        go_wp2_with fail
        refine And.intro ⟨⟨w8, F8.out⟩, rfl⟩ ?_
        go_wp2_with fail
        refine And.intro ⟨⟨_, F8.out.alloc _⟩, rfl⟩ ?_
        go_wp2_with (at_builtin; refine wpList_app1 partE rfl _ _ rfl w7.heap.size (.slice A2 j c2) j (Lp.flatMap pv) rfl (by have h := HQ8.out.own; rw [HLj.out] at h; exact h) _ rfl rfl (by have h := HT1.out; simp only [pv, Hxf.out] at h; exact h) (by omega) (by decide) (by omega) ?_; intro v' w9 hown9 hg9 _ hv9; have Hown9 := Lib.hid hown9; have Hg9 := Lib.hid hg9; have Hv9 := Lib.hid hv9; clear hown9 hg9 hv9; obtain ⟨A9, c9, rfl, _, _, _⟩ := own_slice Hown9.out)
        have hob : ∀ b, (Value.slice A2 j c2).ownBlock = some b → w7.heap.size ≤ b ∧ b < w8.heap.size := fun b hb => HQ8.out.own.lt b hb
        refine And.intro ⟨⟨w9, F8.out.grown Hg9.out (fun b hb => Or.inl ⟨by have := (hob b hb).1; omega, by have := (hob b hb).1; omega⟩)⟩, rfl⟩ ?_
        have hF89 : Fp (fun b => (Value.slice A2 j c2).ownBlock = some b) w8 w9 := (Fp.refl _ w8).grown Hg9.out (fun j hj => Or.inl hj)
        have hob2 : ∀ b, (Value.slice A2 j c2).ownBlock = some b → wc.heap.size ≤ b ∧ w3.heap.size ≤ b := fun b hb => by have := (hob b hb).1; omega
        have hHw : w.heap.size ≤ w8.heap.size := HB.out.size
        have hsz89 := hF89.size
        have HT8l := Lib.hid HT.out.lt
        have hbm8 : bm < w8.heap.size := HT.out.nt.lt.2
        replace HT : Hid (Tw w9 S4 g bm h K4) := Lib.hid (HT.out.fp hF89 (fun hh => by have := (hob g hh).1; omega) (fun hh => (HQ8.out.sep bm hh).2 rfl) (fun b hb hh => (HQ8.out.sep b hh).1 (.inl hb)))
        have HQ9 : Hid (Pg w9 (fun b => S4 b ∨ b = w6.heap.size) bm w7.heap.size (Lp ++ [⟨x, .slice B3 x.o.length d3, .slice A p.c.length cA⟩]) (.slice A9 (j + 1) c9)) := Lib.hid (HQ8.out.snoc Hx8.out (by have h := Hown9.out; rw [HLj.out]; simp only [pv, Hxf.out]; exact h) Hg9.out Hv9.out (fun b hb => by rcases hb with hb | hb; (have := HT8l.out b hb; omega); omega) (by omega))
        replace Ht := Lib.hid (Ht.out.grown Hg9.out fun hh => by have := (hob _ hh).1; omega)
        replace Hq := Lib.hid (Hq.out.grown Hg9.out fun hh => by have := (hob _ hh).1; omega)
        replace Hm := Lib.hid (Hm.out.grown Hg9.out fun hh => by have := (hob _ hh).1; omega)
        replace HC := Lib.hid (HC.out.other hF89 fun b hb => (hob2 b hb).1)
        replace Hp := Lib.hid (Hp.out.other hF89 fun b hb => (hob2 b hb).2)
        replace HB := Lib.hid (HB.out.grown Hg9.out hHw fun b hb => by have := (hob b hb).1; omega)
        clear hF89 hob2 hob HQ8 Hg9 Hv9 Hown9
        have f_m9 : w9.cell? ⟨w6.heap.size, 9, none⟩ = some (.slice A2 j c2) := Hm.out.cell rfl
        have fz_m9 : w9.frozen? ⟨w6.heap.size, 9, none⟩ = false := Hm.out.ice 9
        go_wp2_with fail
        clear f_m9 fz_m9
        have hfs : Fp (fun b => b = w6.heap.size) w9 (w9.setCell ⟨w6.heap.size, 9, none⟩ (.slice A9 (j + 1) c9)) := (Fp.refl (fun b => b = w6.heap.size) w9).setCell (p := ⟨w6.heap.size, 9, none⟩) (Or.inl (show w6.heap.size = w6.heap.size from rfl)) _
        have hrw : (w9.setCell ⟨w6.heap.size, 9, none⟩ (.slice A9 (j + 1) c9)).heap[w6.heap.size]? = some (.cells #[.int .i64 8, .int .i64 (Psp.primary f view 0), .int .i64 view, .int .i64 0, .int .i64 0, .int .i64 0, .slice none 0 0, .slice none 0 0, .slice none 0 0, .slice A9 (j + 1) c9] 41 (0, 0)) := by rw [heap_setCell_same w9 w6.heap.size 9 _ _ _ Hm.out.row]; rfl
        have hom := Hm.out.off
        have hw99 : w7.heap.size ≤ w9.heap.size := by omega
        have hww : w.heap.size ≤ w9.heap.size := HB.out.size
        have hz9 := hfs.size
        refine ⟨⟨j + 1, Lp ++ [⟨x, .slice B3 x.o.length d3, .slice A p.c.length cA⟩], c9, A9, S4, by go_num, by omega, by rw [List.length_append, HLj.out]; rfl, Lib.hid (by rw [Hst.out, List.map_append, HLp.out]; rfl), Lib.hid (by rw [Hst.out]; exact HT.out.fp hfs (by omega) (fun he => hom.2.2 he.symm) (fun b hb he => hom.2.1 (he ▸ hb))), HSn, Lib.hid (HB.out.trans (hfs.to_below (B := w.heap.size) hww (fun k _ hk => by omega))), Lib.hid (Ht.out.other hfs (by omega)), Lib.hid (Hq.out.other hfs (by omega)), Lib.hid (HC.out.other hfs (by omega)), Lib.hid (Hp.out.other hfs (by omega)), Lib.hid ⟨hrw, hom.seal hfs fun b hb => .inl hb⟩, by omega, Lib.hid (HQ9.out.seal (hfs.mono fun b _ hb => .inl (.inr hb)) fun b hb => .inl hb)⟩, ?_⟩
        simp [intOf]; omega
      have hjq2 : j = q := by omega
      subst hjq2
      have hd1 : decide ((j : Int) < (j : Int)) = false := by simp
      obtain ⟨hpl1, hpl2, hpl3, hpl4⟩ := pts_pf (skip := skip) hf hcl.2 hv HCL2.out (K := K2) (by omega) j (by omega)
      have hpn := pts_len (K := K2) (f := f) (view := view) (skip := skip) (lc := p.c) j
      obtain ⟨ps, hps⟩ : ∃ ps, (pts K2 f view skip p.c j).1 = ps := ⟨_, rfl⟩
      obtain ⟨K5, hK5⟩ : ∃ K5, (pts K2 f view skip p.c j).2 = K5 := ⟨_, rfl⟩
      rw [hps] at hpl1 hpl4 hpn HLp
      rw [hK5] at hpl1 hpl2 hpl3 HT
      have hK5l : K5.length ≤ 148 := by omega
      replace HPF := Lib.hid (HPF.out.sub hpl2)
      have hnf : Psp.formM (nvM f view ps) f cl = true := nv_form hf hv (by omega) hpl4 hpl1 (by omega)
      have hno := nv_ok hf hcl.2 hv (by rw [hpn]; omega) hpl1 (by omega)
      obtain ⟨os1, os2⟩ := open_sealed (K := K5) hno.1 hno.2 hnf (by omega)
      have hpb := prim_bd hf hv
      have hkk : sealK K5 (nvM f view ps) = sealL K5 (Psp.primary f view 0, Psp.encM (nvM f view ps)) := by unfold sealK; rw [if_pos hno.1]; rfl
      have hkx := sealK_len K5 (nvM f view ps)
      have hsub := sub_sealK K5 (nvM f view ps)
      obtain ⟨sv, hsv⟩ : ∃ sv, sealN K5 (Psp.primary f view 0, Psp.encM (nvM f view ps)) = sv := ⟨_, rfl⟩
      have hsv2 : sealN K5 (kM (nvM f view ps)) = sv := hsv
      obtain ⟨K6, hK6⟩ : ∃ K6, sealK K5 (nvM f view ps) = K6 := ⟨_, rfl⟩
      have hoe := okE_of_okS os1
      rw [hsv2] at hoe os2
      rw [hK6] at hkk hkx hsub os2
      have hnk := hoe
      unfold okE at hnk
      rw [Bool.and_eq_true] at hnk
      have hK6l : K6.length ≤ 149 := by omega
      replace HPF := Lib.hid (HPF.out.sub hsub)
      have HNO := Lib.hid hno.1
      have HNL := Lib.hid hno.2
      have HOE := Lib.hid hoe
      have HKK := Lib.hid hkk
      have HSV := Lib.hid hsv
      have HOP := Lib.hid os2
      have HM : Hid (Mo wr S3 bm ⟨nvM f view ps, .slice none 0 0, .slice none 0 0, .slice none 0 0, .slice A2 j c2⟩) := Lib.hid ⟨⟨RdP.none_, RdP.none_, RdC.nil, by
        have h := HQ.out.rd
        rw [HLp.out] at h
        exact h.keeps (Keeps.mono fun b hb hP => ⟨hP.1, fun hh => hP.2.1 (.inl hh), hP.2.2⟩)⟩⟩
      have HFk : Hid (∀ n a m', dN (Psp.encN sv ++ Psp.encM (nvM f view ps)) 0 = some (n, a) → Psp.parseM ((Psp.encN sv ++ Psp.encM (nvM f view ps)).drop a.toNat) = some m' → FormOk f cl m') := Lib.hid (open_form hno.1 hnk.1 (fun vb vo vc vp w P hx hw => form_8 _ vb vo vc vp f cl w P hx hw (may_of hf) rfl))
      clear hpl1 hpl2 hpl3 hpl4 hpn hps hK5 hnf hno os1 os2 hkk hkx hsub hsv hsv2 hK6 hoe hnk HQ hd1
      have hd1 : decide ((j : Int) < (j : Int)) = false := by simp
      go_upto_region 21 with (go_at_call 33; refine (HQn.out _).mono ?_; rintro e w' ⟨rfl, rfl⟩)
      have f_m0 : wr.cell? ⟨w6.heap.size, 0, none⟩ = some (.int .i64 8) := Hm.out.cell rfl
      have f_m1 : wr.cell? ⟨w6.heap.size, 1, none⟩ = some (.int .i64 (Psp.primary f view 0)) := Hm.out.cell rfl
      have f_m2 : wr.cell? ⟨w6.heap.size, 2, none⟩ = some (.int .i64 view) := Hm.out.cell rfl
      have f_m3 : wr.cell? ⟨w6.heap.size, 3, none⟩ = some (.int .i64 0) := Hm.out.cell rfl
      have f_m4 : wr.cell? ⟨w6.heap.size, 4, none⟩ = some (.int .i64 0) := Hm.out.cell rfl
      have f_m5 : wr.cell? ⟨w6.heap.size, 5, none⟩ = some (.int .i64 0) := Hm.out.cell rfl
      have f_m6 : wr.cell? ⟨w6.heap.size, 6, none⟩ = some (.slice none 0 0) := Hm.out.cell rfl
      have f_m7 : wr.cell? ⟨w6.heap.size, 7, none⟩ = some (.slice none 0 0) := Hm.out.cell rfl
      have f_m8 : wr.cell? ⟨w6.heap.size, 8, none⟩ = some (.slice none 0 0) := Hm.out.cell rfl
      have f_m9 : wr.cell? ⟨w6.heap.size, 9, none⟩ = some (.slice A2 j c2) := Hm.out.cell rfl
      go_wp2_with fail
      clear f_m0 f_m1 f_m2 f_m3 f_m4 f_m5 f_m6 f_m7 f_m8 f_m9 hd1
      refine (rbody_m (nvM f view ps) _ _ _ _ wr (HM.out.ok.keeps (Keeps.mono fun b hb _ => hb))).mono ?_
      intro e w10 hby
      obtain ⟨Ab, cb, rfl, hrb, hbq⟩ := hby.rdb (b := Psp.encM (nvM f view ps)) (o := true) (by rw [HNO.out]; rfl) HNO.out
      have HE : Hid (Bk w10 S3 bm (.slice Ab (Psp.encM (nvM f view ps)).length cb) (Psp.encM (nvM f view ps))) := Lib.hid (Bk.new hrb HT.out.lt HT.out.nt.lt.2)
      obtain ⟨nE, hnE⟩ : ∃ nE, (Psp.encM (nvM f view ps)).length = nE := ⟨_, rfl⟩
      rw [hnE] at HE ⊢
      clear hby hrb hnE
      replace Ht := Lib.hid (Ht.out.below hbq)
      replace Hq := Lib.hid (Hq.out.below hbq)
      replace Hm := Lib.hid (Hm.out.below hbq)
      replace HC := Lib.hid (HC.out.below hbq)
      replace Hp := Lib.hid (Hp.out.below hbq)
      replace HM := Lib.hid (HM.out.below hbq)
      replace HT := Lib.hid (HT.out.below hbq)
      replace HB := Lib.hid (Below.then HB.out hbq HB.out.size)
      clear hbq
      have f_t0 : w10.cell? ⟨w1.heap.size, 0, none⟩ = some (.pointer (some ⟨g, 0, none⟩)) := Ht.out.cell rfl
      have f_t1 : w10.cell? ⟨w1.heap.size, 1, none⟩ = some (.pointer (some ⟨h, 0, none⟩)) := Ht.out.cell rfl
      have f_m1 : w10.cell? ⟨w6.heap.size, 1, none⟩ = some (.int .i64 (Psp.primary f view 0)) := Hm.out.cell rfl
      go_wp2_with fail
      clear f_t0 f_t1 f_m1
      refine (two_seal S3 g bm h K5 (Psp.primary f view 0) (Psp.encM (nvM f view ps)) _ w10 (Off w10 S3 bm) HT.out (kM_ok (m := nvM f view ps) (show isI64 (Psp.primary f view 0) from ⟨by omega, by omega⟩) HNO.out) (by omega) HE.out.rd (fun b hb => hb.2)).mono ?_
      rintro e w11 ⟨rfl, S6, hT', hS', hF'⟩
      rw [HSV.out]
      rw [← HKK.out] at hT'
      replace Ht := Lib.hid (Ht.out.seal hF' hS')
      replace Hq := Lib.hid (Hq.out.seal hF' hS')
      replace Hm := Lib.hid (Hm.out.seal hF' hS')
      replace HC := Lib.hid (HC.out.seal hF' hS')
      replace Hp := Lib.hid (Hp.out.seal hF' hS')
      replace HM := Lib.hid (HM.out.seal hF' hS')
      replace HE := Lib.hid (HE.out.seal hF' hS')
      have hzb := HB.out.size
      replace HB := Lib.hid (HB.out.trans ((hF').to_below (B := w.heap.size) hzb (fun k hk hh => by rcases hh with hh | hh; (have := HSn.out k hh; omega); omega)))
      replace HSn : Hid (∀ b, (S6) b → w.heap.size ≤ b) := Lib.hid fun b hb => by rcases hS' b hb with h1 | h1; exact HSn.out b h1; omega
      clear hzb
      replace HT := Lib.hid hT'
      clear hT' hS' hF'
      go_wp2_with fail
      refine (renv_any sv (Psp.encM (nvM f view ps)) _ w11 HE.out.all (by have := HNL.out; omega)).mono ?_
      intro e w12 hby
      obtain ⟨Av, cv_, rfl, hrb, hbq⟩ := hby.rdb (b := Psp.encN sv ++ Psp.encM (nvM f view ps)) (o := true) (by rw [HOE.out]; rfl) HOE.out
      obtain ⟨bs, hbs⟩ : ∃ bs, Psp.encN sv ++ Psp.encM (nvM f view ps) = bs := ⟨_, rfl⟩
      rw [hbs] at hrb HFk HOP ⊢
      have HV : Hid (Bk w12 S6 bm (.slice Av bs.length cv_) bs) := Lib.hid (Bk.new hrb HT.out.lt HT.out.nt.lt.2)
      clear hby hrb hbs
      clear HE
      replace Ht := Lib.hid (Ht.out.below hbq)
      replace Hq := Lib.hid (Hq.out.below hbq)
      replace Hm := Lib.hid (Hm.out.below hbq)
      replace HC := Lib.hid (HC.out.below hbq)
      replace Hp := Lib.hid (Hp.out.below hbq)
      replace HM := Lib.hid (HM.out.below hbq)
      replace HT := Lib.hid (HT.out.below hbq)
      replace HB := Lib.hid (Below.then HB.out hbq HB.out.size)
      clear hbq
      have f_t0 : w12.cell? ⟨w1.heap.size, 0, none⟩ = some (.pointer (some ⟨g, 0, none⟩)) := Ht.out.cell rfl
      go_wp2_with fail
      clear f_t0
      refine (open_m bs _ f cl g bm K6 w12 HV.out.all HT.out.nt HFk.out).mono ?_
      rintro e w13 ⟨h1, -, hbq⟩
      obtain ⟨vb, vo, vc, vp, rfl, hmx⟩ := h1 _ _ HOP.out
      obtain ⟨Gb, Go_, Gc, Gp, gb, go_, gc, gp, rfl, rfl, rfl, rfl⟩ := msg_slices hmx
      have HMx := Lib.hid hmx
      clear h1 hmx HV HFk HOP
      replace Ht := Lib.hid (Ht.out.below hbq)
      replace Hq := Lib.hid (Hq.out.below hbq)
      replace Hm := Lib.hid (Hm.out.below hbq)
      replace HC := Lib.hid (HC.out.below hbq)
      replace Hp := Lib.hid (Hp.out.below hbq)
      replace HM := Lib.hid (HM.out.below hbq)
      replace HT := Lib.hid (HT.out.below hbq)
      replace HB := Lib.hid (Below.then HB.out hbq HB.out.size)
      clear hbq
      go_upto_region 25 with fail
      have hba := alloc_below w13 (.cells #[.int .i64 (nvM f view ps).k, .int .i64 (nvM f view ps).f, .int .i64 (nvM f view ps).v, .int .i64 (nvM f view ps).i, .int .i64 (nvM f view ps).q, .int .i64 (nvM f view ps).r, .slice Gb (nvM f view ps).b.length gb, .slice Go_ (nvM f view ps).o.length go_, .slice Gc (nvM f view ps).c.length gc, .slice Gp (nvM f view ps).p.length gp] 41)
      have hra : Rw (w13.alloc (.cells #[.int .i64 (nvM f view ps).k, .int .i64 (nvM f view ps).f, .int .i64 (nvM f view ps).v, .int .i64 (nvM f view ps).i, .int .i64 (nvM f view ps).q, .int .i64 (nvM f view ps).r, .slice Gb (nvM f view ps).b.length gb, .slice Go_ (nvM f view ps).o.length go_, .slice Gc (nvM f view ps).c.length gc, .slice Gp (nvM f view ps).p.length gp] 41)) S6 bm w13.heap.size (.cells #[.int .i64 (nvM f view ps).k, .int .i64 (nvM f view ps).f, .int .i64 (nvM f view ps).v, .int .i64 (nvM f view ps).i, .int .i64 (nvM f view ps).q, .int .i64 (nvM f view ps).r, .slice Gb (nvM f view ps).b.length gb, .slice Go_ (nvM f view ps).o.length go_, .slice Gc (nvM f view ps).c.length gc, .slice Gp (nvM f view ps).p.length gp] 41 (0, 0)) := Rw.new (.cells #[.int .i64 (nvM f view ps).k, .int .i64 (nvM f view ps).f, .int .i64 (nvM f view ps).v, .int .i64 (nvM f view ps).i, .int .i64 (nvM f view ps).q, .int .i64 (nvM f view ps).r, .slice Gb (nvM f view ps).b.length gb, .slice Go_ (nvM f view ps).o.length go_, .slice Gc (nvM f view ps).c.length gc, .slice Gp (nvM f view ps).p.length gp] 41) HT.out.lt HT.out.nt.lt.2
      have hsa : (w13.alloc (.cells #[.int .i64 (nvM f view ps).k, .int .i64 (nvM f view ps).f, .int .i64 (nvM f view ps).v, .int .i64 (nvM f view ps).i, .int .i64 (nvM f view ps).q, .int .i64 (nvM f view ps).r, .slice Gb (nvM f view ps).b.length gb, .slice Go_ (nvM f view ps).o.length go_, .slice Gc (nvM f view ps).c.length gc, .slice Gp (nvM f view ps).p.length gp] 41)).heap.size = w13.heap.size + 1 := by simp
      obtain ⟨w14, hWa⟩ : ∃ W_, w13.alloc (.cells #[.int .i64 (nvM f view ps).k, .int .i64 (nvM f view ps).f, .int .i64 (nvM f view ps).v, .int .i64 (nvM f view ps).i, .int .i64 (nvM f view ps).q, .int .i64 (nvM f view ps).r, .slice Gb (nvM f view ps).b.length gb, .slice Go_ (nvM f view ps).o.length go_, .slice Gc (nvM f view ps).c.length gc, .slice Gp (nvM f view ps).p.length gp] 41) = W_ := ⟨_, rfl⟩
      rw [hWa] at hba hra hsa ⊢
      have Hs_w14 := Lib.hid hsa
      have Hb_w14 := Lib.hid hba
      have Hu := Lib.hid hra
      clear hWa hra hsa
      replace Ht := Lib.hid (Ht.out.below hba)
      replace Hq := Lib.hid (Hq.out.below hba)
      replace Hm := Lib.hid (Hm.out.below hba)
      replace HC := Lib.hid (HC.out.below hba)
      replace Hp := Lib.hid (Hp.out.below hba)
      replace HM := Lib.hid (HM.out.below hba)
      replace HT := Lib.hid (HT.out.below hba)
      replace HB := Lib.hid (Below.then HB.out hba HB.out.size)
      clear hba
      have f_u0 : w14.cell? ⟨w13.heap.size, 0, none⟩ = some (.int .i64 (nvM f view ps).k) := Hu.out.cell rfl
      have f_u1 : w14.cell? ⟨w13.heap.size, 1, none⟩ = some (.int .i64 (nvM f view ps).f) := Hu.out.cell rfl
      have f_u2 : w14.cell? ⟨w13.heap.size, 2, none⟩ = some (.int .i64 (nvM f view ps).v) := Hu.out.cell rfl
      have f_u3 : w14.cell? ⟨w13.heap.size, 3, none⟩ = some (.int .i64 (nvM f view ps).i) := Hu.out.cell rfl
      have f_u4 : w14.cell? ⟨w13.heap.size, 4, none⟩ = some (.int .i64 (nvM f view ps).q) := Hu.out.cell rfl
      have f_u5 : w14.cell? ⟨w13.heap.size, 5, none⟩ = some (.int .i64 (nvM f view ps).r) := Hu.out.cell rfl
      have f_u6 : w14.cell? ⟨w13.heap.size, 6, none⟩ = some (.slice Gb (nvM f view ps).b.length gb) := Hu.out.cell rfl
      have f_u7 : w14.cell? ⟨w13.heap.size, 7, none⟩ = some (.slice Go_ (nvM f view ps).o.length go_) := Hu.out.cell rfl
      have f_u8 : w14.cell? ⟨w13.heap.size, 8, none⟩ = some (.slice Gc (nvM f view ps).c.length gc) := Hu.out.cell rfl
      have f_u9 : w14.cell? ⟨w13.heap.size, 9, none⟩ = some (.slice Gp (nvM f view ps).p.length gp) := Hu.out.cell rfl
      have f_m0 : w14.cell? ⟨w6.heap.size, 0, none⟩ = some (.int .i64 8) := Hm.out.cell rfl
      have f_m1 : w14.cell? ⟨w6.heap.size, 1, none⟩ = some (.int .i64 (Psp.primary f view 0)) := Hm.out.cell rfl
      have f_m2 : w14.cell? ⟨w6.heap.size, 2, none⟩ = some (.int .i64 view) := Hm.out.cell rfl
      have f_m3 : w14.cell? ⟨w6.heap.size, 3, none⟩ = some (.int .i64 0) := Hm.out.cell rfl
      have f_m4 : w14.cell? ⟨w6.heap.size, 4, none⟩ = some (.int .i64 0) := Hm.out.cell rfl
      have f_m5 : w14.cell? ⟨w6.heap.size, 5, none⟩ = some (.int .i64 0) := Hm.out.cell rfl
      have f_m6 : w14.cell? ⟨w6.heap.size, 6, none⟩ = some (.slice none 0 0) := Hm.out.cell rfl
      have f_m7 : w14.cell? ⟨w6.heap.size, 7, none⟩ = some (.slice none 0 0) := Hm.out.cell rfl
      have f_m8 : w14.cell? ⟨w6.heap.size, 8, none⟩ = some (.slice none 0 0) := Hm.out.cell rfl
      have f_m9 : w14.cell? ⟨w6.heap.size, 9, none⟩ = some (.slice A2 j c2) := Hm.out.cell rfl
      go_wp2_with fail
      clear f_u0 f_u1 f_u2 f_u3 f_u4 f_u5 f_u6 f_u7 f_u8 f_u9 f_m0 f_m1 f_m2 f_m3 f_m4 f_m5 f_m6 f_m7 f_m8 f_m9
      refine (msg_same_yes (nvM f view ps) (nvM f view ps) _ _ _ _ _ _ _ _ w14 _ _ (HMx.out.keeps ⟨Hb_w14.out.size, fun b hb hlt => ⟨(Hb_w14.out.block b hlt), hb⟩⟩) HM.out.ok rfl).mono ?_
      rintro e w15 ⟨rfl, hbq⟩
      replace Ht := Lib.hid (Ht.out.below hbq)
      replace Hq := Lib.hid (Hq.out.below hbq)
      replace Hm := Lib.hid (Hm.out.below hbq)
      replace Hu := Lib.hid (Hu.out.below hbq)
      replace HC := Lib.hid (HC.out.below hbq)
      replace Hp := Lib.hid (Hp.out.below hbq)
      replace HM := Lib.hid (HM.out.below hbq)
      replace HT := Lib.hid (HT.out.below hbq)
      replace HB := Lib.hid (Below.then HB.out hbq HB.out.size)
      clear hbq
      clear Hu Hm HM HMx
      go_upto_region 27 with fail
      have f_q0 : w15.cell? ⟨w3.heap.size, 0, none⟩ = some (.int .i64 p.f) := Hq.out.cell rfl
      have f_q1 : w15.cell? ⟨w3.heap.size, 1, none⟩ = some (.slice B2 p.o.length d2) := Hq.out.cell rfl
      have f_q2 : w15.cell? ⟨w3.heap.size, 2, none⟩ = some (.slice A p.c.length cA) := Hq.out.cell rfl
      have f_q3 : w15.cell? ⟨w3.heap.size, 3, none⟩ = some (.int .i64 p.s) := Hq.out.cell rfl
      go_upto_region 28 with fail
      clear f_q0 f_q1 f_q2 f_q3
      have lb1 : w3.heap.size < w15.heap.size := Hq.out.lt
      have lb2 : w1.heap.size < w15.heap.size := Ht.out.lt
      have lb3 : g < w15.heap.size := HT.out.nt.lt.1
      have lb4 : w.heap.size ≤ w15.heap.size := HB.out.size
      have hba := alloc_below w15 (.cells #[.int .i64 p.f, .slice B2 p.o.length d2, .slice A p.c.length cA, .int .i64 p.s] 62)
      have hra : Rw (w15.alloc (.cells #[.int .i64 p.f, .slice B2 p.o.length d2, .slice A p.c.length cA, .int .i64 p.s] 62)) S6 bm w15.heap.size (.cells #[.int .i64 p.f, .slice B2 p.o.length d2, .slice A p.c.length cA, .int .i64 p.s] 62 (0, 0)) := Rw.new (.cells #[.int .i64 p.f, .slice B2 p.o.length d2, .slice A p.c.length cA, .int .i64 p.s] 62) HT.out.lt HT.out.nt.lt.2
      have hsa : (w15.alloc (.cells #[.int .i64 p.f, .slice B2 p.o.length d2, .slice A p.c.length cA, .int .i64 p.s] 62)).heap.size = w15.heap.size + 1 := by simp
      obtain ⟨w16, hWa⟩ : ∃ W_, w15.alloc (.cells #[.int .i64 p.f, .slice B2 p.o.length d2, .slice A p.c.length cA, .int .i64 p.s] 62) = W_ := ⟨_, rfl⟩
      rw [hWa] at hba hra hsa ⊢
      have Hs_w16 := Lib.hid hsa
      have Hb_w16 := Lib.hid hba
      have Hz := Lib.hid hra
      clear hWa hra hsa
      replace Ht := Lib.hid (Ht.out.below hba)
      replace Hq := Lib.hid (Hq.out.below hba)
      replace HC := Lib.hid (HC.out.below hba)
      replace Hp := Lib.hid (Hp.out.below hba)
      replace HT := Lib.hid (HT.out.below hba)
      replace HB := Lib.hid (Below.then HB.out hba HB.out.size)
      clear hba
      go_upto_block 4 with (go_at_call 8; refine (within_i _ _ _ (by first | assumption | exact ⟨by omega, by omega⟩) (by exact ⟨by omega, by omega⟩)).mono ?_; rintro e w' ⟨rfl, rfl⟩)
      obtain ⟨t, ht⟩ : ∃ t, Psp.within turn 4 = t := ⟨_, rfl⟩
      have tw0 : 0 ≤ t := by rw [← ht]; exact Psp.within_lo _ _
      have tw1 : t < 4 := by rw [← ht]; exact Psp.within_hi _ _ (by omega)
      rw [ht]
      obtain ⟨vz, hvz⟩ : ∃ vz, vz ∈ p.o := by
        have hl_ := HPF.out.len hf
        cases hpo : p.o with
        | nil => rw [hpo] at hl_; simp at hl_; omega
        | cons a t => exact ⟨a, List.mem_cons_self⟩
      have Hvz := Lib.hid hvz
      have HPW6 : Hid (wfPart p) := Lib.hid (HPF.out.wf hf hcl.2 (by omega))
      have hov := other_view hv
      have hnd := HPF.out.nd
      clear ht hvz
      go_cut [] from 177 to 203 (fun wx => ∃ (d : Psp.Part) (Vo Vc : Value), Hid (viewedB K6 view d f cl = false) ∧ Hid (viewedB K6 (view % 12 + 1) d f cl = false) ∧ Hid (wfPart d) ∧ Hid (∀ c ∈ d.c, c.b.length ≤ 1099511627776) ∧ Hid (Rw wx S6 bm w15.heap.size (.cells #[.int .i64 d.f, Vo, Vc, .int .i64 d.s] 62 (0, 0))) ∧ Hid (Pk wx S6 bm ⟨d, Vo, Vc⟩) ∧ Hid (Tw wx S6 g bm h K6) ∧ Hid (Rw wx S6 bm w1.heap.size (.cells #[.pointer (some ⟨g, 0, none⟩), .pointer (some ⟨h, 0, none⟩)] 30 (0, 0))) ∧ Hid (Below w.heap.size w wx))
      case first =>
        have ways : t = 0 ∨ t = 1 ∨ t = 2 ∨ t = 3 := by omega
        clear tw0 tw1
        have hoz := Hz.out.off
        have hz_ := HB.out.size
        have hzs := Hz.out.lt
        rcases ways with rfl | rfl | rfl | rfl
        · have hwp : IntKind.i64.wrap (p.f + 1) = p.f + 1 := IntWalk.i64_in _ (by omega)
          have hmo : (p.f + 1).tmod (Psp.nodes f) = (p.f + 1) % Psp.nodes f := Int.tmod_eq_emod_of_nonneg (by omega)
          have hnz : ¬ Psp.nodes f = 0 := by omega
          have hm0 := Int.emod_nonneg (p.f + 1) hnz
          have hm1 := Int.emod_lt_of_pos (p.f + 1) (show 0 < Psp.nodes f by omega)
          have hof := other_from hf hnd
          obtain ⟨nf, hnf⟩ : ∃ nf, (p.f + 1) % Psp.nodes f = nf := ⟨_, rfl⟩
          rw [hnf] at hmo hm0 hm1 hof
          clear hnf
          go_upto_region 31 with fail
          have l0 := later_cell (w := w16.drew) (show w16.drew.cell? ⟨w15.heap.size, 0, none⟩ = some (.int .i64 p.f) from Hz.out.cell rfl)
          have fc0 : w16.drew.cell? ⟨w15.heap.size, 0, none⟩ = some (.int .i64 p.f) := Hz.out.cell rfl
          have fz0 : w16.drew.frozen? ⟨w15.heap.size, 0, none⟩ = false := Hz.out.ice 0
          refine wp_region_phases [(true, 0), (true, 1), (true, 2), (true, 3), (false, 4)] (by kernel_rfl) (by kernel_rfl) ?_
          simp only [phW, List.getElem?_cons_zero, List.getElem?_cons_succ, Option.toList, List.length_cons, List.length_nil, Nat.reduceAdd, List.drop_succ_cons, List.drop_zero]
          repeat (first | go_big_quiet_step (fail) | quiet_step (fail) | refine wpQuiet_nil ?_)
          go_wp2_with (go_at_call 30; refine (r_nodes_any _ _).mono ?_; rintro e w' ⟨rfl, rfl⟩)
          refine And.intro ⟨⟨_, Below.refl _ _⟩, rfl⟩ ?_
          go_wp2_with fail
          clear l0 fz0 fc0
          go_meet
          have hfs : Fp (fun b => b = w15.heap.size) w16 (w16.drew.setCell ⟨w15.heap.size, 0, none⟩ (.int .i64 nf)) := ((Fp.refl (fun b => b = w15.heap.size) w16).drew).setCell (p := ⟨w15.heap.size, 0, none⟩) (Or.inl (show w15.heap.size = w15.heap.size from rfl)) _
          have hrw : (w16.drew.setCell ⟨w15.heap.size, 0, none⟩ (.int .i64 nf)).heap[w15.heap.size]? = some (.cells #[.int .i64 nf, .slice B2 p.o.length d2, .slice A p.c.length cA, .int .i64 p.s] 62 (0, 0)) := by rw [heap_setCell_same w16.drew w15.heap.size 0 _ _ _ Hz.out.row]; rfl
          refine ⟨{ p with f := nf }, (.slice B2 p.o.length d2), (.slice A p.c.length cA), Lib.hid (tp_from HPF.out hof), Lib.hid (tp_from HPF.out hof), Lib.hid ⟨⟨by show -9223372036854775808 ≤ nf; omega, by show nf ≤ _; omega⟩, HPW6.out.2⟩, Lib.hid (fun c hc => Nat.le_trans (HPF.out.big c hc) (by omega)), Lib.hid ⟨hrw, hoz.seal hfs fun b hb => .inl hb⟩, Lib.hid ?_, Lib.hid (HT.out.fp hfs (by omega) (fun he => hoz.2.2 he.symm) (fun b hb he => hoz.2.1 (he ▸ hb))), Lib.hid (Ht.out.other hfs (by omega)), Lib.hid (HB.out.trans ((hfs).to_below (B := w.heap.size) hz_ (fun k _ hk => by omega)))⟩
          exact (Hp.out.other hfs (by omega)).pk
        · have hsb := sealed_bd HPF.out.se
          have hwp : IntKind.i64.wrap (p.s + 1) = p.s + 1 := IntWalk.i64_in _ (by omega)
          have f_z3 : w16.cell? ⟨w15.heap.size, 3, none⟩ = some (.int .i64 p.s) := Hz.out.cell rfl
          have fz_z3 : w16.frozen? ⟨w15.heap.size, 3, none⟩ = false := Hz.out.ice 3
          go_wp2_with fail
          clear f_z3 fz_z3
          go_meet
          have hfs : Fp (fun b => b = w15.heap.size) w16 (w16.setCell ⟨w15.heap.size, 3, none⟩ (.int .i64 (p.s + 1))) := ((Fp.refl (fun b => b = w15.heap.size) w16)).setCell (p := ⟨w15.heap.size, 3, none⟩) (Or.inl (show w15.heap.size = w15.heap.size from rfl)) _
          have hrw : (w16.setCell ⟨w15.heap.size, 3, none⟩ (.int .i64 (p.s + 1))).heap[w15.heap.size]? = some (.cells #[.int .i64 p.f, .slice B2 p.o.length d2, .slice A p.c.length cA, .int .i64 (p.s + 1)] 62 (0, 0)) := by rw [heap_setCell_same w16 w15.heap.size 3 _ _ _ Hz.out.row]; rfl
          refine ⟨{ p with s := p.s + 1 }, (.slice B2 p.o.length d2), (.slice A p.c.length cA), Lib.hid (tp_seal HPF.out), Lib.hid (tp_view (q := { p with s := p.s + 1 }) HPF.out Hvz.out Hvz.out hov), Lib.hid ⟨HPW6.out.1, HPW6.out.2.1, HPW6.out.2.2.1, ⟨by show _ ≤ p.s + 1; omega, by show p.s + 1 ≤ _; omega⟩⟩, Lib.hid (fun c hc => Nat.le_trans (HPF.out.big c hc) (by omega)), Lib.hid ⟨hrw, hoz.seal hfs fun b hb => .inl hb⟩, Lib.hid ?_, Lib.hid (HT.out.fp hfs (by omega) (fun he => hoz.2.2 he.symm) (fun b hb he => hoz.2.1 (he ▸ hb))), Lib.hid (Ht.out.other hfs (by omega)), Lib.hid (HB.out.trans ((hfs).to_below (B := w.heap.size) hz_ (fun k _ hk => by omega)))⟩
          exact (Hp.out.other hfs (by omega)).pk
        · have hl_ := HPF.out.len hf
          obtain ⟨_, Ax, cx, ex, hcx1, hcx2, hxx⟩ := RdP.parts Hp.out.ok.1
          obtain ⟨bx, ox, e9, _, _, _⟩ := hxx (by show 0 < p.o.length; omega)
          injection ex with ex1 _ ex2
          rw [← ex1] at e9
          rw [← ex2] at hcx1 hcx2
          subst e9
          dsimp only at hcx1
          have i1 : (1 : Int) ≤ (p.o.length : Int) := by omega
          have i2 : (p.o.length : Int) ≤ (d2 : Int) := by omega
          have i3 : (d2 : Int) ≤ 9223372036854775807 := by omega
          have i4 : (1 : Int) < (d2 : Int) := by omega
          have i5 : ¬ d2 = 1 := by omega
          have i6 : (1 : Int) ≤ (d2 : Int) := by omega
          clear hl_ hxx ex1 ex2 hcx1 hcx2
          have f_z1 : w16.cell? ⟨w15.heap.size, 1, none⟩ = some (.slice (some ⟨bx, ox, none⟩) p.o.length d2) := Hz.out.cell rfl
          have fz_z1 : w16.frozen? ⟨w15.heap.size, 1, none⟩ = false := Hz.out.ice 1
          go_wp2_with fail
          clear f_z1 fz_z1
          go_meet
          have hfs : Fp (fun b => b = w15.heap.size) w16 (w16.setCell ⟨w15.heap.size, 1, none⟩ (.slice (some ⟨bx, ox + 1 * 2, none⟩) (p.o.length - 1) (d2 - 1))) := ((Fp.refl (fun b => b = w15.heap.size) w16)).setCell (p := ⟨w15.heap.size, 1, none⟩) (Or.inl (show w15.heap.size = w15.heap.size from rfl)) _
          have hrw : (w16.setCell ⟨w15.heap.size, 1, none⟩ (.slice (some ⟨bx, ox + 1 * 2, none⟩) (p.o.length - 1) (d2 - 1))).heap[w15.heap.size]? = some (.cells #[.int .i64 p.f, .slice (some ⟨bx, ox + 1 * 2, none⟩) (p.o.length - 1) (d2 - 1), .slice A p.c.length cA, .int .i64 p.s] 62 (0, 0)) := by rw [heap_setCell_same w16 w15.heap.size 1 _ _ _ Hz.out.row]; rfl
          refine ⟨{ p with o := p.o.drop 1 }, (.slice (some ⟨bx, ox + 1 * 2, none⟩) (p.o.length - 1) (d2 - 1)), (.slice A p.c.length cA), Lib.hid (tp_votes HPF.out hf), Lib.hid (tp_votes HPF.out hf), Lib.hid ⟨HPW6.out.1, fun v hv_ => HPW6.out.2.1 v (List.mem_of_mem_drop hv_), HPW6.out.2.2⟩, Lib.hid (fun c hc => Nat.le_trans (HPF.out.big c hc) (by omega)), Lib.hid ⟨hrw, hoz.seal hfs fun b hb => .inl hb⟩, Lib.hid ?_, Lib.hid (HT.out.fp hfs (by omega) (fun he => hoz.2.2 he.symm) (fun b hb he => hoz.2.1 (he ▸ hb))), Lib.hid (Ht.out.other hfs (by omega)), Lib.hid (HB.out.trans ((hfs).to_below (B := w.heap.size) hz_ (fun k _ hk => by omega)))⟩
          have hp_ := (Hp.out.other hfs (by omega)).pk
          exact ⟨rdv_drop hp_.1 (by have := HPF.out.len hf; omega), hp_.2⟩
        · go_wp2_with fail
          refine (copy_certso' _ p.c w16 _ HC.out.rd (by have := HPF.out.cs.n4; omega) (fun c hc => ⟨by have := (HPF.out.cs.cf c hc).sb; omega, by have := (HPF.out.cs.cf c hc).len hf; omega⟩)).mono ?_
          rintro e w17 ⟨Q, cq, xs, rfl, hxs, hown, hin, hbq⟩
          have hxl : xs.length = p.c.length := by rw [← hxs, List.length_map]
          have hSb : ∀ b, S6 b → b < w16.heap.size := HT.out.lt
          have hbb : bm < w16.heap.size := HT.out.nt.lt.2
          have HG : Hid (Cg w17 (fun b => S6 b ∨ b = w15.heap.size) bm w16.heap.size xs (.slice Q p.c.length cq)) := Lib.hid ⟨by rw [hxl]; exact hown, fun b hb => by
            have h1 := (hown.lt b hb).1
            exact ⟨by rintro (hh | hh); (have := hSb b hh; omega); omega, by omega⟩, fun y hy => by
            obtain ⟨⟨o1, o2⟩, o3⟩ := hin y hy
            exact ⟨(RdP.of_own o1).mono fun b hb hP => ⟨⟨hb, by rintro (hh | hh); (have := hSb b hh; have := hP.2; omega); (have := hP.2; omega), by have := hP.2; omega⟩, o3 b (.inl hP.1)⟩, (RdP.of_own o2).mono fun b hb hP => ⟨⟨hb, by rintro (hh | hh); (have := hSb b hh; have := hP.2; omega); (have := hP.2; omega), by have := hP.2; omega⟩, o3 b (.inr hP.1)⟩⟩⟩
          have Hown := Lib.hid hown
          have Hxs := Lib.hid hxs
          have Hxl := Lib.hid hxl
          have hp4 := HPF.out.cs.n4
          have hsz := hbq.size
          clear hown hxs hin hxl
          replace Ht := Lib.hid (Ht.out.below hbq)
          replace Hq := Lib.hid (Hq.out.below hbq)
          replace Hz := Lib.hid (Hz.out.below hbq)
          replace HC := Lib.hid (HC.out.below hbq)
          replace Hp := Lib.hid (Hp.out.below hbq)
          replace HT := Lib.hid (HT.out.below hbq)
          replace HB := Lib.hid (Below.then HB.out hbq HB.out.size)
          clear hbq
          go_wp2_with (at_builtin; refine wpList_app1 certE rfl _ _ rfl w16.heap.size (.slice Q p.c.length cq) p.c.length (xs.flatMap cv) rfl Hown.out _ rfl rfl (by simp [Value.oneCell']) (by omega) (by decide) (by omega) ?_; intro v' w18 hown8 hg8 _ hv8; have Hown8 := Lib.hid hown8; have Hg8 := Lib.hid hg8; have Hv8 := Lib.hid hv8; clear hown8 hg8 hv8; obtain ⟨A8, c8, rfl, _, _, _⟩ := own_slice Hown8.out; have fzz : w18.frozen? ⟨w15.heap.size, 2, none⟩ = false := (Hz.out.grown Hg8.out fun hh => by have := (Hown.out.lt _ hh).1; omega).ice 2; have fcz : w18.cell? ⟨w15.heap.size, 2, none⟩ = some (.slice A p.c.length cA) := (Hz.out.grown Hg8.out fun hh => by have := (Hown.out.lt _ hh).1; omega).cell rfl)
          clear fzz fcz
          go_meet
          have hob : ∀ b, (Value.slice Q p.c.length cq).ownBlock = some b → w16.heap.size ≤ b ∧ b < w17.heap.size := fun b hb => HG.out.own.lt b hb
          have hF78 : Fp (fun b => (Value.slice Q p.c.length cq).ownBlock = some b) w17 w18 := (Fp.refl _ w17).grown Hg8.out (fun j hj => Or.inl hj)
          have hG8 : Cg w18 (fun b => S6 b ∨ b = w15.heap.size) bm w16.heap.size (xs ++ [⟨⟨0, 1, 1, [], []⟩, .slice none 0 0, .slice none 0 0⟩]) (.slice A8 (p.c.length + 1) c8) := HG.out.snoc ⟨RdP.none_, RdP.none_⟩ (by rw [Hxl.out]; exact Hown8.out) Hg8.out Hv8.out (fun b hb => by rcases hb with hb | hb; (have := hSb b hb; omega); omega) (by omega)
          have hp8 := Hp.out.other hF78 fun b hb => by have := (hob b hb).1; omega
          have ht8 := Ht.out.grown Hg8.out fun hh => by have := (hob _ hh).1; omega
          have hz8 := Hz.out.grown Hg8.out fun hh => by have := (hob _ hh).1; omega
          have hT8 := HT.out.fp hF78 (fun hh => by have := (hob _ hh).1; omega) (fun hh => (HG.out.sep bm hh).2 rfl) (fun b hb hh => (HG.out.sep b hh).1 (.inl hb))
          have hw17 := HB.out.size
          have hB8 := HB.out.grown Hg8.out hw17 fun b hb => by have := (hob b hb).1; omega
          have hs78 := hF78.size
          have hfs : Fp (fun b => b = w15.heap.size) w18 (w18.setCell ⟨w15.heap.size, 2, none⟩ (.slice A8 (p.c.length + 1) c8)) := (Fp.refl (fun b => b = w15.heap.size) w18).setCell (p := ⟨w15.heap.size, 2, none⟩) (Or.inl (show w15.heap.size = w15.heap.size from rfl)) _
          have hrw : (w18.setCell ⟨w15.heap.size, 2, none⟩ (.slice A8 (p.c.length + 1) c8)).heap[w15.heap.size]? = some (.cells #[.int .i64 p.f, .slice B2 p.o.length d2, .slice A8 (p.c.length + 1) c8, .int .i64 p.s] 62 (0, 0)) := by rw [heap_setCell_same w18 w15.heap.size 2 _ _ _ hz8.row]; rfl
          have hoz8 := hz8.off
          have hG9 := (hG8.seal (hfs.mono fun b _ hb => .inl (.inr hb)) fun b hb => .inl hb).rd
          rw [List.map_append, Hxs.out] at hG9
          refine ⟨{ p with c := p.c ++ [⟨0, 1, 1, [], []⟩] }, (.slice B2 p.o.length d2), (.slice A8 (p.c.length + 1) c8), Lib.hid (tp_certs HPF.out _), Lib.hid (tp_certs HPF.out _), Lib.hid ⟨HPW6.out.1, HPW6.out.2.1, fun c hc => ?_, HPW6.out.2.2.2⟩, Lib.hid (fun c hc => ?_), Lib.hid ⟨hrw, hoz8.seal hfs fun b hb => .inl hb⟩, Lib.hid ⟨(hp8.other hfs (by omega)).pk.1, hG9.keeps (Keeps.mono fun b hb hP => ⟨hP.1, fun hh => hP.2.1 (.inl hh), hP.2.2⟩)⟩, Lib.hid (hT8.fp hfs (by omega) (fun he => hoz8.2.2 he.symm) (fun b hb he => hoz8.2.1 (he ▸ hb))), Lib.hid (ht8.other hfs (by omega)), Lib.hid (hB8.trans (hfs.to_below (B := w.heap.size) (by omega) (fun k _ hk => by omega)))⟩
          · rcases List.mem_append.1 hc with h | h
            · exact HPW6.out.2.2.1 c h
            · rw [List.mem_singleton.1 h]; exact ⟨⟨by decide, by decide⟩, ⟨by decide, by decide⟩, ⟨by decide, by decide⟩, fun r hr => (by cases hr), fun r hr => (by cases hr)⟩
          · rcases List.mem_append.1 hc with h | h
            · exact Nat.le_trans (HPF.out.big c h) (by omega)
            · rw [List.mem_singleton.1 h]; show 0 ≤ _; omega
      case rest =>
        clear HT HB Ht Hz Hq HC Hp
        obtain ⟨d, Vo, Vc, D1, D2, HDW, HDB, Hz, Hd, HT, Ht, HB⟩ := hcut
        have htm : view.tmod 12 = view % 12 := Int.tmod_eq_emod_of_nonneg (by omega)
        have hm0 := Int.emod_nonneg view (show (12 : Int) ≠ 0 by omega)
        have hm1 := Int.emod_lt_of_pos view (show (0 : Int) < 12 by omega)
        have hwp : IntKind.i64.wrap (view % 12 + 1) = view % 12 + 1 := IntWalk.i64_in _ (by omega)
        have f_z0 : wc.cell? ⟨w15.heap.size, 0, none⟩ = some (.int .i64 d.f) := Hz.out.cell rfl
        have f_z1 : wc.cell? ⟨w15.heap.size, 1, none⟩ = some (Vo) := Hz.out.cell rfl
        have f_z2 : wc.cell? ⟨w15.heap.size, 2, none⟩ = some (Vc) := Hz.out.cell rfl
        have f_z3 : wc.cell? ⟨w15.heap.size, 3, none⟩ = some (.int .i64 d.s) := Hz.out.cell rfl
        have f_t0 : wc.cell? ⟨w1.heap.size, 0, none⟩ = some (.pointer (some ⟨g, 0, none⟩)) := Ht.out.cell rfl
        go_wp2_with fail
        clear f_z0 f_z1 f_z2 f_z3 f_t0
        refine (viewed_m view d Vo Vc f cl g bm K6 wc _ ⟨by omega, by omega⟩ Hd.out HDW.out HT.out.nt HDB.out).mono ?_
        rw [D1.out]
        rintro e y1 ⟨rfl, hbq⟩
        replace Ht := Lib.hid (Ht.out.below hbq)
        replace Hz := Lib.hid (Hz.out.below hbq)
        replace Hd := Lib.hid (Pk.below Hd.out hbq)
        replace HT := Lib.hid (HT.out.below hbq)
        replace HB := Lib.hid (Below.then HB.out hbq HB.out.size)
        clear hbq
        have f_z0 : y1.cell? ⟨w15.heap.size, 0, none⟩ = some (.int .i64 d.f) := Hz.out.cell rfl
        have f_z1 : y1.cell? ⟨w15.heap.size, 1, none⟩ = some (Vo) := Hz.out.cell rfl
        have f_z2 : y1.cell? ⟨w15.heap.size, 2, none⟩ = some (Vc) := Hz.out.cell rfl
        have f_z3 : y1.cell? ⟨w15.heap.size, 3, none⟩ = some (.int .i64 d.s) := Hz.out.cell rfl
        have f_t0 : y1.cell? ⟨w1.heap.size, 0, none⟩ = some (.pointer (some ⟨g, 0, none⟩)) := Ht.out.cell rfl
        go_wp2_with fail
        clear f_z0 f_z1 f_z2 f_z3 f_t0
        refine (viewed_m (view % 12 + 1) d Vo Vc f cl g bm K6 y1 _ ⟨by omega, by omega⟩ Hd.out HDW.out HT.out.nt HDB.out).mono ?_
        rw [D2.out]
        rintro e y2 ⟨rfl, hbq⟩
        replace Ht := Lib.hid (Ht.out.below hbq)
        replace Hz := Lib.hid (Hz.out.below hbq)
        replace Hd := Lib.hid (Pk.below Hd.out hbq)
        replace HT := Lib.hid (HT.out.below hbq)
        replace HB := Lib.hid (Below.then HB.out hbq HB.out.size)
        clear hbq
        go_wp2_with fail
        refine (wakes06 _).mono ?_
        rintro e y3 ⟨rfl, hbq⟩
        go_wp2_with fail
        go_ret
        exact ⟨rfl, Below.then HB.out hbq HB.out.size⟩
end Go.Proofs.YtadpkjgjciodnaaGreat.msgsViews
