/- The walk of MsgsRaw. Printed by gen_wraw.py. -/
import Derived.Test.YtadpkjgjciodnaaGreatJ40Ra
import Derived.Test.YtadpkjgjciodnaaGreatJ22Ra
import Derived.Test.YtadpkjgjciodnaaGreatVwdRa
import Derived.Test.YtadpkjgjciodnaaGreatJ43Ra
namespace Go.Proofs.YtadpkjgjciodnaaGreat.msgsRaw
open Go.RowKit
set_option linter.unusedVariables false
set_option linter.unusedSimpArgs false

set_option maxRecDepth 100000 in
set_option maxHeartbeats 16000000 in
theorem walk (x : CertV) (y : PartV) (view f cl kind : Int) (w : World) (hx : CertOk w (fun b => b < w.heap.size) x ∧ wfCert x.c) (hy : PartOk w (fun b => b < w.heap.size) y ∧ wfPart y.p) (hv : isI64 view) (hf0 : isI64 f) (hcl0 : isI64 cl) (hk0 : isI64 kind) :
    Calls Tryz.prog 6 #[.agg (cv x).toArray, .agg (pv y).toArray, .int .i64 view, .int .i64 f, .int .i64 cl, .int .i64 kind] w fun e w' => e = .returned (.bool true) ∧ Below w.heap.size w w' := by
  obtain ⟨hx, hwc⟩ := hx
  obtain ⟨hy, hwp⟩ := hy
  obtain ⟨c, vb, vo⟩ := x
  obtain ⟨p, vpo, vpc⟩ := y
  obtain ⟨_, A1, c1, e1, _⟩ := RdP.parts hx.1
  obtain ⟨_, A2, c2, e2, _⟩ := RdP.parts hx.2
  obtain ⟨_, Ao, co, e3, _⟩ := RdP.parts hy.1
  obtain ⟨Lp, hLp, hrp, hcp⟩ := hy.2
  obtain ⟨_, Ac, cc, e4, _⟩ := hrp.parts
  have hpl : Lp.length = p.c.length := by have := congrArg List.length hLp; simpa using this
  rw [hpl] at e4
  dsimp only at e1 e2 e3 e4 hwc hwp
  subst e1 e2 e3 e4
  show Calls Tryz.prog 6 #[.agg #[.int .i64 c.v, .int .i64 c.i, .int .i64 c.q, .slice A1 c.b.length c1, .slice A2 c.o.length c2], .agg #[.int .i64 p.f, .slice Ao p.o.length co, .slice Ac p.c.length cc, .int .i64 p.s], .int .i64 view, .int .i64 f, .int .i64 cl, .int .i64 kind] w _
  have HX := Lib.hid hx
  have HY := Lib.hid hy
  have Hwc := Lib.hid hwc
  have Hwp := Lib.hid hwp
  have Hvw := Lib.hid hv
  clear hx hy hwc hwp hLp hrp hcp hpl hv
  have hb0 : Below w.heap.size w ((w.alloc (.cells #[.int .i64 c.v, .int .i64 c.i, .int .i64 c.q, .slice A1 c.b.length c1, .slice A2 c.o.length c2] 25)).alloc (.cells #[.int .i64 p.f, .slice Ao p.o.length co, .slice Ac p.c.length cc, .int .i64 p.s] 62)) := (alloc_below w _).trans ((alloc_below (w.alloc (.cells #[.int .i64 c.v, .int .i64 c.i, .int .i64 c.q, .slice A1 c.b.length c1, .slice A2 c.o.length c2] 25)) _).mono (by simp))
  have hc0 := box_below (heap_alloc_new w (.cells #[.int .i64 c.v, .int .i64 c.i, .int .i64 c.q, .slice A1 c.b.length c1, .slice A2 c.o.length c2] 25)) (alloc_below (w.alloc (.cells #[.int .i64 c.v, .int .i64 c.i, .int .i64 c.q, .slice A1 c.b.length c1, .slice A2 c.o.length c2] 25)) (.cells #[.int .i64 p.f, .slice Ao p.o.length co, .slice Ac p.c.length cc, .int .i64 p.s] 62)) (Nat.le_refl _)
  have hp0 : ((w.alloc (.cells #[.int .i64 c.v, .int .i64 c.i, .int .i64 c.q, .slice A1 c.b.length c1, .slice A2 c.o.length c2] 25)).alloc (.cells #[.int .i64 p.f, .slice Ao p.o.length co, .slice Ac p.c.length cc, .int .i64 p.s] 62)).heap[w.heap.size + 1]? = some (.cells #[.int .i64 p.f, .slice Ao p.o.length co, .slice Ac p.c.length cc, .int .i64 p.s] 62 (0, 0)) := by have h := heap_alloc_new (w.alloc (.cells #[.int .i64 c.v, .int .i64 c.i, .int .i64 c.q, .slice A1 c.b.length c1, .slice A2 c.o.length c2] 25)) (.cells #[.int .i64 p.f, .slice Ao p.o.length co, .slice Ac p.c.length cc, .int .i64 p.s] 62); simpa using h
  go_enter Tryz.func6, Tryz.ntmps6
  simp only [List.append_eq, List.cons_append, List.nil_append]
  go_upto_region 1 with fail
  obtain ⟨W0, hW0⟩ : ∃ W_, (w.alloc (.cells #[.int .i64 c.v, .int .i64 c.i, .int .i64 c.q, .slice A1 c.b.length c1, .slice A2 c.o.length c2] 25)).alloc (.cells #[.int .i64 p.f, .slice Ao p.o.length co, .slice Ac p.c.length cc, .int .i64 p.s] 62) = W_ := ⟨_, rfl⟩
  rw [hW0] at hb0 hc0 hp0 ⊢
  have HB0 := Lib.hid hb0
  have Hc : Hid (Rw W0 (fun _ => False) W0.heap.size w.heap.size (.cells #[.int .i64 c.v, .int .i64 c.i, .int .i64 c.q, .slice A1 c.b.length c1, .slice A2 c.o.length c2] 25 (0, 0))) := Lib.hid ⟨hc0, (Array.getElem?_eq_some_iff.1 hc0).1, fun h => h, by have := (Array.getElem?_eq_some_iff.1 hc0).1; omega⟩
  have Hp : Hid (Rw W0 (fun _ => False) W0.heap.size (w.heap.size + 1) (.cells #[.int .i64 p.f, .slice Ao p.o.length co, .slice Ac p.c.length cc, .int .i64 p.s] 62 (0, 0))) := Lib.hid ⟨hp0, (Array.getElem?_eq_some_iff.1 hp0).1, fun h => h, by have := (Array.getElem?_eq_some_iff.1 hp0).1; omega⟩
  clear hW0 hb0 hc0 hp0
  have f_c0 : W0.cell? ⟨w.heap.size, 0, none⟩ = some (.int .i64 c.v) := Hc.out.cell rfl
  have f_c1 : W0.cell? ⟨w.heap.size, 1, none⟩ = some (.int .i64 c.i) := Hc.out.cell rfl
  have f_c2 : W0.cell? ⟨w.heap.size, 2, none⟩ = some (.int .i64 c.q) := Hc.out.cell rfl
  have f_c3 : W0.cell? ⟨w.heap.size, 3, none⟩ = some (.slice A1 c.b.length c1) := Hc.out.cell rfl
  have f_c4 : W0.cell? ⟨w.heap.size, 4, none⟩ = some (.slice A2 c.o.length c2) := Hc.out.cell rfl
  go_wp2_with fail
  clear f_c0 f_c1 f_c2 f_c3 f_c4
  have hlb := alloc_below W0 (.cells #[.int .i64 c.v, .int .i64 c.i, .int .i64 c.q, .slice A1 c.b.length c1, .slice A2 c.o.length c2] 25)
  have hln := heap_alloc_new W0 (.cells #[.int .i64 c.v, .int .i64 c.i, .int .i64 c.q, .slice A1 c.b.length c1, .slice A2 c.o.length c2] 25)
  obtain ⟨W1, hW1⟩ : ∃ W_, W0.alloc (.cells #[.int .i64 c.v, .int .i64 c.i, .int .i64 c.q, .slice A1 c.b.length c1, .slice A2 c.o.length c2] 25) = W_ := ⟨_, rfl⟩
  rw [hW1] at hlb hln ⊢
  have hz1 := (Array.getElem?_eq_some_iff.1 hln).1
  have HB1 := Lib.hid (Below.then HB0.out hlb HB0.out.size)
  have hck : Ck W1 (fun _ => False) W1.heap.size ⟨c, .slice A1 c.b.length c1, .slice A2 c.o.length c2⟩ := CertOk.keeps HX.out ⟨HB1.out.size, fun b hb hlt => ⟨HB1.out.block b hlt, by have := HB1.out.size; omega, fun h => h, by have := HB1.out.size; omega⟩⟩
  have hrc := rdC_one (x := ⟨c, .slice A1 c.b.length c1, .slice A2 c.o.length c2⟩) (T := 25) (⟨hln, hz1, fun h => h, by omega⟩ : Rw W1 (fun _ => False) W1.heap.size W0.heap.size (.cells #[.int .i64 c.v, .int .i64 c.i, .int .i64 c.q, .slice A1 c.b.length c1, .slice A2 c.o.length c2] 25 (0, 0))) hck
  have Hc1 : Hid (W1.heap[w.heap.size]? = some (.cells #[.int .i64 c.v, .int .i64 c.i, .int .i64 c.q, .slice A1 c.b.length c1, .slice A2 c.o.length c2] 25 (0, 0))) := Lib.hid ((hlb.block _ Hc.out.lt).trans Hc.out.row)
  have Hp1 : Hid (W1.heap[w.heap.size + 1]? = some (.cells #[.int .i64 p.f, .slice Ao p.o.length co, .slice Ac p.c.length cc, .int .i64 p.s] 62 (0, 0))) := Lib.hid ((hlb.block _ Hp.out.lt).trans Hp.out.row)
  have HRC := Lib.hid hrc
  clear hW1 hlb hln hck hrc Hc Hp HB0
  refine (heavyC_any _ [c] W1 _ HRC.out).mono ?_
  rintro e w' ⟨rfl, rfl⟩
  cases hhc : heavyC [c] with
  | true =>
    go_wp2_with fail
    refine (wakes06 _).mono ?_
    rintro e w2 ⟨rfl, hb2⟩
    go_wp2_with fail
    go_ret
    exact ⟨rfl, Below.then HB1.out hb2 HB1.out.size⟩
  | false =>
    have Hlc := Lib.hid (heavyC_no hhc)
    clear hhc HRC
    have f_p0 : W1.cell? ⟨w.heap.size + 1, 0, none⟩ = some (.int .i64 p.f) := by rw [cell_of_row _ _ 0 _ _ _ Hp1.out]; rfl
    have f_p1 : W1.cell? ⟨w.heap.size + 1, 1, none⟩ = some (.slice Ao p.o.length co) := by rw [cell_of_row _ _ 1 _ _ _ Hp1.out]; rfl
    have f_p2 : W1.cell? ⟨w.heap.size + 1, 2, none⟩ = some (.slice Ac p.c.length cc) := by rw [cell_of_row _ _ 2 _ _ _ Hp1.out]; rfl
    have f_p3 : W1.cell? ⟨w.heap.size + 1, 3, none⟩ = some (.int .i64 p.s) := by rw [cell_of_row _ _ 3 _ _ _ Hp1.out]; rfl
    go_wp2_with fail
    clear f_p0 f_p1 f_p2 f_p3
    have hlb := alloc_below W1 (.cells #[.int .i64 p.f, .slice Ao p.o.length co, .slice Ac p.c.length cc, .int .i64 p.s] 62)
    have hln := heap_alloc_new W1 (.cells #[.int .i64 p.f, .slice Ao p.o.length co, .slice Ac p.c.length cc, .int .i64 p.s] 62)
    obtain ⟨W2, hW2⟩ : ∃ W_, W1.alloc (.cells #[.int .i64 p.f, .slice Ao p.o.length co, .slice Ac p.c.length cc, .int .i64 p.s] 62) = W_ := ⟨_, rfl⟩
    rw [hW2] at hlb hln ⊢
    have hz2 := (Array.getElem?_eq_some_iff.1 hln).1
    have HB2 := Lib.hid (Below.then HB1.out hlb HB1.out.size)
    have hpk : Pk W2 (fun _ => False) W2.heap.size ⟨p, .slice Ao p.o.length co, .slice Ac p.c.length cc⟩ := PartOk.keeps' HY.out ⟨HB2.out.size, fun b hb hlt => ⟨HB2.out.block b hlt, by have := HB2.out.size; omega, fun h => h, by have := HB2.out.size; omega⟩⟩
    have hra := rdA_one (x := ⟨p, .slice Ao p.o.length co, .slice Ac p.c.length cc⟩) (T := 62) (⟨hln, hz2, fun h => h, by omega⟩ : Rw W2 (fun _ => False) W2.heap.size W1.heap.size (.cells #[.int .i64 p.f, .slice Ao p.o.length co, .slice Ac p.c.length cc, .int .i64 p.s] 62 (0, 0))) hpk
    have Hc2 : Hid (W2.heap[w.heap.size]? = some (.cells #[.int .i64 c.v, .int .i64 c.i, .int .i64 c.q, .slice A1 c.b.length c1, .slice A2 c.o.length c2] 25 (0, 0))) := Lib.hid ((hlb.block _ (Array.getElem?_eq_some_iff.1 Hc1.out).1).trans Hc1.out)
    have Hp2 : Hid (W2.heap[w.heap.size + 1]? = some (.cells #[.int .i64 p.f, .slice Ao p.o.length co, .slice Ac p.c.length cc, .int .i64 p.s] 62 (0, 0))) := Lib.hid ((hlb.block _ (Array.getElem?_eq_some_iff.1 Hp1.out).1).trans Hp1.out)
    have HRA := Lib.hid hra
    clear hW2 hlb hln hpk hra Hc1 Hp1 HB1
    refine (heavy_m ⟨0, 0, 0, 0, 0, 0, [], [], [], [p]⟩ (.slice none 0 0) (.slice none 0 0) (.slice none 0 0) (.slice (some ⟨W1.heap.size, 0, none⟩) 1 1) W2 _ ⟨RdP.none_, RdP.none_, RdC.nil, HRA.out⟩).mono ?_
    rintro e w3 ⟨rfl, hb3⟩
    have HB3 := Lib.hid (Below.then HB2.out hb3 HB2.out.size)
    have Hc3 := Lib.hid ((hb3.block _ (Array.getElem?_eq_some_iff.1 Hc2.out).1).trans Hc2.out)
    have Hp3 := Lib.hid ((hb3.block _ (Array.getElem?_eq_some_iff.1 Hp2.out).1).trans Hp2.out)
    clear hb3 Hc2 Hp2 HB2 HRA
    cases hhm : heavyM ⟨0, 0, 0, 0, 0, 0, [], [], [], [p]⟩ with
    | true =>
      go_wp2_with fail
      refine (wakes06 _).mono ?_
      rintro e w4 ⟨rfl, hb4⟩
      go_wp2_with fail
      go_ret
      exact ⟨rfl, Below.then HB3.out hb4 HB3.out.size⟩
    | false =>
      have Hlm := Lib.hid (heavyM_no hhm)
      clear hhm
      have hn30 : c.o.length ≤ 30 := (Hlc.out.2 c (by simp)).2
      have hnb : c.b.length ≤ 12 := (Hlc.out.2 c (by simp)).1
      have Hpb : Hid (∀ c ∈ p.c, c.b.length ≤ 1099511627776) := Lib.hid fun c hc => by have := ((Hlm.out.2.2.2.2 p (by simp)).2.2 c hc).1; omega
      go_wp2_with fail
      refine (begin_m w3).mono ?_
      rintro e w4 ⟨g, bm, h, rfl, hT, hb4, hg1, hg2, hg3⟩
      have hzw := HB3.out.size
      have hbmw : w.heap.size ≤ bm := by omega
      have HT := Lib.hid hT
      have HB := Lib.hid (Below.then HB3.out hb4 HB3.out.size)
      have HSn : Hid (∀ b, (fun b => b = h) b → w.heap.size ≤ b) := Lib.hid fun b hb => by have hb : b = h := hb; omega
      have hof : ∀ b, b < w3.heap.size → Off w4 (fun b => b = h) bm b := fun b hb => ⟨by have := hb4.size; omega, fun hh => by have hh : b = h := hh; omega, by omega⟩
      have Hc : Hid (Rw w4 (fun b => b = h) bm w.heap.size (.cells #[.int .i64 c.v, .int .i64 c.i, .int .i64 c.q, .slice A1 c.b.length c1, .slice A2 c.o.length c2] 25 (0, 0))) := Lib.hid ⟨(hb4.block _ (Array.getElem?_eq_some_iff.1 Hc3.out).1).trans Hc3.out, hof _ (Array.getElem?_eq_some_iff.1 Hc3.out).1⟩
      have Hp : Hid (Rw w4 (fun b => b = h) bm (w.heap.size + 1) (.cells #[.int .i64 p.f, .slice Ao p.o.length co, .slice Ac p.c.length cc, .int .i64 p.s] 62 (0, 0))) := Lib.hid ⟨(hb4.block _ (Array.getElem?_eq_some_iff.1 Hp3.out).1).trans Hp3.out, hof _ (Array.getElem?_eq_some_iff.1 Hp3.out).1⟩
      have Hx : Hid (Ck w4 (fun b => b = h) bm ⟨c, .slice A1 c.b.length c1, .slice A2 c.o.length c2⟩) := Lib.hid (CertOk.keeps HX.out ⟨HB.out.size, fun b hb hlt => ⟨HB.out.block b hlt, hof b (by omega)⟩⟩)
      have Hy : Hid (Pk w4 (fun b => b = h) bm ⟨p, .slice Ao p.o.length co, .slice Ac p.c.length cc⟩) := Lib.hid (PartOk.keeps' HY.out ⟨HB.out.size, fun b hb hlt => ⟨HB.out.block b hlt, hof b (by omega)⟩⟩)
      clear hT hb4 hof HB3 Hc3 Hp3 hzw
      go_upto_region 4 with fail
      have hba := alloc_below w4 (.cells #[.pointer (some ⟨g, 0, none⟩), .pointer (some ⟨h, 0, none⟩)] 30)
      have hra : Rw (w4.alloc (.cells #[.pointer (some ⟨g, 0, none⟩), .pointer (some ⟨h, 0, none⟩)] 30)) (fun b => b = h) bm w4.heap.size (.cells #[.pointer (some ⟨g, 0, none⟩), .pointer (some ⟨h, 0, none⟩)] 30 (0, 0)) := Rw.new (.cells #[.pointer (some ⟨g, 0, none⟩), .pointer (some ⟨h, 0, none⟩)] 30) HT.out.lt HT.out.nt.lt.2
      have hsa : (w4.alloc (.cells #[.pointer (some ⟨g, 0, none⟩), .pointer (some ⟨h, 0, none⟩)] 30)).heap.size = w4.heap.size + 1 := by simp
      obtain ⟨w5, hWa⟩ : ∃ W_, w4.alloc (.cells #[.pointer (some ⟨g, 0, none⟩), .pointer (some ⟨h, 0, none⟩)] 30) = W_ := ⟨_, rfl⟩
      rw [hWa] at hba hra hsa ⊢
      have Hs_w5 := Lib.hid hsa
      have Hb_w5 := Lib.hid hba
      have Ht := Lib.hid hra
      clear hWa hra hsa
      replace Hc := Lib.hid (Hc.out.below hba)
      replace Hp := Lib.hid (Hp.out.below hba)
      replace Hx := Lib.hid (Ck.below Hx.out hba)
      replace Hy := Lib.hid (Pk.below Hy.out hba)
      replace HT := Lib.hid (HT.out.below hba)
      replace HB := Lib.hid (Below.then HB.out hba HB.out.size)
      clear hba
      go_wp2_with fail
      go_loopw [15] (fun i wr => ∃ (k : Nat) (Kk : List Key) (S' : Nat → Prop), i = .int .i64 (k : Int) ∧ k ≤ c.o.length ∧ Kk.length ≤ k ∧ Hid (Tw wr S' g bm h Kk) ∧ Hid (∀ b, S' b → w.heap.size ≤ b) ∧ Hid (Below w.heap.size w wr) ∧ Hid (Rw wr S' bm w.heap.size (.cells #[.int .i64 c.v, .int .i64 c.i, .int .i64 c.q, .slice A1 c.b.length c1, .slice A2 c.o.length c2] 25 (0, 0))) ∧ Hid (Rw wr S' bm (w.heap.size + 1) (.cells #[.int .i64 p.f, .slice Ao p.o.length co, .slice Ac p.c.length cc, .int .i64 p.s] 62 (0, 0))) ∧ Hid (Rw wr S' bm w4.heap.size (.cells #[.pointer (some ⟨g, 0, none⟩), .pointer (some ⟨h, 0, none⟩)] 30 (0, 0))) ∧ Hid (Ck wr S' bm ⟨c, .slice A1 c.b.length c1, .slice A2 c.o.length c2⟩) ∧ Hid (Pk wr S' bm ⟨p, .slice Ao p.o.length co, .slice Ac p.c.length cc⟩)) (fun i _ => c.o.length - (intOf i).toNat)
      case atStart => exact ⟨0, [], _, rfl, Nat.zero_le _, Nat.le_refl _, HT, HSn, HB, Hc, Hp, Ht, Hx, Hy⟩
      case round =>
        clear HT HSn HB Hc Hp Ht Hx Hy
        obtain ⟨k, Kk, S', rfl, hk, hKk, HT, HSn, HB, Hc, Hp, Ht, Hx, Hy⟩ := hrel
        have f_c4 : wr.cell? ⟨w.heap.size, 4, none⟩ = some (.slice A2 c.o.length c2) := Hc.out.cell rfl
        by_cases hlt : k < c.o.length
        case pos =>
          obtain ⟨_, A', c', e', _, _, hxc⟩ := RdP.parts Hx.out.2
          dsimp only at e' hxc
          injection e' with e1 _ e3
          subst e1 e3
          obtain ⟨b1, o1, hA1, hP1, hb1, h1⟩ := hxc (by omega)
          subst hA1
          have r1 := range_elem (f := vt) (k := 2) (fun _ => rfl) h1 hlt
          have hwv := Hwc.out.2.2.2.2 _ (List.getElem_mem hlt)
          obtain ⟨t, ht⟩ : ∃ t, c.o[k] = t := ⟨_, rfl⟩
          rw [ht] at r1 hwv
          obtain ⟨tn, ts⟩ := t
          have hv0 : wr.drew.cell? ⟨b1, o1 + k * 2, none⟩ = some (.int .i64 tn) := by have := r1 0 _ rfl; simpa [iv] using this
          have Hwv := Lib.hid hwv
          have kb0 : (0 : Int) ≤ (k : Int) := by omega
          have kb1 : (k : Int) < (c.o.length : Int) := by omega
          clear r1 hwv ht h1 hxc hP1
          go_upto_region 9 with fail
          have l4 := later_cell (w := wr.drew) (show wr.drew.cell? ⟨w.heap.size, 4, none⟩ = some (.slice (some ⟨b1, o1, none⟩) c.o.length c2) from f_c4)
          have lv := later_cell (w := wr.drew) hv0
          clear f_c4 hv0
          have HRM : Hid (∀ w' : World, (∃ p : Later wr.drew, w' = p.W) → w'.rangeAt w.heap.size 0 [.int .i64 c.v, .int .i64 c.i, .int .i64 c.q, .slice A1 c.b.length c1, .slice (some ⟨b1, o1, none⟩) c.o.length c2]) := Lib.hid (by rintro w' ⟨p, rfl⟩; exact range_of_row ((p.h.block _ (show w.heap.size < wr.heap.size from Hc.out.lt)).trans Hc.out.row))
          have HRT : Hid (∀ w' : World, (∃ p : Later wr.drew, w' = p.W) → w'.rangeAt w4.heap.size 0 [.pointer (some ⟨g, 0, none⟩), .pointer (some ⟨h, 0, none⟩)]) := Lib.hid (by rintro w' ⟨p, rfl⟩; exact range_of_row ((p.h.block _ (show w4.heap.size < wr.heap.size from Ht.out.lt)).trans Ht.out.row))
          refine wp_region_steps 11 (by kernel_rfl) (by kernel_rfl) ?_
          refine wpAny_stage [] [(true, 0), (true, 1), (true, 2), (true, 3), (true, 4), (true, 5), (true, 6), (true, 7), (true, 8), (false, 9)] 1 (by kernel_rfl) ?_
          simp only [phW, List.getElem?_cons_zero, List.getElem?_cons_succ, Option.toList, List.length_cons, List.length_nil, Nat.reduceAdd, List.drop_succ_cons, List.drop_zero]
          repeat (first | go_big_quiet_step (fail) | (refine quiet_load (by simp [Region.wanted, yielded]) 30 (.tmp 13) (by rfl) w4.heap.size (0) (by rfl) [.pointer (some ⟨g, 0, none⟩), .pointer (some ⟨h, 0, none⟩)] _ HRT.out Tryz.underlying30 rfl sizeTwo ?_; intro K hK; go_simp; refine hK _ ?_; clear hK K) | (refine quiet_load (by simp [Region.wanted, yielded]) 25 (.tmp 6) (by rfl) w.heap.size (0) (by rfl) [.int .i64 c.v, .int .i64 c.i, .int .i64 c.q, .slice A1 c.b.length c1, .slice (some ⟨b1, o1, none⟩) c.o.length c2] _ HRM.out Tryz.underlying25 rfl sizeC ?_; intro K hK; go_simp; refine hK _ ?_; clear hK K) | quiet_step (fail) | refine wpQuiet_nil ?_)
          clear l4 lv
          go_wp2_with fail
          have hdr : Below wr.heap.size wr wr.drew := (Below.refl _ _).drew
          refine (rballot_m kind tn ⟨c, .slice A1 c.b.length c1, .slice (some ⟨b1, o1, none⟩) c.o.length c2⟩ wr.drew _ (Ck.below Hx.out hdr)).mono ?_
          rintro e w6 ⟨rfl, hb6⟩
          have HL6 := Lib.hid hb6
          have hb6' : Below wr.heap.size wr w6 := hdr.trans hb6
          clear hb6 hdr
          go_wp2_with fail
          refine And.intro ⟨⟨w6, HL6.out⟩, rfl⟩ ?_
          replace Hc := Lib.hid (Hc.out.below hb6')
          replace Hp := Lib.hid (Hp.out.below hb6')
          replace Ht := Lib.hid (Ht.out.below hb6')
          replace Hx := Lib.hid (Ck.below Hx.out hb6')
          replace Hy := Lib.hid (Pk.below Hy.out hb6')
          replace HT := Lib.hid (HT.out.below hb6')
          replace HB := Lib.hid (Below.then HB.out hb6' HB.out.size)
          clear hb6'
          refine wpAny_one 10 (by kernel_rfl) ?_
          simp only [List.getElem?_cons_zero, List.getElem?_cons_succ, Option.toList]
          go_wp2_with fail
          refine (two_msg S' g bm h Kk (balM kind tn c) (.slice A1 c.b.length c1) (.slice none 0 0) (.slice none 0 0) (.slice none 0 0) w6 HT.out ⟨RdP.mono Hx.out.1 fun b hb _ => hb, RdP.none_, RdC.nil, RdA.nil⟩ Hwv.out.1 (by omega)).mono ?_
          rintro e w7 ⟨rfl, S7, hT', hS', hF'⟩
          have hkl := sealK_len Kk (balM kind tn c)
          replace Hc := Lib.hid (Hc.out.seal hF' hS')
          replace Hp := Lib.hid (Hp.out.seal hF' hS')
          replace Ht := Lib.hid (Ht.out.seal hF' hS')
          replace Hx := Lib.hid (Ck.seal Hx.out hF' hS')
          replace Hy := Lib.hid (Pk.seal Hy.out hF' hS')
          have hzb := HB.out.size
          replace HB := Lib.hid (HB.out.trans ((hF').to_below (B := w.heap.size) hzb (fun k hk hh => by rcases hh with hh | hh; (have := HSn.out k hh; omega); omega)))
          replace HSn : Hid (∀ b, (S7) b → w.heap.size ≤ b) := Lib.hid fun b hb => by rcases hS' b hb with h1 | h1; exact HSn.out b h1; omega
          clear hzb
          replace HT := Lib.hid hT'
          clear hT' hS' hF'
          go_wp2_with fail
          refine wpAny_end (by kernel_rfl) ?_
          go_wp2_with fail
          first
            | (go_roundw
               case rel => exact ⟨k + 1, _, S7, by go_num, by omega, by omega, HT, HSn, HB, Hc, Hp, Ht, Hx, Hy⟩
               case measure => simp [intOf]; omega)
            | (refine ⟨⟨k + 1, _, S7, by go_num, by omega, by omega, HT, HSn, HB, Hc, Hp, Ht, Hx, Hy⟩, ?_⟩
               simp [intOf]; omega)
        case neg =>
          go_upto_region 10 with fail
          clear f_c4
          obtain ⟨b1, hb1⟩ : ∃ x, votedB Kk kind c f = x := ⟨_, rfl⟩
          obtain ⟨b2, hb2⟩ : ∃ x, certifiedB Kk kind c f cl = x := ⟨_, rfl⟩
          obtain ⟨b3, hb3⟩ : ∃ x, changedB Kk view p.o f = x := ⟨_, rfl⟩
          obtain ⟨b4, hb4⟩ : ∃ x, viewedB Kk view p f cl = x := ⟨_, rfl⟩
          have H1 := Lib.hid hb1
          have H2 := Lib.hid hb2
          have H3 := Lib.hid hb3
          have H4 := Lib.hid hb4
          clear hb1 hb2 hb3 hb4
          have HND := Lib.hid HT.out.nt.nd
          have l0 := later_cell (w := wr.drew) (show wr.drew.cell? ⟨w4.heap.size, 0, none⟩ = some (.pointer (some ⟨g, 0, none⟩)) from Ht.out.cell rfl)
          have l1 := later_cell (w := wr.drew) (show wr.drew.cell? ⟨w4.heap.size, 1, none⟩ = some (.pointer (some ⟨h, 0, none⟩)) from Ht.out.cell rfl)
          have lp1 := later_cell (w := wr.drew) (show wr.drew.cell? ⟨w.heap.size + 1, 1, none⟩ = some (.slice Ao p.o.length co) from Hp.out.cell rfl)
          have HRM : Hid (∀ w' : World, (∃ p : Later wr.drew, w' = p.W) → w'.rangeAt w.heap.size 0 [.int .i64 c.v, .int .i64 c.i, .int .i64 c.q, .slice A1 c.b.length c1, .slice A2 c.o.length c2]) := Lib.hid (by rintro w' ⟨p, rfl⟩; exact range_of_row ((p.h.block _ (show w.heap.size < wr.heap.size from Hc.out.lt)).trans Hc.out.row))
          have HRP : Hid (∀ w' : World, (∃ p : Later wr.drew, w' = p.W) → w'.rangeAt (w.heap.size + 1) 0 [.int .i64 p.f, .slice Ao p.o.length co, .slice Ac p.c.length cc, .int .i64 p.s]) := Lib.hid (by rintro w' ⟨p, rfl⟩; exact range_of_row ((p.h.block _ (show w.heap.size + 1 < wr.heap.size from Hp.out.lt)).trans Hp.out.row))
          have HL : Hid (Below wr.drew.heap.size wr.drew wr.drew) := Lib.hid (Below.refl _ _)
          have hdr : Below wr.heap.size wr wr.drew := (Below.refl _ _).drew
          obtain ⟨Wd, hWd⟩ : ∃ W_, wr.drew = W_ := ⟨_, rfl⟩
          refine wp_region_steps 68 (by kernel_rfl) (by kernel_rfl) ?_
          rw [hWd] at hdr ⊢
          clear hWd HL HRM HRP l0 l1 lp1
          replace Hc := Lib.hid (Hc.out.below hdr)
          replace Hp := Lib.hid (Hp.out.below hdr)
          replace Ht := Lib.hid (Ht.out.below hdr)
          replace Hx := Lib.hid (Ck.below Hx.out hdr)
          replace Hy := Lib.hid (Pk.below Hy.out hdr)
          replace HT := Lib.hid (HT.out.below hdr)
          replace HB := Lib.hid (Below.then HB.out hdr HB.out.size)
          clear hdr
          have l0 := later_cell (w := Wd) (show Wd.cell? ⟨w4.heap.size, 0, none⟩ = some (.pointer (some ⟨g, 0, none⟩)) from Ht.out.cell rfl)
          have l1 := later_cell (w := Wd) (show Wd.cell? ⟨w4.heap.size, 1, none⟩ = some (.pointer (some ⟨h, 0, none⟩)) from Ht.out.cell rfl)
          have lp1 := later_cell (w := Wd) (show Wd.cell? ⟨w.heap.size + 1, 1, none⟩ = some (.slice Ao p.o.length co) from Hp.out.cell rfl)
          have HRM : Hid (∀ w' : World, (∃ p : Later Wd, w' = p.W) → w'.rangeAt w.heap.size 0 [.int .i64 c.v, .int .i64 c.i, .int .i64 c.q, .slice A1 c.b.length c1, .slice A2 c.o.length c2]) := Lib.hid (by rintro w' ⟨p, rfl⟩; exact range_of_row ((p.h.block _ Hc.out.lt).trans Hc.out.row))
          have HRP : Hid (∀ w' : World, (∃ p : Later Wd, w' = p.W) → w'.rangeAt (w.heap.size + 1) 0 [.int .i64 p.f, .slice Ao p.o.length co, .slice Ac p.c.length cc, .int .i64 p.s]) := Lib.hid (by rintro w' ⟨p, rfl⟩; exact range_of_row ((p.h.block _ Hp.out.lt).trans Hp.out.row))
          have HL : Hid (Below Wd.heap.size Wd Wd) := Lib.hid (Below.refl _ _)
          refine wpAny_stage [] [(true, 0), (true, 1), (true, 2), (true, 3), (true, 4), (true, 6), (true, 7), (true, 8), (true, 9), (true, 10), (false, 5), (false, 11), (true, 12), (true, 13)] 54 (by kernel_rfl) ?_
          simp only [phW, List.getElem?_cons_zero, List.getElem?_cons_succ, Option.toList, List.length_cons, List.length_nil, Nat.reduceAdd, List.drop_succ_cons, List.drop_zero]
          repeat ((with_reducible show wpQuiet _ _ _ _ _ _); first | ((with_reducible refine wpQuiet_bare ?_ ?_); (· rfl)) | (with_reducible refine wpQuiet_nil ?_) | go_big_quiet_step (fail) | (refine quiet_load (by simp [Region.wanted, yielded]) 25 (.tmp 6) (by rfl) w.heap.size (0) (by rfl) [.int .i64 c.v, .int .i64 c.i, .int .i64 c.q, .slice A1 c.b.length c1, .slice A2 c.o.length c2] _ HRM.out Tryz.underlying25 rfl sizeC ?_; intro K hK; go_simp; refine hK _ ?_; clear hK K) | (refine quiet_load (by simp [Region.wanted, yielded]) 62 (.tmp 7) (by rfl) (w.heap.size + 1) (0) (by rfl) [.int .i64 p.f, .slice Ao p.o.length co, .slice Ac p.c.length cc, .int .i64 p.s] _ HRP.out Tryz.underlying62 rfl sizeP ?_; intro K hK; go_simp; refine hK _ ?_; clear hK K) | quiet_step (fail))
          first | ((with_reducible refine wpList_bare ?_ ?_); (· rfl)) | skip
          go_wp2_with fail
          refine (voted_m kind c (.slice A1 c.b.length c1) (.slice A2 c.o.length c2) f g bm Kk Wd _ Hx.out Hwc.out.2.2.2.2 HT.out.nt (by omega)).mono ?_
          rw [H1.out]
          rintro e v1 ⟨rfl, hbq⟩
          replace HL := Lib.hid (Below.then HL.out hbq HL.out.size)
          replace Hc := Lib.hid (Hc.out.below hbq)
          replace Hp := Lib.hid (Hp.out.below hbq)
          replace Ht := Lib.hid (Ht.out.below hbq)
          replace Hx := Lib.hid (Ck.below Hx.out hbq)
          replace Hy := Lib.hid (Pk.below Hy.out hbq)
          replace HT := Lib.hid (HT.out.below hbq)
          replace HB := Lib.hid (Below.then HB.out hbq HB.out.size)
          clear hbq
          go_wp2_with fail
          refine And.intro ⟨⟨v1, HL.out⟩, rfl⟩ ?_
          first | ((with_reducible refine wpList_bare ?_ ?_); (· rfl)) | skip
          go_wp2_with fail
          refine (rvoted_m kind c (.slice A1 c.b.length c1) (.slice A2 c.o.length c2) f S' h Kk v1 _ Hx.out Hwc.out.2.2.2.2 HT.out.nr HND.out).mono ?_
          rw [H1.out]
          rintro e v2 ⟨rfl, hbq⟩
          replace HL := Lib.hid (Below.then HL.out hbq HL.out.size)
          replace Hc := Lib.hid (Hc.out.below hbq)
          replace Hp := Lib.hid (Hp.out.below hbq)
          replace Ht := Lib.hid (Ht.out.below hbq)
          replace Hx := Lib.hid (Ck.below Hx.out hbq)
          replace Hy := Lib.hid (Pk.below Hy.out hbq)
          replace HT := Lib.hid (HT.out.below hbq)
          replace HB := Lib.hid (Below.then HB.out hbq HB.out.size)
          clear hbq
          go_wp2_with fail
          refine And.intro ⟨⟨v2, HL.out⟩, rfl⟩ ?_
          repeat ((with_reducible show wpQuiet _ _ _ _ _ _); first | ((with_reducible refine wpQuiet_bare ?_ ?_); (· rfl)) | (with_reducible refine wpQuiet_nil ?_) | go_big_quiet_step (fail) | (refine quiet_load (by simp [Region.wanted, yielded]) 25 (.tmp 6) (by rfl) w.heap.size (0) (by rfl) [.int .i64 c.v, .int .i64 c.i, .int .i64 c.q, .slice A1 c.b.length c1, .slice A2 c.o.length c2] _ HRM.out Tryz.underlying25 rfl sizeC ?_; intro K hK; go_simp; refine hK _ ?_; clear hK K) | (refine quiet_load (by simp [Region.wanted, yielded]) 62 (.tmp 7) (by rfl) (w.heap.size + 1) (0) (by rfl) [.int .i64 p.f, .slice Ao p.o.length co, .slice Ac p.c.length cc, .int .i64 p.s] _ HRP.out Tryz.underlying62 rfl sizeP ?_; intro K hK; go_simp; refine hK _ ?_; clear hK K) | quiet_step (fail))
          clear l0 l1 lp1 HRM HRP HL
          have l0 := later_cell (w := v2) (show v2.cell? ⟨w4.heap.size, 0, none⟩ = some (.pointer (some ⟨g, 0, none⟩)) from Ht.out.cell rfl)
          have l1 := later_cell (w := v2) (show v2.cell? ⟨w4.heap.size, 1, none⟩ = some (.pointer (some ⟨h, 0, none⟩)) from Ht.out.cell rfl)
          have lp1 := later_cell (w := v2) (show v2.cell? ⟨w.heap.size + 1, 1, none⟩ = some (.slice Ao p.o.length co) from Hp.out.cell rfl)
          have HRM : Hid (∀ w' : World, (∃ p : Later v2, w' = p.W) → w'.rangeAt w.heap.size 0 [.int .i64 c.v, .int .i64 c.i, .int .i64 c.q, .slice A1 c.b.length c1, .slice A2 c.o.length c2]) := Lib.hid (by rintro w' ⟨p, rfl⟩; exact range_of_row ((p.h.block _ Hc.out.lt).trans Hc.out.row))
          have HRP : Hid (∀ w' : World, (∃ p : Later v2, w' = p.W) → w'.rangeAt (w.heap.size + 1) 0 [.int .i64 p.f, .slice Ao p.o.length co, .slice Ac p.c.length cc, .int .i64 p.s]) := Lib.hid (by rintro w' ⟨p, rfl⟩; exact range_of_row ((p.h.block _ Hp.out.lt).trans Hp.out.row))
          have HL : Hid (Below v2.heap.size v2 v2) := Lib.hid (Below.refl _ _)
          refine wpAny_stage [0, 1, 2, 3, 4, 5, 6, 7, 8, 9, 10, 11, 12, 13] [(true, 14), (true, 15), (true, 16), (true, 17), (true, 18), (true, 19), (true, 21), (true, 22), (true, 23), (true, 24), (true, 25), (true, 26), (false, 20), (false, 27), (true, 28), (true, 29), (true, 30)] 37 (by kernel_rfl) ?_
          simp only [phW, List.getElem?_cons_zero, List.getElem?_cons_succ, Option.toList, List.length_cons, List.length_nil, Nat.reduceAdd, List.drop_succ_cons, List.drop_zero]
          repeat ((with_reducible show wpQuiet _ _ _ _ _ _); first | ((with_reducible refine wpQuiet_bare ?_ ?_); (· rfl)) | (with_reducible refine wpQuiet_nil ?_) | go_big_quiet_step (fail) | (refine quiet_load (by simp [Region.wanted, yielded]) 25 (.tmp 6) (by rfl) w.heap.size (0) (by rfl) [.int .i64 c.v, .int .i64 c.i, .int .i64 c.q, .slice A1 c.b.length c1, .slice A2 c.o.length c2] _ HRM.out Tryz.underlying25 rfl sizeC ?_; intro K hK; go_simp; refine hK _ ?_; clear hK K) | (refine quiet_load (by simp [Region.wanted, yielded]) 62 (.tmp 7) (by rfl) (w.heap.size + 1) (0) (by rfl) [.int .i64 p.f, .slice Ao p.o.length co, .slice Ac p.c.length cc, .int .i64 p.s] _ HRP.out Tryz.underlying62 rfl sizeP ?_; intro K hK; go_simp; refine hK _ ?_; clear hK K) | quiet_step (fail))
          first | ((with_reducible refine wpList_bare ?_ ?_); (· rfl)) | skip
          go_wp2_with fail
          refine (certified_m kind c (.slice A1 c.b.length c1) (.slice A2 c.o.length c2) f cl g bm Kk v2 _ Hx.out Hwc.out HT.out.nt (by omega)).mono ?_
          rw [H2.out]
          rintro e v3 ⟨rfl, hbq⟩
          replace HL := Lib.hid (Below.then HL.out hbq HL.out.size)
          replace Hc := Lib.hid (Hc.out.below hbq)
          replace Hp := Lib.hid (Hp.out.below hbq)
          replace Ht := Lib.hid (Ht.out.below hbq)
          replace Hx := Lib.hid (Ck.below Hx.out hbq)
          replace Hy := Lib.hid (Pk.below Hy.out hbq)
          replace HT := Lib.hid (HT.out.below hbq)
          replace HB := Lib.hid (Below.then HB.out hbq HB.out.size)
          clear hbq
          go_wp2_with fail
          refine And.intro ⟨⟨v3, HL.out⟩, rfl⟩ ?_
          first | ((with_reducible refine wpList_bare ?_ ?_); (· rfl)) | skip
          go_wp2_with fail
          refine (rcertified_m kind c (.slice A1 c.b.length c1) (.slice A2 c.o.length c2) f cl S' h Kk v3 _ Hx.out Hwc.out HT.out.nr HND.out).mono ?_
          rw [H2.out]
          rintro e v4 ⟨rfl, hbq⟩
          replace HL := Lib.hid (Below.then HL.out hbq HL.out.size)
          replace Hc := Lib.hid (Hc.out.below hbq)
          replace Hp := Lib.hid (Hp.out.below hbq)
          replace Ht := Lib.hid (Ht.out.below hbq)
          replace Hx := Lib.hid (Ck.below Hx.out hbq)
          replace Hy := Lib.hid (Pk.below Hy.out hbq)
          replace HT := Lib.hid (HT.out.below hbq)
          replace HB := Lib.hid (Below.then HB.out hbq HB.out.size)
          clear hbq
          go_wp2_with fail
          refine And.intro ⟨⟨v4, HL.out⟩, rfl⟩ ?_
          repeat ((with_reducible show wpQuiet _ _ _ _ _ _); first | ((with_reducible refine wpQuiet_bare ?_ ?_); (· rfl)) | (with_reducible refine wpQuiet_nil ?_) | go_big_quiet_step (fail) | (refine quiet_load (by simp [Region.wanted, yielded]) 25 (.tmp 6) (by rfl) w.heap.size (0) (by rfl) [.int .i64 c.v, .int .i64 c.i, .int .i64 c.q, .slice A1 c.b.length c1, .slice A2 c.o.length c2] _ HRM.out Tryz.underlying25 rfl sizeC ?_; intro K hK; go_simp; refine hK _ ?_; clear hK K) | (refine quiet_load (by simp [Region.wanted, yielded]) 62 (.tmp 7) (by rfl) (w.heap.size + 1) (0) (by rfl) [.int .i64 p.f, .slice Ao p.o.length co, .slice Ac p.c.length cc, .int .i64 p.s] _ HRP.out Tryz.underlying62 rfl sizeP ?_; intro K hK; go_simp; refine hK _ ?_; clear hK K) | quiet_step (fail))
          clear l0 l1 lp1 HRM HRP HL
          have l0 := later_cell (w := v4) (show v4.cell? ⟨w4.heap.size, 0, none⟩ = some (.pointer (some ⟨g, 0, none⟩)) from Ht.out.cell rfl)
          have l1 := later_cell (w := v4) (show v4.cell? ⟨w4.heap.size, 1, none⟩ = some (.pointer (some ⟨h, 0, none⟩)) from Ht.out.cell rfl)
          have lp1 := later_cell (w := v4) (show v4.cell? ⟨w.heap.size + 1, 1, none⟩ = some (.slice Ao p.o.length co) from Hp.out.cell rfl)
          have HRM : Hid (∀ w' : World, (∃ p : Later v4, w' = p.W) → w'.rangeAt w.heap.size 0 [.int .i64 c.v, .int .i64 c.i, .int .i64 c.q, .slice A1 c.b.length c1, .slice A2 c.o.length c2]) := Lib.hid (by rintro w' ⟨p, rfl⟩; exact range_of_row ((p.h.block _ Hc.out.lt).trans Hc.out.row))
          have HRP : Hid (∀ w' : World, (∃ p : Later v4, w' = p.W) → w'.rangeAt (w.heap.size + 1) 0 [.int .i64 p.f, .slice Ao p.o.length co, .slice Ac p.c.length cc, .int .i64 p.s]) := Lib.hid (by rintro w' ⟨p, rfl⟩; exact range_of_row ((p.h.block _ Hp.out.lt).trans Hp.out.row))
          have HL : Hid (Below v4.heap.size v4 v4) := Lib.hid (Below.refl _ _)
          refine wpAny_stage [0, 1, 2, 3, 4, 5, 6, 7, 8, 9, 10, 11, 12, 13, 14, 15, 16, 17, 18, 19, 20, 21, 22, 23, 24, 25, 26, 27, 28, 29, 30] [(true, 31), (true, 32), (true, 33), (true, 34), (true, 35), (true, 36), (true, 38), (true, 39), (true, 40), (true, 41), (true, 42), (true, 43), (false, 37), (false, 44), (true, 45), (true, 46), (true, 47)] 20 (by kernel_rfl) ?_
          simp only [phW, List.getElem?_cons_zero, List.getElem?_cons_succ, Option.toList, List.length_cons, List.length_nil, Nat.reduceAdd, List.drop_succ_cons, List.drop_zero]
          repeat ((with_reducible show wpQuiet _ _ _ _ _ _); first | ((with_reducible refine wpQuiet_bare ?_ ?_); (· rfl)) | (with_reducible refine wpQuiet_nil ?_) | go_big_quiet_step (fail) | (refine quiet_load (by simp [Region.wanted, yielded]) 25 (.tmp 6) (by rfl) w.heap.size (0) (by rfl) [.int .i64 c.v, .int .i64 c.i, .int .i64 c.q, .slice A1 c.b.length c1, .slice A2 c.o.length c2] _ HRM.out Tryz.underlying25 rfl sizeC ?_; intro K hK; go_simp; refine hK _ ?_; clear hK K) | (refine quiet_load (by simp [Region.wanted, yielded]) 62 (.tmp 7) (by rfl) (w.heap.size + 1) (0) (by rfl) [.int .i64 p.f, .slice Ao p.o.length co, .slice Ac p.c.length cc, .int .i64 p.s] _ HRP.out Tryz.underlying62 rfl sizeP ?_; intro K hK; go_simp; refine hK _ ?_; clear hK K) | quiet_step (fail))
          first | ((with_reducible refine wpList_bare ?_ ?_); (· rfl)) | skip
          go_wp2_with fail
          refine (changed_m view _ p.o f g bm Kk v4 _ Hy.out.1 Hwp.out.2.1 HT.out.nt).mono ?_
          rw [H3.out]
          rintro e v5 ⟨rfl, hbq⟩
          replace HL := Lib.hid (Below.then HL.out hbq HL.out.size)
          replace Hc := Lib.hid (Hc.out.below hbq)
          replace Hp := Lib.hid (Hp.out.below hbq)
          replace Ht := Lib.hid (Ht.out.below hbq)
          replace Hx := Lib.hid (Ck.below Hx.out hbq)
          replace Hy := Lib.hid (Pk.below Hy.out hbq)
          replace HT := Lib.hid (HT.out.below hbq)
          replace HB := Lib.hid (Below.then HB.out hbq HB.out.size)
          clear hbq
          go_wp2_with fail
          refine And.intro ⟨⟨v5, HL.out⟩, rfl⟩ ?_
          first | ((with_reducible refine wpList_bare ?_ ?_); (· rfl)) | skip
          go_wp2_with fail
          refine (rchanged_m view _ p.o f S' h Kk v5 _ Hy.out.1 Hwp.out.2.1 HT.out.nr HND.out).mono ?_
          rw [H3.out]
          rintro e v6 ⟨rfl, hbq⟩
          replace HL := Lib.hid (Below.then HL.out hbq HL.out.size)
          replace Hc := Lib.hid (Hc.out.below hbq)
          replace Hp := Lib.hid (Hp.out.below hbq)
          replace Ht := Lib.hid (Ht.out.below hbq)
          replace Hx := Lib.hid (Ck.below Hx.out hbq)
          replace Hy := Lib.hid (Pk.below Hy.out hbq)
          replace HT := Lib.hid (HT.out.below hbq)
          replace HB := Lib.hid (Below.then HB.out hbq HB.out.size)
          clear hbq
          go_wp2_with fail
          refine And.intro ⟨⟨v6, HL.out⟩, rfl⟩ ?_
          repeat ((with_reducible show wpQuiet _ _ _ _ _ _); first | ((with_reducible refine wpQuiet_bare ?_ ?_); (· rfl)) | (with_reducible refine wpQuiet_nil ?_) | go_big_quiet_step (fail) | (refine quiet_load (by simp [Region.wanted, yielded]) 25 (.tmp 6) (by rfl) w.heap.size (0) (by rfl) [.int .i64 c.v, .int .i64 c.i, .int .i64 c.q, .slice A1 c.b.length c1, .slice A2 c.o.length c2] _ HRM.out Tryz.underlying25 rfl sizeC ?_; intro K hK; go_simp; refine hK _ ?_; clear hK K) | (refine quiet_load (by simp [Region.wanted, yielded]) 62 (.tmp 7) (by rfl) (w.heap.size + 1) (0) (by rfl) [.int .i64 p.f, .slice Ao p.o.length co, .slice Ac p.c.length cc, .int .i64 p.s] _ HRP.out Tryz.underlying62 rfl sizeP ?_; intro K hK; go_simp; refine hK _ ?_; clear hK K) | quiet_step (fail))
          clear l0 l1 lp1 HRM HRP HL
          have l0 := later_cell (w := v6) (show v6.cell? ⟨w4.heap.size, 0, none⟩ = some (.pointer (some ⟨g, 0, none⟩)) from Ht.out.cell rfl)
          have l1 := later_cell (w := v6) (show v6.cell? ⟨w4.heap.size, 1, none⟩ = some (.pointer (some ⟨h, 0, none⟩)) from Ht.out.cell rfl)
          have lp1 := later_cell (w := v6) (show v6.cell? ⟨w.heap.size + 1, 1, none⟩ = some (.slice Ao p.o.length co) from Hp.out.cell rfl)
          have HRM : Hid (∀ w' : World, (∃ p : Later v6, w' = p.W) → w'.rangeAt w.heap.size 0 [.int .i64 c.v, .int .i64 c.i, .int .i64 c.q, .slice A1 c.b.length c1, .slice A2 c.o.length c2]) := Lib.hid (by rintro w' ⟨p, rfl⟩; exact range_of_row ((p.h.block _ Hc.out.lt).trans Hc.out.row))
          have HRP : Hid (∀ w' : World, (∃ p : Later v6, w' = p.W) → w'.rangeAt (w.heap.size + 1) 0 [.int .i64 p.f, .slice Ao p.o.length co, .slice Ac p.c.length cc, .int .i64 p.s]) := Lib.hid (by rintro w' ⟨p, rfl⟩; exact range_of_row ((p.h.block _ Hp.out.lt).trans Hp.out.row))
          have HL : Hid (Below v6.heap.size v6 v6) := Lib.hid (Below.refl _ _)
          refine wpAny_stage [0, 1, 2, 3, 4, 5, 6, 7, 8, 9, 10, 11, 12, 13, 14, 15, 16, 17, 18, 19, 20, 21, 22, 23, 24, 25, 26, 27, 28, 29, 30, 31, 32, 33, 34, 35, 36, 37, 38, 39, 40, 41, 42, 43, 44, 45, 46, 47] [(true, 48), (true, 49), (true, 50), (true, 51), (true, 52), (true, 53), (true, 55), (true, 56), (true, 57), (true, 58), (true, 59), (true, 60), (false, 54), (false, 61), (true, 62), (true, 63), (true, 64)] 3 (by kernel_rfl) ?_
          simp only [phW, List.getElem?_cons_zero, List.getElem?_cons_succ, Option.toList, List.length_cons, List.length_nil, Nat.reduceAdd, List.drop_succ_cons, List.drop_zero]
          repeat ((with_reducible show wpQuiet _ _ _ _ _ _); first | ((with_reducible refine wpQuiet_bare ?_ ?_); (· rfl)) | (with_reducible refine wpQuiet_nil ?_) | go_big_quiet_step (fail) | (refine quiet_load (by simp [Region.wanted, yielded]) 25 (.tmp 6) (by rfl) w.heap.size (0) (by rfl) [.int .i64 c.v, .int .i64 c.i, .int .i64 c.q, .slice A1 c.b.length c1, .slice A2 c.o.length c2] _ HRM.out Tryz.underlying25 rfl sizeC ?_; intro K hK; go_simp; refine hK _ ?_; clear hK K) | (refine quiet_load (by simp [Region.wanted, yielded]) 62 (.tmp 7) (by rfl) (w.heap.size + 1) (0) (by rfl) [.int .i64 p.f, .slice Ao p.o.length co, .slice Ac p.c.length cc, .int .i64 p.s] _ HRP.out Tryz.underlying62 rfl sizeP ?_; intro K hK; go_simp; refine hK _ ?_; clear hK K) | quiet_step (fail))
          first | ((with_reducible refine wpList_bare ?_ ?_); (· rfl)) | skip
          go_wp2_with fail
          refine (viewed_m view p (.slice Ao p.o.length co) (.slice Ac p.c.length cc) f cl g bm Kk v6 _ Hvw.out Hy.out Hwp.out HT.out.nt Hpb.out).mono ?_
          rw [H4.out]
          rintro e v7 ⟨rfl, hbq⟩
          replace HL := Lib.hid (Below.then HL.out hbq HL.out.size)
          replace Hc := Lib.hid (Hc.out.below hbq)
          replace Hp := Lib.hid (Hp.out.below hbq)
          replace Ht := Lib.hid (Ht.out.below hbq)
          replace Hx := Lib.hid (Ck.below Hx.out hbq)
          replace Hy := Lib.hid (Pk.below Hy.out hbq)
          replace HT := Lib.hid (HT.out.below hbq)
          replace HB := Lib.hid (Below.then HB.out hbq HB.out.size)
          clear hbq
          go_wp2_with fail
          refine And.intro ⟨⟨v7, HL.out⟩, rfl⟩ ?_
          first | ((with_reducible refine wpList_bare ?_ ?_); (· rfl)) | skip
          go_wp2_with fail
          refine (rviewed_m view p (.slice Ao p.o.length co) (.slice Ac p.c.length cc) f cl S' h Kk v7 _ Hvw.out Hy.out Hwp.out HT.out.nr HND.out).mono ?_
          rw [H4.out]
          rintro e v8 ⟨rfl, hbq⟩
          replace HL := Lib.hid (Below.then HL.out hbq HL.out.size)
          replace Hc := Lib.hid (Hc.out.below hbq)
          replace Hp := Lib.hid (Hp.out.below hbq)
          replace Ht := Lib.hid (Ht.out.below hbq)
          replace Hx := Lib.hid (Ck.below Hx.out hbq)
          replace Hy := Lib.hid (Pk.below Hy.out hbq)
          replace HT := Lib.hid (HT.out.below hbq)
          replace HB := Lib.hid (Below.then HB.out hbq HB.out.size)
          clear hbq
          go_wp2_with fail
          refine And.intro ⟨⟨v8, HL.out⟩, rfl⟩ ?_
          repeat ((with_reducible show wpQuiet _ _ _ _ _ _); first | ((with_reducible refine wpQuiet_bare ?_ ?_); (· rfl)) | (with_reducible refine wpQuiet_nil ?_) | go_big_quiet_step (fail) | (refine quiet_load (by simp [Region.wanted, yielded]) 25 (.tmp 6) (by rfl) w.heap.size (0) (by rfl) [.int .i64 c.v, .int .i64 c.i, .int .i64 c.q, .slice A1 c.b.length c1, .slice A2 c.o.length c2] _ HRM.out Tryz.underlying25 rfl sizeC ?_; intro K hK; go_simp; refine hK _ ?_; clear hK K) | (refine quiet_load (by simp [Region.wanted, yielded]) 62 (.tmp 7) (by rfl) (w.heap.size + 1) (0) (by rfl) [.int .i64 p.f, .slice Ao p.o.length co, .slice Ac p.c.length cc, .int .i64 p.s] _ HRP.out Tryz.underlying62 rfl sizeP ?_; intro K hK; go_simp; refine hK _ ?_; clear hK K) | quiet_step (fail))
          clear l0 l1 lp1 HRM HRP HL
          have l0 := later_cell (w := v8) (show v8.cell? ⟨w4.heap.size, 0, none⟩ = some (.pointer (some ⟨g, 0, none⟩)) from Ht.out.cell rfl)
          have l1 := later_cell (w := v8) (show v8.cell? ⟨w4.heap.size, 1, none⟩ = some (.pointer (some ⟨h, 0, none⟩)) from Ht.out.cell rfl)
          have lp1 := later_cell (w := v8) (show v8.cell? ⟨w.heap.size + 1, 1, none⟩ = some (.slice Ao p.o.length co) from Hp.out.cell rfl)
          have HRM : Hid (∀ w' : World, (∃ p : Later v8, w' = p.W) → w'.rangeAt w.heap.size 0 [.int .i64 c.v, .int .i64 c.i, .int .i64 c.q, .slice A1 c.b.length c1, .slice A2 c.o.length c2]) := Lib.hid (by rintro w' ⟨p, rfl⟩; exact range_of_row ((p.h.block _ Hc.out.lt).trans Hc.out.row))
          have HRP : Hid (∀ w' : World, (∃ p : Later v8, w' = p.W) → w'.rangeAt (w.heap.size + 1) 0 [.int .i64 p.f, .slice Ao p.o.length co, .slice Ac p.c.length cc, .int .i64 p.s]) := Lib.hid (by rintro w' ⟨p, rfl⟩; exact range_of_row ((p.h.block _ Hp.out.lt).trans Hp.out.row))
          have HL : Hid (Below v8.heap.size v8 v8) := Lib.hid (Below.refl _ _)
          refine wpAny_stage [0, 1, 2, 3, 4, 5, 6, 7, 8, 9, 10, 11, 12, 13, 14, 15, 16, 17, 18, 19, 20, 21, 22, 23, 24, 25, 26, 27, 28, 29, 30, 31, 32, 33, 34, 35, 36, 37, 38, 39, 40, 41, 42, 43, 44, 45, 46, 47, 48, 49, 50, 51, 52, 53, 54, 55, 56, 57, 58, 59, 60, 61, 62, 63, 64] [(false, 65), (true, 66)] 1 (by kernel_rfl) ?_
          simp only [phW, List.getElem?_cons_zero, List.getElem?_cons_succ, Option.toList, List.length_cons, List.length_nil, Nat.reduceAdd, List.drop_succ_cons, List.drop_zero]
          repeat ((with_reducible show wpQuiet _ _ _ _ _ _); first | ((with_reducible refine wpQuiet_bare ?_ ?_); (· rfl)) | (with_reducible refine wpQuiet_nil ?_) | go_big_quiet_step (fail) | (refine quiet_load (by simp [Region.wanted, yielded]) 25 (.tmp 6) (by rfl) w.heap.size (0) (by rfl) [.int .i64 c.v, .int .i64 c.i, .int .i64 c.q, .slice A1 c.b.length c1, .slice A2 c.o.length c2] _ HRM.out Tryz.underlying25 rfl sizeC ?_; intro K hK; go_simp; refine hK _ ?_; clear hK K) | (refine quiet_load (by simp [Region.wanted, yielded]) 62 (.tmp 7) (by rfl) (w.heap.size + 1) (0) (by rfl) [.int .i64 p.f, .slice Ao p.o.length co, .slice Ac p.c.length cc, .int .i64 p.s] _ HRP.out Tryz.underlying62 rfl sizeP ?_; intro K hK; go_simp; refine hK _ ?_; clear hK K) | quiet_step (fail))
          first | ((with_reducible refine wpList_bare ?_ ?_); (· rfl)) | skip
          go_wp2_with fail
          refine (wakes06 _).mono ?_
          rintro e v9 ⟨rfl, hbq⟩
          replace HL := Lib.hid (Below.then HL.out hbq HL.out.size)
          replace HB := Lib.hid (Below.then HB.out hbq HB.out.size)
          go_wp2_with fail
          refine And.intro ⟨⟨v9, HL.out⟩, rfl⟩ ?_
          repeat ((with_reducible show wpQuiet _ _ _ _ _ _); first | ((with_reducible refine wpQuiet_bare ?_ ?_); (· rfl)) | (with_reducible refine wpQuiet_nil ?_) | go_big_quiet_step (fail) | (refine quiet_load (by simp [Region.wanted, yielded]) 25 (.tmp 6) (by rfl) w.heap.size (0) (by rfl) [.int .i64 c.v, .int .i64 c.i, .int .i64 c.q, .slice A1 c.b.length c1, .slice A2 c.o.length c2] _ HRM.out Tryz.underlying25 rfl sizeC ?_; intro K hK; go_simp; refine hK _ ?_; clear hK K) | (refine quiet_load (by simp [Region.wanted, yielded]) 62 (.tmp 7) (by rfl) (w.heap.size + 1) (0) (by rfl) [.int .i64 p.f, .slice Ao p.o.length co, .slice Ac p.c.length cc, .int .i64 p.s] _ HRP.out Tryz.underlying62 rfl sizeP ?_; intro K hK; go_simp; refine hK _ ?_; clear hK K) | quiet_step (fail))
          clear l0 l1 lp1 HRM HRP HL
          refine wpAny_one 67 (by kernel_rfl) ?_
          simp only [List.getElem?_cons_zero, List.getElem?_cons_succ, Option.toList]
          go_wp2_with fail
          refine wpAny_end (by kernel_rfl) ?_
          go_wp2_with fail
          go_ret
          exact ⟨rfl, HB.out⟩
end Go.Proofs.YtadpkjgjciodnaaGreat.msgsRaw
