/- Package reqs: Make. -/
import Derived.Test.YtipmjleohadoeaaGreatJ22Sa
namespace Go.Proofs.YtipmjleohadoeaaGreat
open Go.RowKit
set_option linter.unusedVariables false

set_option maxRecDepth 100000 in
theorem make_below (c t k y v : Int) (w : World) : Below w.heap.size w (((w.alloc (.cells #[.int .i64 k, .int .i64 y, .int .i64 v] 40)).alloc (.cells #[.int .i64 0, .int .i64 0, .int .i64 0, .int .i64 0, .int .i64 0, .int .i64 0] 42)).alloc (.cells #[.int .i64 c, .int .i64 t, .int .i64 k, .int .i64 y, .int .i64 v, .int .i64 0] 42)) :=
  ((alloc_below w _).trans ((alloc_below _ _).mono (by simp))).trans ((alloc_below _ _).mono (by simp; omega))
set_option maxRecDepth 100000 in
theorem make_rows (c t k y v : Int) (w w1 : World) (h : Below (((w.alloc (.cells #[.int .i64 k, .int .i64 y, .int .i64 v] 40)).alloc (.cells #[.int .i64 0, .int .i64 0, .int .i64 0, .int .i64 0, .int .i64 0, .int .i64 0] 42)).alloc (.cells #[.int .i64 c, .int .i64 t, .int .i64 k, .int .i64 y, .int .i64 v, .int .i64 0] 42)).heap.size (((w.alloc (.cells #[.int .i64 k, .int .i64 y, .int .i64 v] 40)).alloc (.cells #[.int .i64 0, .int .i64 0, .int .i64 0, .int .i64 0, .int .i64 0, .int .i64 0] 42)).alloc (.cells #[.int .i64 c, .int .i64 t, .int .i64 k, .int .i64 y, .int .i64 v, .int .i64 0] 42)) w1) :
    w1.heap[w.heap.size + 1]? = some (.cells #[.int .i64 0, .int .i64 0, .int .i64 0, .int .i64 0, .int .i64 0, .int .i64 0] 42 (0, 0)) ∧ w1.heap[w.heap.size + 1 + 1]? = some (.cells #[.int .i64 c, .int .i64 t, .int .i64 k, .int .i64 y, .int .i64 v, .int .i64 0] 42 (0, 0)) := by
  refine ⟨(h.block _ (by simp)).trans (((alloc_below _ _).block (w.heap.size + 1) (by simp)).trans ?_), (h.block _ (by simp)).trans ?_⟩
  · simpa using heap_alloc_new (w.alloc (.cells #[.int .i64 k, .int .i64 y, .int .i64 v] 40)) (.cells #[.int .i64 0, .int .i64 0, .int .i64 0, .int .i64 0, .int .i64 0, .int .i64 0] 42)
  · simpa using heap_alloc_new ((w.alloc (.cells #[.int .i64 k, .int .i64 y, .int .i64 v] 40)).alloc (.cells #[.int .i64 0, .int .i64 0, .int .i64 0, .int .i64 0, .int .i64 0, .int .i64 0] 42)) (.cells #[.int .i64 c, .int .i64 t, .int .i64 k, .int .i64 y, .int .i64 v, .int .i64 0] 42)

set_option maxRecDepth 100000 in
set_option maxHeartbeats 1000000 in
theorem make_yes (g bm : Nat) (l : List Key) (clients c t k y v : Int) (w : World) (hN : Nt w g bm l) (hl : l.length < 1099511627776) (hc : clients ≤ 4611686018427387904) (hv : Psp.valid ⟨c, t, k, y, v, 0⟩ clients = true) :
    Calls Tryz.prog 35 #[.pointer (some ⟨g, 0, none⟩), .int .i64 clients, .int .i64 c, .int .i64 t, .agg #[.int .i64 k, .int .i64 y, .int .i64 v]] w fun e w' =>
      e = .returned (.tuple #[.agg #[.int .i64 c, .int .i64 t, .int .i64 k, .int .i64 y, .int .i64 v, .int .i64 (sealN l (kR ⟨c, t, k, y, v, 0⟩))], .int .i64 0]) ∧ Nt w' g bm (sealL l (kR ⟨c, t, k, y, v, 0⟩)) ∧ Fp (fun b => b = bm) w w' := by
  have HB0 := Lib.hid (make_below c t k y v w)
  have HV := Lib.hid hv
  have HN := Lib.hid hN
  have hlt := hN.lt.2
  have hcc : 0 ≤ c ∧ c < 4611686018427387904 := by
    have := of_decide_eq_true hv
    simp only at this
    omega
  obtain ⟨c1, c2⟩ := hcc
  clear hv hN
  go_enter Tryz.func35, Tryz.ntmps35
  go_wp2_with fail
  refine (valid_any ⟨c, t, k, y, v, 0⟩ clients _).mono ?_
  rintro e w1 ⟨rfl, hb⟩
  rw [HV.out]
  have HB1 := Lib.hid (Below.then HB0.out hb HB0.out.size)
  obtain ⟨hr1, hr2⟩ := make_rows c t k y v w w1 hb
  have HR1 := Lib.hid hr1
  have HR2 := Lib.hid hr2
  have hz1 : w.heap.size + 1 + 1 < w1.heap.size := (Array.getElem?_eq_some_iff.1 hr2).1
  obtain ⟨x0, x1, x2, x3, x4, x5, x6⟩ := rst_cells (r := ⟨c, t, k, y, v, 0⟩) hr2
  clear hb HB0 hr1 hr2
  go_wp2_with fail
  refine (body_any ⟨c, t, k, y, v, 0⟩ w1).mono ?_
  intro e w2 h
  obtain ⟨bb, hbb⟩ : ∃ bb, bb = res (Psp.encR (bare ⟨c, t, k, y, v, 0⟩)) (Psp.okR (bare ⟨c, t, k, y, v, 0⟩)) := ⟨_, rfl⟩
  obtain ⟨ob, hob⟩ : ∃ ob, ob = Psp.okR (bare ⟨c, t, k, y, v, 0⟩) := ⟨_, rfl⟩
  obtain ⟨A, p1, rfl, hp, hb⟩ := Bytes.rd h hbb.symm hob.symm
  have hkr : kR ⟨c, t, k, y, v, 0⟩ = (100 + c, bb) := by rw [hbb]; rfl
  have hlb : bb.length ≤ 36 := by rw [hbb]; exact res_len _
  have HK : Hid (KOk (100 + c, bb)) := Lib.hid ⟨⟨by show -9223372036854775808 ≤ 100 + c; omega, by show 100 + c ≤ 9223372036854775807; omega⟩, by show bb.length ≤ _; unfold maxLen; omega⟩
  have HP := Lib.hid hp
  have HB2 := Lib.hid (Below.then HB1.out hb HB1.out.size)
  have HR12 := Lib.hid ((hb.block _ (by omega)).trans HR1.out)
  have HR22 := Lib.hid ((hb.block _ hz1).trans HR2.out)
  have hz2 : w1.heap.size ≤ w2.heap.size := hb.size
  have Hkr := Lib.hid hkr
  clear h hp hb HB1 HR1 HR2 hbb hob hkr x0 x1 x2 x3 x4 x5 x6
  go_wp2_with fail
  refine (nt_seal g bm l (100 + c) bb _ w2 _ (HN.out.below HB2.out) HK.out hl HP.out).mono ?_
  rintro e w3 ⟨rfl, hN3, hf3⟩
  have hr13 := (hf3.block (w.heap.size + 1) (by omega) (by omega)).trans HR12.out
  have hr23 := (hf3.block (w.heap.size + 1 + 1) (by omega) (by omega)).trans HR22.out
  obtain ⟨x0, x1, x2, x3, x4, x5, x6⟩ := rst_cells (r := ⟨c, t, k, y, v, 0⟩) hr23
  obtain ⟨sn, hsn⟩ : ∃ sn, sealN l (100 + c, bb) = sn := ⟨_, rfl⟩
  have Hsn := Lib.hid hsn
  have hr14 := (Below.heap_setCell w3 ⟨w.heap.size + 1 + 1, 5, none⟩ (.int .i64 sn) (w.heap.size + 1) (by simp)).trans hr13
  have hth := rst_there hr14
  obtain ⟨s1, s2⟩ := rst_store hr14 [.int .i64 c, .int .i64 t, .int .i64 k, .int .i64 y, .int .i64 v, .int .i64 sn] rfl
  have Hth := Lib.hid hth
  have S1 := Lib.hid s1
  have S2 := Lib.hid s2
  have HN3 := Lib.hid hN3
  have HF3 := Lib.hid hf3
  have hz3 := hf3.size
  rw [hsn]
  clear hsn hr13 hr23 hr14 hth s1 s2 hN3 hf3
  go_wp2_with (refine wpList_store_mid rfl 42 (.tmp 10) (.tmp 35) rfl (w.heap.size + 1) 0 #[.int .i64 c, .int .i64 t, .int .i64 k, .int .i64 y, .int .i64 v, .int .i64 sn] rfl rfl Hth.out rst_sizeR (by simp [Value.oneCell']) ?_)
  refine bodyPost_ret (v := .tuple #[.agg #[.int .i64 c, .int .i64 t, .int .i64 k, .int .i64 y, .int .i64 v, .int .i64 sn], .int .i64 0]) ?_ rfl ?_
  · exact results_cell_row1 Tryz.results35 _ _ (w.heap.size + 1) _ _ _ _ rfl S1.out Tryz.underlying42 rfl rst_sizeR
  · rw [Hkr.out, Hsn.out]
    have hg := HN.out.lt.1
    have k1 := (S2.out g (by omega)).trans (Below.heap_setCell w3 ⟨w.heap.size + 1 + 1, 5, none⟩ (.int .i64 sn) g (by simp; omega))
    have k2 := (S2.out bm (by omega)).trans (Below.heap_setCell w3 ⟨w.heap.size + 1 + 1, 5, none⟩ (.int .i64 sn) bm (by simp; omega))
    have f1 : Fp (fun b => b = bm) w w3 := (Fp.of_below HB2.out (fun b => b = bm)).trans HF3.out (fun k h => Or.inl h)
    exact ⟨rfl, HN3.out.keep k1 k2, (f1.setCell (p := ⟨w.heap.size + 1 + 1, 5, none⟩) (Or.inr (by simp; omega)) _).setCells (Or.inr (Nat.le_succ _)) _⟩
end Go.Proofs.YtipmjleohadoeaaGreat
