/- The walk of MsgsKinds. Printed by gen_wkinds.py. -/
import Derived.Test.YtljfoajhobambaaGr
import Derived.Test.YtljfoajhobambaaFa
import Derived.Test.YtljfoajhobambaaTw
namespace Go.Proofs.Ytljfoajhobambaa.msgsKinds
open Go.RowKit
set_option linter.unusedVariables false
set_option linter.unusedSimpArgs false

/-- What stands: the message's box, the notaries', the notary, what the message's slices read. -/
structure Kb (w0 W : World) (cells : Array Value) (x : MsgV) (N T g bm h : Nat) (K : List Key) : Prop where
  box : W.heap[N]? = some (.cells cells 27 (0, 0))
  two : W.heap[T]? = some (.cells #[.pointer (some ⟨g, 0, none⟩), .pointer (some ⟨h, 0, none⟩)] 59 (0, 0))
  nt : Nt W g bm K
  ok : MsgOk W (fun b => b < N) x
  be : Below w0.heap.size w0 W
  lo : w0.heap.size ≤ N ∧ N < T ∧ N < bm ∧ T ≠ bm
theorem Kb.below {w0 W W' : World} {cells : Array Value} {x : MsgV} {N T g bm h : Nat} {K : List Key} (k : Kb w0 W cells x N T g bm h K) (hb : Below W.heap.size W W') : Kb w0 W' cells x N T g bm h K :=
  ⟨box_below k.box hb (Nat.le_refl _), box_below k.two hb (Nat.le_refl _), k.nt.below hb, k.ok.keeps (Keeps.below hb), Below.then k.be hb k.be.size, k.lo⟩
theorem Kb.seal {w0 W W' : World} {cells : Array Value} {x : MsgV} {N T g bm h : Nat} {K K' : List Key} (k : Kb w0 W cells x N T g bm h K) (hf : Fp (fun b => b = bm) W W') (hn : Nt W' g bm K') : Kb w0 W' cells x N T g bm h K' := by
  obtain ⟨l1, l2, l3, l4⟩ := k.lo
  exact ⟨(hf.block _ (Array.getElem?_eq_some_iff.1 k.box).1 (by omega)).trans k.box, (hf.block _ (Array.getElem?_eq_some_iff.1 k.two).1 (by omega)).trans k.two, hn,
    k.ok.keeps ⟨hf.size, fun b hb hlt => ⟨hf.block b hlt (by omega), hb⟩⟩, k.be.trans (hf.to_below (B := w0.heap.size) k.be.size fun j _ hj => by omega), k.lo⟩
theorem Kb.ok' {w0 W : World} {cells : Array Value} {x : MsgV} {N T g bm h : Nat} {K : List Key} (k : Kb w0 W cells x N T g bm h K) : MsgOk W (fun b => b < W.heap.size) x := k.ok.keeps (Keeps.mono fun b hlt _ => hlt)
theorem Kb.t0 {w0 W : World} {cells : Array Value} {x : MsgV} {N T g bm h : Nat} {K : List Key} (k : Kb w0 W cells x N T g bm h K) : W.cell? ⟨T, 0, none⟩ = some (.pointer (some ⟨g, 0, none⟩)) := by rw [cell_of_row _ _ 0 _ _ _ k.two]; rfl
theorem Kb.lt {w0 W : World} {cells : Array Value} {x : MsgV} {N T g bm h : Nat} {K : List Key} (k : Kb w0 W cells x N T g bm h K) : N < W.heap.size ∧ T < W.heap.size := ⟨(Array.getElem?_eq_some_iff.1 k.box).1, (Array.getElem?_eq_some_iff.1 k.two).1⟩

theorem two_keys {m : Psp.Msg} : (m.f + 1, Psp.encM m) ∉ [kM m] := by
  rw [List.mem_singleton]; unfold kM; intro hh; have := congrArg Prod.fst hh; simp at this; omega
theorem num_first {m : Psp.Msg} {l : List Key} : num (kM m :: l) (kM m) = 1 := by unfold num; rw [if_pos List.mem_cons_self]; simp

set_option maxRecDepth 100000 in
set_option maxHeartbeats 8000000 in
theorem walk (k0 f0 c0 v0 i0 q0 : Int) (op : Int × Int × Int) (w : World) (hk : isI64 k0) (hf : isI64 f0) (hc : isI64 c0) (hv : isI64 v0) (hi : isI64 i0) (hq : isI64 q0) (ho : isI64 op.1 ∧ isI64 op.2.1 ∧ isI64 op.2.2) :
    Calls Try.prog 8 #[.int .i64 k0, .int .i64 f0, .int .i64 c0, .int .i64 v0, .int .i64 i0, .int .i64 q0, .agg ([iv op.1, iv op.2.1, iv op.2.2] : List Value).toArray] w fun e w' => e = .returned (.bool true) ∧ Below w.heap.size w w' := by
  obtain ⟨o0, y0, z0⟩ := op
  simp only [iv]
  simp only at ho
  have f1a : 0 ≤ Psp.within f0 4 := Psp.within_lo _ _
  have f1b : Psp.within f0 4 < 4 := Psp.within_hi _ _ (by omega)
  have c1a : 0 ≤ Psp.within c0 4 := Psp.within_lo _ _
  have c1b : Psp.within c0 4 < 4 := Psp.within_hi _ _ (by omega)
  obtain ⟨q, hqq⟩ : ∃ q : Nat, (q : Int) = 2 * (1 + Psp.within f0 4) + 1 := ⟨(2 * (1 + Psp.within f0 4) + 1).toNat, by omega⟩
  have hR := fun W => right_any k0 f0 c0 v0 i0 q0 o0 y0 z0 W hk hf hc hv hi hq ho.2.1 ho.2.2 q hqq
  obtain ⟨hSm, hFm⟩ := right_is k0 f0 c0 v0 i0 q0 y0 z0 q hqq
  obtain ⟨m, hm⟩ : ∃ m, rightA k0 f0 c0 v0 i0 q0 y0 z0 q = m := ⟨_, rfl⟩
  rw [hm] at hSm hFm
  have HR : Hid (∀ W : World, Calls Try.prog 27 #[.int .i64 k0, .int .i64 f0, .int .i64 c0, .int .i64 v0, .int .i64 i0, .int .i64 q0, .agg #[.int .i64 o0, .int .i64 y0, .int .i64 z0]] W (Gives m W)) := Lib.hid fun W => by rw [← hm]; exact hR W
  obtain ⟨f1, hf1⟩ : ∃ x, Psp.within f0 4 = x := ⟨_, rfl⟩
  obtain ⟨c1, hc1⟩ : ∃ x, Psp.within c0 4 = x := ⟨_, rfl⟩
  have HWi : Hid (∀ x : Int, x = f0 ∨ x = c0 → ∀ W : World, Calls Try.prog 17 #[.int .i64 x, .int .i64 4] W fun e w' => e = .returned (.int .i64 (Psp.within x 4)) ∧ W = w') := Lib.hid fun x hx W => within_any x 4 W (by rcases hx with rfl | rfl <;> first | exact hf.1 | exact hc.1) (by rcases hx with rfl | rfl <;> first | exact hf.2 | exact hc.2) (by omega) (by omega)
  have HE := Lib.hid (And.intro hf1 hc1)
  rw [hf1, hc1] at hFm
  rw [hf1] at f1a f1b
  rw [hc1] at c1a c1b
  have mf := hSm.f
  obtain ⟨mf0, mf1⟩ := mf
  have hok := hSm.ok
  have HSm := Lib.hid hSm
  have HFm := Lib.hid hFm
  have HF0 : Hid (Psp.formM m 0 (1 + c1) = false) := Lib.hid (right_form_no (by omega))
  have HF5 : Hid (Psp.formM m 5 (1 + c1) = false) := Lib.hid (right_form_no (by omega))
  have Hwf := Lib.hid (wf_of_ok hok)
  have Hok := Lib.hid hok
  have HiF : Hid (isI64 m.f) := Lib.hid ⟨by omega, by omega⟩
  have S1 : Hid (sealN [] (kM m) = 1) := Lib.hid (by simp [sealN])
  have S2 : Hid (okS [] m = true) := Lib.hid (by unfold okS; rw [hok, S1.out, hSm.okE (by omega) (by omega)]; rfl)
  have S3 : Hid (sealK [] m = [kM m]) := Lib.hid (by unfold sealK; rw [hok]; simp [sealL])
  have S4 : Hid (sealN [kM m] (kM m) = 1) := Lib.hid (by simp [sealN])
  have S5 : Hid (okS [kM m] m = true) := Lib.hid (by unfold okS; rw [hok, S4.out, hSm.okE (by omega) (by omega)]; rfl)
  have S6 : Hid (sealK [kM m] m = [kM m]) := Lib.hid (by unfold sealK; rw [hok]; simp [sealL])
  obtain ⟨B1, hB1⟩ : ∃ b, Psp.encN 1 ++ Psp.encM m = b := ⟨_, rfl⟩
  obtain ⟨B2, hB2⟩ : ∃ b, Psp.encN 2 ++ Psp.encM m = b := ⟨_, rfl⟩
  have HB1e := Lib.hid hB1
  have HB2e := Lib.hid hB2
  have O1 : Hid (openM B1 (1 + f1) (1 + c1) [kM m] = some (m, 1)) := Lib.hid (by rw [← hB1, open_back hok (hSm.okE (by omega) (by omega)), hFm]; unfold chkB; rw [num_first]; simp)
  have O1F : Hid (∀ n a m', dN B1 0 = some (n, a) → Psp.parseM (B1.drop a.toNat) = some m' → FormOk (1 + f1) (1 + c1) m') := Lib.hid (by rw [← hB1]; exact open_form hok (okN_of (by omega) (by omega)) (formOk_any m _ _ fun _ => ⟨by omega, by omega⟩))
  have S7 : Hid (sealN [kM m] (m.f + 1, Psp.encM m) = 2) := Lib.hid (by unfold sealN; rw [if_neg two_keys]; rfl)
  have S8 : Hid (sealL [kM m] (m.f + 1, Psp.encM m) = [kM m, (m.f + 1, Psp.encM m)]) := Lib.hid (by unfold sealL; rw [if_neg two_keys]; rfl)
  have K2 : Hid (KOk (m.f + 1, Psp.encM m)) := Lib.hid ⟨⟨by show _ ≤ m.f + 1; omega, by show m.f + 1 ≤ _; omega⟩, (kM_ok HiF.out hok).2⟩
  have E2 : Hid (okE 2 (Psp.encM m) = true) := Lib.hid (hSm.okE (by omega) (by omega))
  have L2 : Hid ((Psp.encM m).length ≤ 1099511627776) := Lib.hid (by have := hSm.len; omega)
  have O2 : Hid (openM B2 (1 + f1) (1 + c1) [kM m, (m.f + 1, Psp.encM m)] = none) := Lib.hid (by rw [← hB2, open_back hok E2.out, hFm]; unfold chkB; rw [num_first]; simp)
  have O2F : Hid (∀ n a m', dN B2 0 = some (n, a) → Psp.parseM (B2.drop a.toNat) = some m' → FormOk (1 + f1) (1 + c1) m') := Lib.hid (by rw [← hB2]; exact open_form hok (okN_of (by omega) (by omega)) (formOk_any m _ _ fun _ => ⟨by omega, by omega⟩))
  clear hB1 hB2 hR hm hSm hFm hok hqq hk hf hc hv hi hq ho hf1 hc1
  go_enter Try.func8, Try.ntmps8
  go_wp2_with fail
  refine (HR.out _).mono ?_
  rintro e w1 ⟨Ab, Ao, Ac, Ap, cb, co, cc, cp, rfl, hmo, hb1⟩
  have hbw : Below w.heap.size w w1 := (alloc_below w _).trans (hb1.mono (by simp))
  have HB1 := Lib.hid hbw
  have HMO := Lib.hid hmo
  have hz1 := hbw.size
  clear hmo hb1 hbw
  obtain ⟨hf1, hc1⟩ := HE.out
  go_wp2_with (go_at_call 17; refine (HWi.out _ (by first | exact Or.inl rfl | exact Or.inr rfl) _).mono ?_; rintro e w' ⟨rfl, rfl⟩)
  clear hf1 hc1
  have hb2 := alloc_below w1 (.cells #[.int .i64 m.k, .int .i64 m.f, .int .i64 m.v, .int .i64 m.i, .int .i64 m.q, .int .i64 m.r, .slice Ab m.b.length cb, .slice Ao m.o.length co, .slice Ac m.c.length cc, .slice Ap m.p.length cp] 27)
  have hc2 := heap_alloc_new w1 (.cells #[.int .i64 m.k, .int .i64 m.f, .int .i64 m.v, .int .i64 m.i, .int .i64 m.q, .int .i64 m.r, .slice Ab m.b.length cb, .slice Ao m.o.length co, .slice Ac m.c.length cc, .slice Ap m.p.length cp] 27)
  have hs2 : (w1.alloc (.cells #[.int .i64 m.k, .int .i64 m.f, .int .i64 m.v, .int .i64 m.i, .int .i64 m.q, .int .i64 m.r, .slice Ab m.b.length cb, .slice Ao m.o.length co, .slice Ac m.c.length cc, .slice Ap m.p.length cp] 27)).heap.size = w1.heap.size + 1 := by simp
  obtain ⟨W2, hW2⟩ : ∃ W, w1.alloc (.cells #[.int .i64 m.k, .int .i64 m.f, .int .i64 m.v, .int .i64 m.i, .int .i64 m.q, .int .i64 m.r, .slice Ab m.b.length cb, .slice Ao m.o.length co, .slice Ac m.c.length cc, .slice Ap m.p.length cp] 27) = W := ⟨_, rfl⟩
  rw [hW2] at hb2 hc2 hs2 ⊢
  refine (begin_m _).mono ?_
  rintro e w3 ⟨g, bm, h, rfl, hT, hb3, hg1, hg2, hg3⟩
  have hlt := hT.nt.lt
  have hbx := box_below hc2 hb3 (Nat.le_refl _)
  have HMO3 := Lib.hid ((HMO.out.keeps (P' := fun b => b < w1.heap.size) (Keeps.mono fun b hb _ => hb)).keeps (Keeps.below (Below.then hb2 hb3 hb2.size)))
  have HB3 := Lib.hid (Below.then (Below.then HB1.out hb2 HB1.out.size) hb3 (by omega))
  have HBX := Lib.hid hbx
  have HN3 := Lib.hid hT.nt
  have hl3 : w1.heap.size < w3.heap.size := (Array.getElem?_eq_some_iff.1 hbx).1
  obtain ⟨y0, y1, y2, y3, y4, y5, y6, y7, y8, y9⟩ := box_cells hbx
  clear hW2 hb2 hc2 hT hb3 hbx hg1 hg3
  go_wp2_with fail
  clear y0 y1 y2 y3 y4 y5 y6 y7 y8 y9
  have hb4 := alloc_below w3 (.cells #[.pointer (some ⟨g, 0, none⟩), .pointer (some ⟨h, 0, none⟩)] 59)
  have hc4 := heap_alloc_new w3 (.cells #[.pointer (some ⟨g, 0, none⟩), .pointer (some ⟨h, 0, none⟩)] 59)
  obtain ⟨W4, hW4⟩ : ∃ W, w3.alloc (.cells #[.pointer (some ⟨g, 0, none⟩), .pointer (some ⟨h, 0, none⟩)] 59) = W := ⟨_, rfl⟩
  rw [hW4] at hb4 hc4 ⊢
  have HK4 := Lib.hid (show Kb w W4 #[.int .i64 m.k, .int .i64 m.f, .int .i64 m.v, .int .i64 m.i, .int .i64 m.q, .int .i64 m.r, .slice Ab m.b.length cb, .slice Ao m.o.length co, .slice Ac m.c.length cc, .slice Ap m.p.length cp] ⟨m, .slice Ab m.b.length cb, .slice Ao m.o.length co, .slice Ac m.c.length cc, .slice Ap m.p.length cp⟩ w1.heap.size w3.heap.size g bm h [] from ⟨box_below HBX.out hb4 (Nat.le_refl _), hc4, HN3.out.below hb4, HMO3.out.keeps (Keeps.below hb4), Below.then HB3.out hb4 HB3.out.size, hz1, hl3, by omega, by omega⟩)
  clear hW4 hb4 hc4 HB3 HBX HN3 HMO3 HMO HB1 hs2
  refine (form_any m _ _ _ _ (1 + f1) (1 + c1) W4 _ HK4.out.ok Hwf.out (fun _ => ⟨by omega, by omega⟩)).mono ?_
  rw [HFm.out]
  rintro e w5 ⟨rfl, hb⟩
  have HK5 := Lib.hid (HK4.out.below hb)
  clear hb HK4
  obtain ⟨y0, y1, y2, y3, y4, y5, y6, y7, y8, y9⟩ := box_cells HK5.out.box
  go_wp2_with fail
  clear y0 y1 y2 y3 y4 y5 y6 y7 y8 y9
  refine (form_any m _ _ _ _ 0 (1 + c1) w5 _ HK5.out.ok Hwf.out (fun _ => ⟨by omega, by omega⟩)).mono ?_
  rw [HF0.out]
  rintro e w6 ⟨rfl, hb⟩
  have HK6 := Lib.hid (HK5.out.below hb)
  clear hb HK5
  obtain ⟨y0, y1, y2, y3, y4, y5, y6, y7, y8, y9⟩ := box_cells HK6.out.box
  go_wp2_with fail
  clear y0 y1 y2 y3 y4 y5 y6 y7 y8 y9
  refine (form_any m _ _ _ _ 5 (1 + c1) w6 _ HK6.out.ok Hwf.out (fun _ => ⟨by omega, by omega⟩)).mono ?_
  rw [HF5.out]
  rintro e w7 ⟨rfl, hb⟩
  have HK7 := Lib.hid (HK6.out.below hb)
  clear hb HK6
  obtain ⟨y0, y1, y2, y3, y4, y5, y6, y7, y8, y9⟩ := box_cells HK7.out.box
  have t0 := HK7.out.t0
  go_wp2_with fail
  clear y0 y1 y2 y3 y4 y5 y6 y7 y8 y9 t0
  refine (seal_m m _ _ _ _ g bm [] w7 HK7.out.ok' HiF.out HK7.out.nt (by simp)).mono ?_
  rintro e w8 ⟨v8, rfl, hown, hN, hfp⟩
  rw [S2.out, S1.out, res_yes, HB1e.out] at hown
  rw [S2.out]
  rw [S3.out] at hN
  obtain ⟨Av8, nv8, rfl, _, _, _⟩ := own_slice hown
  have HO8 := Lib.hid (RdP.of_own hown)
  have HK8 := Lib.hid (HK7.out.seal hfp hN)
  have hzw8 := hfp.size
  clear hown hN 
  have hbm7 := HK7.out.nt.lt.2
  clear hfp HK7
  obtain ⟨y0, y1, y2, y3, y4, y5, y6, y7, y8, y9⟩ := box_cells HK8.out.box
  have t0 := HK8.out.t0
  go_wp2_with fail
  clear y0 y1 y2 y3 y4 y5 y6 y7 y8 y9 t0
  refine (seal_m m _ _ _ _ g bm [kM m] w8 HK8.out.ok' HiF.out HK8.out.nt (by simp)).mono ?_
  rintro e w9 ⟨v9, rfl, hown, hN, hfp⟩
  rw [S5.out, S4.out, res_yes, HB1e.out] at hown
  rw [S5.out]
  rw [S6.out] at hN
  obtain ⟨Av9, nv9, rfl, _, _, _⟩ := own_slice hown
  have HO9 := Lib.hid (RdP.of_own hown)
  have HO89 : Hid (RdP w9 (fun b => b < w9.heap.size) 1 (.slice Av8 B1.length nv8) B1.length (B1.map bv)) := Lib.hid (HO8.out.keeps ⟨hfp.size, fun b hb hlt => ⟨hfp.block b hlt (by have := hb.2; omega), by have := hfp.size; omega⟩⟩)
  have HK9 := Lib.hid (HK8.out.seal hfp hN)
  clear hown hN hfp HK8 HO8
  have t0 := HK9.out.t0
  go_wp2_with fail
  clear t0
  refine (open_m B1 _ (1 + f1) (1 + c1) g bm [kM m] w9 HO89.out HK9.out.nt O1F.out).mono ?_
  rintro e w10 ⟨h1, _, hb⟩
  obtain ⟨vb, vo, vc, vp, rfl, hmx⟩ := h1 _ _ O1.out
  obtain ⟨Bb, Bo, Bc, Bp, db, dd, dc, dp, rfl, rfl, rfl, rfl⟩ := msg_slices hmx
  have HX10 := Lib.hid (hmx.keeps (P' := fun _ => True) (Keeps.mono fun _ _ _ => trivial))
  have HK10 := Lib.hid (HK9.out.below hb)
  have HO810 := Lib.hid (HO89.out.keeps (Keeps.below hb))
  have HO910 := Lib.hid (HO9.out.keeps (Keeps.below hb))
  clear h1 hb hmx HK9 HO89 HO9
  go_wp2_with fail
  have hba := alloc_below w10 (.cells #[.int .i64 m.k, .int .i64 m.f, .int .i64 m.v, .int .i64 m.i, .int .i64 m.q, .int .i64 m.r, .slice Bb m.b.length db, .slice Bo m.o.length dd, .slice Bc m.c.length dc, .slice Bp m.p.length dp] 27)
  have hca := heap_alloc_new w10 (.cells #[.int .i64 m.k, .int .i64 m.f, .int .i64 m.v, .int .i64 m.i, .int .i64 m.q, .int .i64 m.r, .slice Bb m.b.length db, .slice Bo m.o.length dd, .slice Bc m.c.length dc, .slice Bp m.p.length dp] 27)
  obtain ⟨Wa, hWa⟩ : ∃ W, w10.alloc (.cells #[.int .i64 m.k, .int .i64 m.f, .int .i64 m.v, .int .i64 m.i, .int .i64 m.q, .int .i64 m.r, .slice Bb m.b.length db, .slice Bo m.o.length dd, .slice Bc m.c.length dc, .slice Bp m.p.length dp] 27) = W := ⟨_, rfl⟩
  rw [hWa] at hba hca ⊢
  have HKa := Lib.hid (HK10.out.below hba)
  have HXa := Lib.hid (HX10.out.keeps (Keeps.below hba))
  have HOa := Lib.hid (HO810.out.keeps (Keeps.below hba))
  have HOb := Lib.hid (HO910.out.keeps (Keeps.below hba))
  have HCa := Lib.hid hca
  clear hWa hba hca HK10 HX10 HO810 HO910
  refine (same_bytes_yes _ _ B1.length B1.length B1 B1 Wa HOa.out.to_rd HOb.out.to_rd rfl).mono ?_
  rintro e w11 ⟨rfl, hb⟩
  have HK11 := Lib.hid (HKa.out.below hb)
  have HX11 := Lib.hid (HXa.out.keeps (Keeps.below hb))
  have HC11 := Lib.hid (box_below HCa.out hb (Nat.le_refl _))
  clear hb HKa HXa HOa HOb HCa
  have t0 := HK11.out.t0
  obtain ⟨y0, y1, y2, y3, y4, y5, y6, y7, y8, y9⟩ := box_cells HK11.out.box
  obtain ⟨x0, x1, x2, x3, x4, x5, x6, x7, x8, x9⟩ := box_cells HC11.out
  go_wp2_with fail
  refine (nt_len g bm [kM m] w11 HK11.out.nt).mono ?_
  rintro e w' ⟨rfl, rfl⟩
  go_wp2_with fail
  clear t0 y0 y1 y2 y3 y4 y5 y6 y7 y8 y9 x0 x1 x2 x3 x4 x5 x6 x7 x8 x9
  refine (msg_same_yes m m _ _ _ _ _ _ _ _ w' _ _ HX11.out HK11.out.ok rfl).mono ?_
  rintro e w12 ⟨rfl, hb⟩
  have HK12 := Lib.hid (HK11.out.below hb)
  clear hb HK11 HX11 HC11
  obtain ⟨y0, y1, y2, y3, y4, y5, y6, y7, y8, y9⟩ := box_cells HK12.out.box
  go_wp2_with fail
  clear y0 y1 y2 y3 y4 y5 y6 y7 y8 y9
  refine (body_m m _ _ _ _ w12 HK12.out.ok').mono ?_
  intro e w13 hh
  obtain ⟨A3, c3, rfl, hp, hb⟩ := Bytes.rdb hh rfl rfl
  rw [Hok.out, res_yes] at hp
  rw [Hok.out, res_yes]
  have HK13 := Lib.hid (HK12.out.below hb)
  have HP13 := Lib.hid hp
  have hb12 := HK12.out.nt.lt.2
  have hz13 := hb.size
  clear hh hp hb HK12
  have t0 := HK13.out.t0
  obtain ⟨y0, y1, y2, y3, y4, y5, y6, y7, y8, y9⟩ := box_cells HK13.out.box
  go_wp2_with fail
  clear t0 y0 y1 y2 y3 y4 y5 y6 y7 y8 y9
  refine (nt_seal g bm [kM m] (m.f + 1) (Psp.encM m) _ w13 _ HK13.out.nt K2.out (by simp) HP13.out).mono ?_
  rintro e w14 ⟨rfl, hN, hfp⟩
  rw [S7.out]
  rw [S8.out] at hN
  have HK14 := Lib.hid (HK13.out.seal hfp hN)
  have HP14 : Hid (RdP w14 (fun b => b < w14.heap.size) 1 (.slice A3 (Psp.encM m).length c3) (Psp.encM m).length ((Psp.encM m).map bv)) := Lib.hid (HP13.out.keeps ⟨hfp.size, fun b (hb : w12.heap.size ≤ b) hlt => ⟨hfp.block b hlt (by omega), by have := hfp.size; omega⟩⟩)
  clear hN hfp HK13 HP13
  go_wp2_with fail
  refine (env_any 2 (Psp.encM m) _ w14 HP14.out L2.out).mono ?_
  intro e w15 hh
  obtain ⟨A4, c4, rfl, hp, hb⟩ := Bytes.rdb hh rfl rfl
  rw [E2.out, res_yes, HB2e.out] at hp
  rw [E2.out, res_yes, HB2e.out]
  have HK15 := Lib.hid (HK14.out.below hb)
  have HP15 : Hid (RdP w15 (fun b => b < w15.heap.size) 1 (.slice A4 B2.length c4) B2.length (B2.map bv)) := Lib.hid (hp.mono fun b hlt _ => hlt)
  clear hh hp hb HK14 HP14
  have t0 := HK15.out.t0
  go_wp2_with fail
  clear t0
  refine (open_m B2 _ (1 + f1) (1 + c1) g bm _ w15 HP15.out HK15.out.nt O2F.out).mono ?_
  rintro e w16 ⟨_, h2, hb⟩
  obtain rfl := h2 O2.out
  have HB16 := Lib.hid (Below.then HK15.out.be hb HK15.out.be.size)
  clear h2 hb HK15 HP15
  go_wp2_with fail
  refine (wakes06 _).mono ?_
  rintro e wz ⟨rfl, hbz⟩
  have HBz := Lib.hid (Below.then HB16.out hbz HB16.out.size)
  clear hbz
  go_wp2_with fail
  go_ret
  exact ⟨rfl, HBz.out⟩
end Go.Proofs.Ytljfoajhobambaa.msgsKinds
