/- Package msgs: Open. Printed by gen_op.py. -/
import Derived.Test.YtipmjleohadoeaaGreatMqSa
import Derived.Test.YtipmjleohadoeaaGreatSlSa
import Derived.Test.YtipmjleohadoeaaGreatJ18Sa
namespace Go.Proofs.YtipmjleohadoeaaGreat
open Go.RowKit
set_option linter.unusedVariables false
set_option linter.unusedSimpArgs false

/-- Is it that key's number? -/
def chkB (K : List Key) (k : Key) (s : Int) : Bool := decide (k ∈ K) && decide (num K k = s)
/-- What an envelope opens as. -/
def openM (b : List UInt8) (f cl : Int) (K : List Key) : Option (Psp.Msg × Int) :=
  if b.length ≤ 65536 then (dN b 0).bind fun p => (Psp.parseM (b.drop p.2.toNat)).bind fun m => if (Psp.formM m f cl && chkB K (m.f, b.drop p.2.toNat) p.1) = true then some (m, p.1) else none else none
/-- What Open returns. -/
def Opened (b : List UInt8) (f cl : Int) (K : List Key) (w : World) (e : Ending) (w' : World) : Prop :=
  (∀ m s, openM b f cl K = some (m, s) → ∃ vb vo vc vp, e = .returned (.tuple #[.agg #[.int .i64 m.k, .int .i64 m.f, .int .i64 m.v, .int .i64 m.i, .int .i64 m.q, .int .i64 m.r, vb, vo, vc, vp], .int .i64 s, .int .i64 0]) ∧ MsgOk w' (fun k => w.heap.size ≤ k) ⟨m, vb, vo, vc, vp⟩) ∧
  (openM b f cl K = none → e = .returned (.tuple #[.agg zs, .int .i64 0, .int .i64 2])) ∧ Below w.heap.size w w'
/-- Form, of a message that these bytes may be. -/
def FormOk (f cl : Int) (m : Psp.Msg) : Prop := ∀ (vb vo vc vp : Value) (w : World) (P : Nat → Prop), MsgOk w P ⟨m, vb, vo, vc, vp⟩ → wfMsg m →
    Calls Tryz.prog 61 #[.agg #[.int .i64 m.k, .int .i64 m.f, .int .i64 m.v, .int .i64 m.i, .int .i64 m.q, .int .i64 m.r, vb, vo, vc, vp], .int .i64 f, .int .i64 cl] w fun e w' => e = .returned (.bool (Psp.formM m f cl)) ∧ Below w.heap.size w w'
/-- The result's cell. -/
structure Oc (w0 W : World) (cs : Array Value) : Prop where
  rr : W.heap[w0.heap.size]? = some (.cells cs 56 (0, 0))
  be : Below w0.heap.size w0 W
theorem Oc.new (w0 : World) : Oc w0 (w0.alloc (.cells zs 56)) zs := ⟨heap_alloc_new w0 _, alloc_below w0 _⟩
theorem Oc.lt {w0 W : World} {cs : Array Value} (h : Oc w0 W cs) : w0.heap.size < W.heap.size := (Array.getElem?_eq_some_iff.1 h.rr).1
theorem Oc.below {w0 W W' : World} {cs : Array Value} (h : Oc w0 W cs) (hb : Below W.heap.size W W') : Oc w0 W' cs := by
  have := h.lt
  exact ⟨(hb.block _ this).trans h.rr, h.be.trans (hb.mono (by omega))⟩
theorem Oc.store {w0 W : World} {cs : Array Value} (h : Oc w0 W cs) (l : List Value) (hl : l.length = cs.size) : Oc w0 (W.setCells w0.heap.size 0 l) l.toArray ∧ Keeps (fun k => w0.heap.size < k) (fun k => w0.heap.size < k) W (W.setCells w0.heap.size 0 l) := by
  obtain ⟨h1, h2⟩ := row_store h.rr l hl
  exact ⟨⟨h1, below_setCells h.be _ (Nat.le_refl _) l⟩, ⟨((Fp.refl (fun _ => True) W).setCells (Or.inl trivial) _).size, fun b hb _ => ⟨h2 b (by omega), hb⟩⟩⟩
theorem Oc.cell {w0 W : World} {cs : Array Value} (h : Oc w0 W cs) (i : Nat) {u : Value} (hi : cs[i]? = some u) : W.cell? ⟨w0.heap.size, i, none⟩ = some u := by
  rw [cell_of_row _ _ i _ _ _ h.rr]; exact hi
theorem Oc.range {w0 W : World} {cs : Array Value} (h : Oc w0 W cs) : W.rangeAt w0.heap.size 0 cs.toList := fun j v hv => by
  rw [Nat.zero_add, cell_of_row _ _ j _ _ _ h.rr]; simpa using hv
/-- Bytes from a place on. -/
theorem rd_drop {w : World} {P : Nat → Prop} {b o n c k : Nat} {l : List UInt8} (h : RdP w P 1 (.slice (some ⟨b, o, none⟩) n c) l.length (l.map bv)) (hk : k ≤ n) : RdP w P 1 (.slice (some ⟨b, o + k, none⟩) (n - k) (c - k)) (l.drop k).length ((l.drop k).map bv) := by
  obtain ⟨h1, A, c', e, h2, h3, h4⟩ := h
  injection e with e1 e2 e3
  subst e2 e3
  refine ⟨by simp, some ⟨b, o + k, none⟩, c - k, by rw [List.length_drop], by rw [List.length_drop]; omega, by unfold maxLen at *; omega, fun hp => ?_⟩
  rw [List.length_drop] at hp
  obtain ⟨b', o', e4, h5, h6, h7⟩ := h4 (by omega)
  rw [← e1] at e4
  injection e4 with e4
  injection e4 with e5 e6
  subst e5 e6
  refine ⟨b, o + k, rfl, h5, h6, ?_⟩
  have := h7.drop k
  rwa [← List.map_drop] at this
theorem open_long {b : List UInt8} {f cl : Int} {K : List Key} (h : ¬ b.length ≤ 65536) : openM b f cl K = none := if_neg h
theorem open_short {b : List UInt8} {f cl : Int} {K : List Key} (h : b.length ≤ 65536) : openM b f cl K = (dN b 0).bind fun p => (Psp.parseM (b.drop p.2.toNat)).bind fun m => if (Psp.formM m f cl && chkB K (m.f, b.drop p.2.toNat) p.1) = true then some (m, p.1) else none := if_pos h

theorem i64N {n : Int} (h : Psp.okN n = true) : isI64 n := by have := (Psp.okN_iff n).1 h; exact ⟨by omega, by omega⟩
theorem i64S {n : Int} (h : Psp.okS n = true) : isI64 n := by have := (Psp.okS_iff n).1 h; exact ⟨by omega, by omega⟩
theorem wfR_ok {r : Psp.Req} (h : Psp.okR r = true) : wfReq r := by
  unfold Psp.okR at h; simp only [Bool.and_eq_true] at h
  exact ⟨i64N h.1, i64N h.2.1, i64N h.2.2.1, i64S h.2.2.2.1, i64S h.2.2.2.2.1, i64N h.2.2.2.2.2⟩
theorem wfV_ok {v : Psp.Vote} (h : Psp.okV v = true) : wfVote v := by
  unfold Psp.okV at h; simp only [Bool.and_eq_true] at h
  exact ⟨i64N h.1, i64N h.2⟩
theorem okL_mem {α : Type} {ok : α → Bool} {l : List α} (h : Psp.okL ok l = true) {x : α} (hx : x ∈ l) : ok x = true := by
  unfold Psp.okL at h; rw [Bool.and_eq_true] at h; exact List.all_eq_true.1 h.2 x hx
theorem wfC_ok {c : Psp.Cert} (h : Psp.okC c = true) : wfCert c := by
  unfold Psp.okC at h; simp only [Bool.and_eq_true] at h
  exact ⟨i64N h.1, i64N h.2.1, i64N h.2.2.1, fun r hr => wfR_ok (okL_mem h.2.2.2.1 hr), fun v hv => wfV_ok (okL_mem h.2.2.2.2 hv)⟩
theorem wfP_ok {p : Psp.Part} (h : Psp.okP p = true) : wfPart p := by
  unfold Psp.okP at h; simp only [Bool.and_eq_true] at h
  exact ⟨i64N h.1, fun v hv => wfV_ok (okL_mem h.2.1 hv), fun c hc => wfC_ok (okL_mem h.2.2.1 hc), i64N h.2.2.2⟩
theorem wf_of_ok {m : Psp.Msg} (h : Psp.okB m = true) : wfMsg m := by
  unfold Psp.okB Psp.okM at h; simp only [Bool.and_eq_true] at h
  obtain ⟨⟨h1, h2, h3, h4, h5, h6, h7, h8, h9, h10⟩, _⟩ := h
  exact ⟨i64N h1, i64N h2, i64N h3, i64N h4, i64N h5, i64S h6, fun r hr => wfR_ok (okL_mem h7 hr), fun v hv => wfV_ok (okL_mem h8 hv), fun c hc => wfC_ok (okL_mem h9 hc), fun p hp => wfP_ok (okL_mem h10 hp)⟩

set_option maxRecDepth 100000 in
set_option maxHeartbeats 8000000 in
theorem open_m (b : List UInt8) (x : Value) (f cl : Int) (g bm : Nat) (K : List Key) (w : World) (hx : RdP w (fun k => k < w.heap.size) 1 x b.length (b.map bv)) (hN : Nt w g bm K)
    (hF : ∀ n a m, dN b 0 = some (n, a) → Psp.parseM (b.drop a.toNat) = some m → FormOk f cl m) :
    Calls Tryz.prog 38 #[x, .int .i64 f, .int .i64 cl, .pointer (some ⟨g, 0, none⟩)] w (Opened b f cl K w) := by
  obtain ⟨_, A, c, rfl, hc1, hc2, hA⟩ := hx.parts
  have HA := Lib.hid hA
  have HX := Lib.hid hx
  have HN := Lib.hid hN
  have HF := Lib.hid hF
  have HO := Lib.hid (Oc.new w)
  clear hx hN hF hA
  have za : isI64 0 := ⟨by omega, by omega⟩
  by_cases hbig : b.length ≤ 65536
  case' neg =>
    have Hn := Lib.hid (open_long (f := f) (cl := cl) (K := K) hbig)
    have d0 : decide ((b.length : Int) > 65536) = true := by simp; omega
    clear za
    go_enter Tryz.func38, Tryz.ntmps38
    go_upto_region 2 with fail
    have Hth := Lib.hid (row_there HO.out.rr)
    obtain ⟨⟨t1, t2⟩, _⟩ := HO.out.store zs.toList rfl
    have T1 := Lib.hid t1
    have T2 := Lib.hid t2
    clear t1 t2
    go_wp2_with (first | (refine wpList_store_mid rfl 56 (.tmp 8) (.tmp 16) rfl w.heap.size 0 zs rfl rfl Hth.out sizeM (by simp [Value.oneCell']) ?_))
    refine bodyPost_ret (v := .tuple #[.agg zs, .int .i64 0, .int .i64 2]) ?_ rfl ?_
    · exact results_cell_row2 Tryz.results38 _ _ w.heap.size _ _ _ _ rfl T1.out Tryz.underlying56 rfl sizeM
    · exact ⟨fun m s h => (by rw [Hn.out] at h; cases h), fun _ => rfl, T2.out⟩
  have Ho := Lib.hid (open_short (f := f) (cl := cl) (K := K) hbig)
  have d0 : decide ((b.length : Int) > 65536) = false := by simp; omega
  go_enter Tryz.func38, Tryz.ntmps38
  go_wp2_with fail
  refine (tk_N b _ 0 _ _ (HX.out.keeps (Keeps.on HO.out.be)) za).mono ?_
  rintro e wa ⟨g1, g2, rfl⟩
  rcases hd : dN b 0 with _ | ⟨n, a⟩
  · obtain rfl := g2 hd
    have Hn : Hid (openM b f cl K = none) := Lib.hid (by rw [Ho.out, hd]; rfl)
    clear g1 g2 hd Ho HF za
    go_upto_region 5 with fail
    have Hth := Lib.hid (row_there HO.out.rr)
    obtain ⟨⟨t1, t2⟩, _⟩ := HO.out.store zs.toList rfl
    have T1 := Lib.hid t1
    have T2 := Lib.hid t2
    clear t1 t2
    go_wp2_with (first | (refine wpList_store_mid rfl 56 (.tmp 8) (.tmp 25) rfl w.heap.size 0 zs rfl rfl Hth.out sizeM (by simp [Value.oneCell']) ?_))
    refine bodyPost_ret (v := .tuple #[.agg zs, .int .i64 0, .int .i64 2]) ?_ rfl ?_
    · exact results_cell_row2 Tryz.results38 _ _ w.heap.size _ _ _ _ rfl T1.out Tryz.underlying56 rfl sizeM
    · exact ⟨fun m s h => (by rw [Hn.out] at h; cases h), fun _ => rfl, T2.out⟩
  obtain rfl := g1 _ _ hd
  obtain ⟨n0, n1, _, a0, a1⟩ := dN_bd hd
  obtain ⟨k, rfl⟩ := Int.eq_ofNat_of_zero_le (show 0 ≤ a by omega)
  have hkl : k ≤ b.length := by omega
  obtain ⟨b0, o0, rfl, hb0, _, _⟩ := HA.out (by omega)
  have hc := Ho.out
  rw [hd, Option.bind_some] at hc
  dsimp only at hc
  rw [Int.toNat_natCast] at hc
  obtain ⟨r, hr⟩ : ∃ r, b.drop k = r := ⟨_, rfl⟩
  have hform : ∀ m, Psp.parseM r = some m → FormOk f cl m := fun m hm => HF.out n (k : Int) m hd (by rw [Int.toNat_natCast, hr]; exact hm)
  have hxr := rd_drop HX.out hkl
  rw [hr] at hxr hc
  have HXr := Lib.hid hxr
  have Hc := Lib.hid hc
  have Hfo := Lib.hid hform
  have z0 : (0 : Int) ≤ (k : Int) := by omega
  have z1 : (k : Int) ≤ (b.length : Int) := by omega
  have z2 : (k : Int) ≤ (c : Int) := by omega
  clear g1 g2 hd hc hform hxr Ho HF za a0 a1
  obtain ⟨W0, hW0⟩ : ∃ W0, w.alloc (.cells zs 56) = W0 := ⟨_, rfl⟩
  rw [hW0] at HO
  by_cases hkc : k < c
  case' neg =>
    have hkc' : k = c := by omega
    have hlk : b.length = k := by omega
    have hr0 : r = [] := by rw [← hr]; exact List.drop_eq_nil_of_le (by omega)
    have Hn : Hid (openM b f cl K = none) := Lib.hid (by rw [Hc.out, hr0]; rfl)
    have e1 : b.length - k = 0 := by omega
    have d1 : ¬ (k : Int) < (c : Int) := by omega
    clear HXr
    go_wp2_with fail
    clear hW0 d1 e1
    refine (parse_m [] _ W0 ⟨rfl, _, 0, rfl, Nat.le_refl _, Nat.zero_le _, fun h => absurd h (by simp)⟩).mono ?_
    rintro e w1 ⟨_, g2, g3⟩
    obtain rfl := g2 rfl
    replace HO := Lib.hid (HO.out.below g3)
    clear g2 g3 Hc Hfo
    have y0 := HO.out.cell 0 (u := .int .i64 0) rfl
    have q0 := frozen_of_row _ _ 0 _ _ HO.out.rr
    have y1 := HO.out.cell 1 (u := .int .i64 0) rfl
    have q1 := frozen_of_row _ _ 1 _ _ HO.out.rr
    have y2 := HO.out.cell 2 (u := .int .i64 0) rfl
    have q2 := frozen_of_row _ _ 2 _ _ HO.out.rr
    have y3 := HO.out.cell 3 (u := .int .i64 0) rfl
    have q3 := frozen_of_row _ _ 3 _ _ HO.out.rr
    have y4 := HO.out.cell 4 (u := .int .i64 0) rfl
    have q4 := frozen_of_row _ _ 4 _ _ HO.out.rr
    have y5 := HO.out.cell 5 (u := .int .i64 0) rfl
    have q5 := frozen_of_row _ _ 5 _ _ HO.out.rr
    have y6 := HO.out.cell 6 (u := .slice none 0 0) rfl
    have q6 := frozen_of_row _ _ 6 _ _ HO.out.rr
    have y7 := HO.out.cell 7 (u := .slice none 0 0) rfl
    have q7 := frozen_of_row _ _ 7 _ _ HO.out.rr
    have y8 := HO.out.cell 8 (u := .slice none 0 0) rfl
    have q8 := frozen_of_row _ _ 8 _ _ HO.out.rr
    have y9 := HO.out.cell 9 (u := .slice none 0 0) rfl
    have q9 := frozen_of_row _ _ 9 _ _ HO.out.rr
    obtain ⟨hs1, _⟩ := HO.out.store zs.toList rfl
    obtain ⟨W1, hW1⟩ : ∃ W1, ((((((((((w1.setCell ⟨w.heap.size, 0, none⟩ (.int .i64 0)).setCell ⟨w.heap.size, 1, none⟩ (.int .i64 0)).setCell ⟨w.heap.size, 2, none⟩ (.int .i64 0)).setCell ⟨w.heap.size, 3, none⟩ (.int .i64 0)).setCell ⟨w.heap.size, 4, none⟩ (.int .i64 0)).setCell ⟨w.heap.size, 5, none⟩ (.int .i64 0)).setCell ⟨w.heap.size, 6, none⟩ (.slice none 0 0)).setCell ⟨w.heap.size, 7, none⟩ (.slice none 0 0)).setCell ⟨w.heap.size, 8, none⟩ (.slice none 0 0)).setCell ⟨w.heap.size, 9, none⟩ (.slice none 0 0)) = W1 := ⟨_, rfl⟩
    have hs2 : Oc w W1 zs := by
      have h := hs1
      simp only [zs, World.setCells, Nat.zero_add, Nat.reduceAdd] at h
      rw [hW1] at h
      exact h
    replace HO := Lib.hid hs2
    go_upto_region 7 with fail
    clear hs1 hs2 y0 q0 y1 q1 y2 q2 y3 q3 y4 q4 y5 q5 y6 q6 y7 q7 y8 q8 y9 q9
    try clear hW1
    go_quiet (fail)
    replace HO := Lib.hid (HO.out.below (below_drewN (Below.refl _ _) nq))
    go_upto_region 8 with fail
    have Hth := Lib.hid (row_there HO.out.rr)
    obtain ⟨⟨t1, t2⟩, _⟩ := HO.out.store zs.toList rfl
    have T1 := Lib.hid t1
    have T2 := Lib.hid t2
    clear t1 t2
    go_wp2_with (first | (refine wpList_store_mid rfl 56 (.tmp 8) (.tmp 53) rfl w.heap.size 0 zs rfl rfl Hth.out sizeM (by simp [Value.oneCell']) ?_))
    refine bodyPost_ret (v := .tuple #[.agg zs, .int .i64 0, .int .i64 2]) ?_ rfl ?_
    · exact results_cell_row2 Tryz.results38 _ _ w.heap.size _ _ _ _ rfl T1.out Tryz.underlying56 rfl sizeM
    · exact ⟨fun m s h => (by rw [Hn.out] at h; cases h), fun _ => rfl, T2.out⟩
  have hkc' : (k : Int) < (c : Int) := by omega
  go_wp2_with fail
  clear hW0
  have hrl : b.length - k = r.length := by rw [← hr, List.length_drop]
  rw [hrl] at HXr ⊢
  refine (parse_m r _ W0 (HXr.out.keeps (Keeps.on HO.out.be))).mono ?_
  rintro e w1 ⟨g1, g2, g3⟩
  have hzs := HO.out.lt
  replace HO := Lib.hid (HO.out.below g3)
  have HN1 := Lib.hid (HN.out.below HO.out.be)
  clear g3
  rcases hd : Psp.parseM r with _ | m
  · obtain rfl := g2 hd
    have Hn : Hid (openM b f cl K = none) := Lib.hid (by rw [Hc.out, hd]; rfl)
    clear g1 g2 hd Hc Hfo
    have y0 := HO.out.cell 0 (u := .int .i64 0) rfl
    have q0 := frozen_of_row _ _ 0 _ _ HO.out.rr
    have y1 := HO.out.cell 1 (u := .int .i64 0) rfl
    have q1 := frozen_of_row _ _ 1 _ _ HO.out.rr
    have y2 := HO.out.cell 2 (u := .int .i64 0) rfl
    have q2 := frozen_of_row _ _ 2 _ _ HO.out.rr
    have y3 := HO.out.cell 3 (u := .int .i64 0) rfl
    have q3 := frozen_of_row _ _ 3 _ _ HO.out.rr
    have y4 := HO.out.cell 4 (u := .int .i64 0) rfl
    have q4 := frozen_of_row _ _ 4 _ _ HO.out.rr
    have y5 := HO.out.cell 5 (u := .int .i64 0) rfl
    have q5 := frozen_of_row _ _ 5 _ _ HO.out.rr
    have y6 := HO.out.cell 6 (u := .slice none 0 0) rfl
    have q6 := frozen_of_row _ _ 6 _ _ HO.out.rr
    have y7 := HO.out.cell 7 (u := .slice none 0 0) rfl
    have q7 := frozen_of_row _ _ 7 _ _ HO.out.rr
    have y8 := HO.out.cell 8 (u := .slice none 0 0) rfl
    have q8 := frozen_of_row _ _ 8 _ _ HO.out.rr
    have y9 := HO.out.cell 9 (u := .slice none 0 0) rfl
    have q9 := frozen_of_row _ _ 9 _ _ HO.out.rr
    obtain ⟨hs1, _⟩ := HO.out.store zs.toList rfl
    obtain ⟨W1, hW1⟩ : ∃ W1, ((((((((((w1.setCell ⟨w.heap.size, 0, none⟩ (.int .i64 0)).setCell ⟨w.heap.size, 1, none⟩ (.int .i64 0)).setCell ⟨w.heap.size, 2, none⟩ (.int .i64 0)).setCell ⟨w.heap.size, 3, none⟩ (.int .i64 0)).setCell ⟨w.heap.size, 4, none⟩ (.int .i64 0)).setCell ⟨w.heap.size, 5, none⟩ (.int .i64 0)).setCell ⟨w.heap.size, 6, none⟩ (.slice none 0 0)).setCell ⟨w.heap.size, 7, none⟩ (.slice none 0 0)).setCell ⟨w.heap.size, 8, none⟩ (.slice none 0 0)).setCell ⟨w.heap.size, 9, none⟩ (.slice none 0 0)) = W1 := ⟨_, rfl⟩
    have hs2 : Oc w W1 zs := by
      have h := hs1
      simp only [zs, World.setCells, Nat.zero_add, Nat.reduceAdd] at h
      rw [hW1] at h
      exact h
    replace HO := Lib.hid hs2
    go_upto_region 7 with fail
    clear hs1 hs2 y0 q0 y1 q1 y2 q2 y3 q3 y4 q4 y5 q5 y6 q6 y7 q7 y8 q8 y9 q9
    try clear hW1
    go_quiet (fail)
    replace HO := Lib.hid (HO.out.below (below_drewN (Below.refl _ _) nq))
    go_upto_region 8 with fail
    have Hth := Lib.hid (row_there HO.out.rr)
    obtain ⟨⟨t1, t2⟩, _⟩ := HO.out.store zs.toList rfl
    have T1 := Lib.hid t1
    have T2 := Lib.hid t2
    clear t1 t2
    go_wp2_with (first | (refine wpList_store_mid rfl 56 (.tmp 8) (.tmp 53) rfl w.heap.size 0 zs rfl rfl Hth.out sizeM (by simp [Value.oneCell']) ?_))
    refine bodyPost_ret (v := .tuple #[.agg zs, .int .i64 0, .int .i64 2]) ?_ rfl ?_
    · exact results_cell_row2 Tryz.results38 _ _ w.heap.size _ _ _ _ rfl T1.out Tryz.underlying56 rfl sizeM
    · exact ⟨fun m s h => (by rw [Hn.out] at h; cases h), fun _ => rfl, T2.out⟩
  obtain ⟨vb, vo, vc, vp, he, hm⟩ := g1 _ hd
  subst he
  obtain ⟨Ab, Ao, Ac, Ap, cb, co, cc, cp, rfl, rfl, rfl, rfl⟩ := msg_slices hm
  have hpi := (Psp.parse_iff r m).1 hd
  have hwf := wf_of_ok hpi.1
  have y0 := HO.out.cell 0 (u := .int .i64 0) rfl
  have q0 := frozen_of_row _ _ 0 _ _ HO.out.rr
  have y1 := HO.out.cell 1 (u := .int .i64 0) rfl
  have q1 := frozen_of_row _ _ 1 _ _ HO.out.rr
  have y2 := HO.out.cell 2 (u := .int .i64 0) rfl
  have q2 := frozen_of_row _ _ 2 _ _ HO.out.rr
  have y3 := HO.out.cell 3 (u := .int .i64 0) rfl
  have q3 := frozen_of_row _ _ 3 _ _ HO.out.rr
  have y4 := HO.out.cell 4 (u := .int .i64 0) rfl
  have q4 := frozen_of_row _ _ 4 _ _ HO.out.rr
  have y5 := HO.out.cell 5 (u := .int .i64 0) rfl
  have q5 := frozen_of_row _ _ 5 _ _ HO.out.rr
  have y6 := HO.out.cell 6 (u := .slice none 0 0) rfl
  have q6 := frozen_of_row _ _ 6 _ _ HO.out.rr
  have y7 := HO.out.cell 7 (u := .slice none 0 0) rfl
  have q7 := frozen_of_row _ _ 7 _ _ HO.out.rr
  have y8 := HO.out.cell 8 (u := .slice none 0 0) rfl
  have q8 := frozen_of_row _ _ 8 _ _ HO.out.rr
  have y9 := HO.out.cell 9 (u := .slice none 0 0) rfl
  have q9 := frozen_of_row _ _ 9 _ _ HO.out.rr
  obtain ⟨hs1, hs3⟩ := HO.out.store [.int .i64 m.k, .int .i64 m.f, .int .i64 m.v, .int .i64 m.i, .int .i64 m.q, .int .i64 m.r, .slice Ab m.b.length cb, .slice Ao m.o.length co, .slice Ac m.c.length cc, .slice Ap m.p.length cp] rfl
  have hm2 := (hm.keeps (Keeps.mono (P' := fun j => w.heap.size < j) fun j _ hj => by omega)).keeps hs3
  obtain ⟨W1, hW1⟩ : ∃ W1, ((((((((((w1.setCell ⟨w.heap.size, 0, none⟩ (.int .i64 m.k)).setCell ⟨w.heap.size, 1, none⟩ (.int .i64 m.f)).setCell ⟨w.heap.size, 2, none⟩ (.int .i64 m.v)).setCell ⟨w.heap.size, 3, none⟩ (.int .i64 m.i)).setCell ⟨w.heap.size, 4, none⟩ (.int .i64 m.q)).setCell ⟨w.heap.size, 5, none⟩ (.int .i64 m.r)).setCell ⟨w.heap.size, 6, none⟩ (.slice Ab m.b.length cb)).setCell ⟨w.heap.size, 7, none⟩ (.slice Ao m.o.length co)).setCell ⟨w.heap.size, 8, none⟩ (.slice Ac m.c.length cc)).setCell ⟨w.heap.size, 9, none⟩ (.slice Ap m.p.length cp)) = W1 := ⟨_, rfl⟩
  have hs2 : Oc w W1 #[.int .i64 m.k, .int .i64 m.f, .int .i64 m.v, .int .i64 m.i, .int .i64 m.q, .int .i64 m.r, .slice Ab m.b.length cb, .slice Ao m.o.length co, .slice Ac m.c.length cc, .slice Ap m.p.length cp] ∧ MsgOk W1 (fun j => w.heap.size < j) ⟨m, .slice Ab m.b.length cb, .slice Ao m.o.length co, .slice Ac m.c.length cc, .slice Ap m.p.length cp⟩ := by
    have h := And.intro hs1 hm2
    simp only [World.setCells, Nat.zero_add, Nat.reduceAdd] at h
    rw [hW1] at h
    exact h
  have hn1 : Nt W1 g bm K := HN.out.below hs2.1.be
  have HNW := Lib.hid hn1
  have HFm := Lib.hid (Hfo.out m hd)
  have Hwf := Lib.hid hwf
  replace HO := Lib.hid hs2.1
  have HM := Lib.hid hs2.2
  have Hd : Hid (openM b f cl K = if (Psp.formM m f cl && chkB K (m.f, r) n) = true then some (m, n) else none) := Lib.hid (by rw [Hc.out, hd]; rfl)
  have Hkey : Hid (KOk (m.f, r)) := Lib.hid ⟨hwf.2.1, by rw [hpi.2]; have := encM_le hpi.1; show (Psp.encM m).length ≤ maxLen; unfold maxLen; omega⟩
  go_upto_region 7 with fail
  clear hs1 hs2 hs3 hm hm2 hn1 hpi hwf g1 g2 hd y0 q0 y1 q1 y2 q2 y3 q3 y4 q4 y5 q5 y6 q6 y7 q7 y8 q8 y9 q9 Hfo Hc
  try clear hW1
  have l0 := later_cell (HO.out.cell 0 (u := .int .i64 m.k) rfl)
  have l1 := later_cell (HO.out.cell 1 (u := .int .i64 m.f) rfl)
  have l2 := later_cell (HO.out.cell 2 (u := .int .i64 m.v) rfl)
  have l3 := later_cell (HO.out.cell 3 (u := .int .i64 m.i) rfl)
  have l4 := later_cell (HO.out.cell 4 (u := .int .i64 m.q) rfl)
  have l5 := later_cell (HO.out.cell 5 (u := .int .i64 m.r) rfl)
  have l6 := later_cell (HO.out.cell 6 (u := .slice Ab m.b.length cb) rfl)
  have l7 := later_cell (HO.out.cell 7 (u := .slice Ao m.o.length co) rfl)
  have l8 := later_cell (HO.out.cell 8 (u := .slice Ac m.c.length cc) rfl)
  have l9 := later_cell (HO.out.cell 9 (u := .slice Ap m.p.length cp) rfl)
  have HRM : Hid (∀ w' : World, (∃ p : Later W1, w' = p.W) → w'.rangeAt w.heap.size 0 [.int .i64 m.k, .int .i64 m.f, .int .i64 m.v, .int .i64 m.i, .int .i64 m.q, .int .i64 m.r, .slice Ab m.b.length cb, .slice Ao m.o.length co, .slice Ac m.c.length cc, .slice Ap m.p.length cp]) := Lib.hid (by rintro w' ⟨p, rfl⟩; exact (HO.out.below p.h).range)
  obtain ⟨b1, hb1⟩ : ∃ y, Psp.formM m f cl = y := ⟨_, rfl⟩
  obtain ⟨b2, hb2⟩ : ∃ y, chkB K (m.f, r) n = y := ⟨_, rfl⟩
  have HCF : Hid (∀ p : Later W1, Calls Tryz.prog 61 #[.agg #[.int .i64 m.k, .int .i64 m.f, .int .i64 m.v, .int .i64 m.i, .int .i64 m.q, .int .i64 m.r, .slice Ab m.b.length cb, .slice Ao m.o.length co, .slice Ac m.c.length cc, .slice Ap m.p.length cp], .int .i64 f, .int .i64 cl] p.W fun e w' => e = .returned (.bool b1) ∧ Below p.W.heap.size p.W w') := Lib.hid fun p => by rw [← hb1]; exact HFm.out _ _ _ _ p.W _ (HM.out.keeps (Keeps.below p.h)) Hwf.out
  have HCK : Hid (∀ p : Later W1, Calls Tryz.prog 62 #[.pointer (some ⟨g, 0, none⟩), .int .i64 m.f, .slice (some ⟨b0, o0 + k, none⟩) r.length (c - k), .int .i64 n] p.W fun e w' => e = .returned (.bool b2) ∧ Below p.W.heap.size p.W w') := Lib.hid fun p => by
    refine (nt_check g bm K m.f r n _ p.W _ (HNW.out.below p.h) Hkey.out (HXr.out.keeps (Keeps.on (HO.out.below p.h).be))).mono ?_
    rintro e w' ⟨rfl, q, rfl⟩
    exact ⟨by rw [← hb2]; rfl, below_drewN (Below.refl _ _) q⟩
  rw [hb1, hb2] at Hd
  clear hb1 hb2
  cases b1 with
  | false =>
    have Hn : Hid (openM b f cl K = none) := Lib.hid (by rw [Hd.out]; rfl)
    refine wp_region_later (by kernel_rfl) (by kernel_rfl) ?_
    repeat (first | go_big_quiet_step (first | (go_at_call 61; exact later_call _ (HCF.out _)) | (go_at_call 62; exact later_call _ (HCK.out _))) | (refine quiet_load (by simp [Region.wanted, yielded]) 56 (.tmp 8) (by rfl) w.heap.size (0) (by rfl) [.int .i64 m.k, .int .i64 m.f, .int .i64 m.v, .int .i64 m.i, .int .i64 m.q, .int .i64 m.r, .slice Ab m.b.length cb, .slice Ao m.o.length co, .slice Ac m.c.length cc, .slice Ap m.p.length cp] _ HRM.out Tryz.underlying56 rfl sizeM ?_; intro K hK; go_simp; refine hK _ ?_; clear hK K) | quiet_step (first | (go_at_call 61; exact later_call _ (HCF.out _)) | (go_at_call 62; exact later_call _ (HCK.out _))))
    refine wpQuiet_nil ?_
    intro w2 hw'
    obtain ⟨⟨wq, hbq⟩, hw'⟩ := hw'
    have hb2 : Below W1.heap.size W1 w2 := by rw [hw']; exact hbq
    clear hw' hbq
    replace HO := Lib.hid (HO.out.below hb2)
    have HM2 := Lib.hid (HM.out.keeps (Keeps.below hb2))
    clear hb2
    go_upto_region 8 with fail
    have Hth := Lib.hid (row_there HO.out.rr)
    obtain ⟨⟨t1, t2⟩, _⟩ := HO.out.store zs.toList rfl
    have T1 := Lib.hid t1
    have T2 := Lib.hid t2
    clear t1 t2
    go_wp2_with (first | (refine wpList_store_mid rfl 56 (.tmp 8) (.tmp 53) rfl w.heap.size 0 zs rfl rfl Hth.out sizeM (by simp [Value.oneCell']) ?_))
    refine bodyPost_ret (v := .tuple #[.agg zs, .int .i64 0, .int .i64 2]) ?_ rfl ?_
    · exact results_cell_row2 Tryz.results38 _ _ w.heap.size _ _ _ _ rfl T1.out Tryz.underlying56 rfl sizeM
    · exact ⟨fun m s h => (by rw [Hn.out] at h; cases h), fun _ => rfl, T2.out⟩
  | true =>
    cases b2 with
    | false =>
      have Hn : Hid (openM b f cl K = none) := Lib.hid (by rw [Hd.out]; rfl)
      refine wp_region_later (by kernel_rfl) (by kernel_rfl) ?_
      repeat (first | go_big_quiet_step (first | (go_at_call 61; exact later_call _ (HCF.out _)) | (go_at_call 62; exact later_call _ (HCK.out _))) | (refine quiet_load (by simp [Region.wanted, yielded]) 56 (.tmp 8) (by rfl) w.heap.size (0) (by rfl) [.int .i64 m.k, .int .i64 m.f, .int .i64 m.v, .int .i64 m.i, .int .i64 m.q, .int .i64 m.r, .slice Ab m.b.length cb, .slice Ao m.o.length co, .slice Ac m.c.length cc, .slice Ap m.p.length cp] _ HRM.out Tryz.underlying56 rfl sizeM ?_; intro K hK; go_simp; refine hK _ ?_; clear hK K) | quiet_step (first | (go_at_call 61; exact later_call _ (HCF.out _)) | (go_at_call 62; exact later_call _ (HCK.out _))))
      refine wpQuiet_nil ?_
      intro w2 hw'
      obtain ⟨⟨wq, hbq⟩, hw'⟩ := hw'
      have hb2 : Below W1.heap.size W1 w2 := by rw [hw']; exact hbq
      clear hw' hbq
      replace HO := Lib.hid (HO.out.below hb2)
      have HM2 := Lib.hid (HM.out.keeps (Keeps.below hb2))
      clear hb2
      go_upto_region 8 with fail
      have Hth := Lib.hid (row_there HO.out.rr)
      obtain ⟨⟨t1, t2⟩, _⟩ := HO.out.store zs.toList rfl
      have T1 := Lib.hid t1
      have T2 := Lib.hid t2
      clear t1 t2
      go_wp2_with (first | (refine wpList_store_mid rfl 56 (.tmp 8) (.tmp 53) rfl w.heap.size 0 zs rfl rfl Hth.out sizeM (by simp [Value.oneCell']) ?_))
      refine bodyPost_ret (v := .tuple #[.agg zs, .int .i64 0, .int .i64 2]) ?_ rfl ?_
      · exact results_cell_row2 Tryz.results38 _ _ w.heap.size _ _ _ _ rfl T1.out Tryz.underlying56 rfl sizeM
      · exact ⟨fun m s h => (by rw [Hn.out] at h; cases h), fun _ => rfl, T2.out⟩
    | true =>
      have Hy : Hid (openM b f cl K = some (m, n)) := Lib.hid (by rw [Hd.out]; rfl)
      refine wp_region_later (by kernel_rfl) (by kernel_rfl) ?_
      repeat (first | go_big_quiet_step (first | (go_at_call 61; exact later_call _ (HCF.out _)) | (go_at_call 62; exact later_call _ (HCK.out _))) | (refine quiet_load (by simp [Region.wanted, yielded]) 56 (.tmp 8) (by rfl) w.heap.size (0) (by rfl) [.int .i64 m.k, .int .i64 m.f, .int .i64 m.v, .int .i64 m.i, .int .i64 m.q, .int .i64 m.r, .slice Ab m.b.length cb, .slice Ao m.o.length co, .slice Ac m.c.length cc, .slice Ap m.p.length cp] _ HRM.out Tryz.underlying56 rfl sizeM ?_; intro K hK; go_simp; refine hK _ ?_; clear hK K) | quiet_step (first | (go_at_call 61; exact later_call _ (HCF.out _)) | (go_at_call 62; exact later_call _ (HCK.out _))))
      refine wpQuiet_nil ?_
      intro w2 hw'
      obtain ⟨⟨wq, hbq⟩, hw'⟩ := hw'
      have hb2 : Below W1.heap.size W1 w2 := by rw [hw']; exact hbq
      clear hw' hbq
      replace HO := Lib.hid (HO.out.below hb2)
      have HM2 := Lib.hid (HM.out.keeps (Keeps.below hb2))
      clear hb2
      have y0 := HO.out.cell 0 (u := .int .i64 m.k) rfl
      have q0 := frozen_of_row _ _ 0 _ _ HO.out.rr
      have y1 := HO.out.cell 1 (u := .int .i64 m.f) rfl
      have q1 := frozen_of_row _ _ 1 _ _ HO.out.rr
      have y2 := HO.out.cell 2 (u := .int .i64 m.v) rfl
      have q2 := frozen_of_row _ _ 2 _ _ HO.out.rr
      have y3 := HO.out.cell 3 (u := .int .i64 m.i) rfl
      have q3 := frozen_of_row _ _ 3 _ _ HO.out.rr
      have y4 := HO.out.cell 4 (u := .int .i64 m.q) rfl
      have q4 := frozen_of_row _ _ 4 _ _ HO.out.rr
      have y5 := HO.out.cell 5 (u := .int .i64 m.r) rfl
      have q5 := frozen_of_row _ _ 5 _ _ HO.out.rr
      have y6 := HO.out.cell 6 (u := .slice Ab m.b.length cb) rfl
      have q6 := frozen_of_row _ _ 6 _ _ HO.out.rr
      have y7 := HO.out.cell 7 (u := .slice Ao m.o.length co) rfl
      have q7 := frozen_of_row _ _ 7 _ _ HO.out.rr
      have y8 := HO.out.cell 8 (u := .slice Ac m.c.length cc) rfl
      have q8 := frozen_of_row _ _ 8 _ _ HO.out.rr
      have y9 := HO.out.cell 9 (u := .slice Ap m.p.length cp) rfl
      have q9 := frozen_of_row _ _ 9 _ _ HO.out.rr
      obtain ⟨hs1, hs3⟩ := HO.out.store [.int .i64 m.k, .int .i64 m.f, .int .i64 m.v, .int .i64 m.i, .int .i64 m.q, .int .i64 m.r, .slice Ab m.b.length cb, .slice Ao m.o.length co, .slice Ac m.c.length cc, .slice Ap m.p.length cp] rfl
      have hm3 := HM2.out.keeps hs3
      have hs2 : Oc w ((((((((((w2.setCell ⟨w.heap.size, 0, none⟩ (.int .i64 m.k)).setCell ⟨w.heap.size, 1, none⟩ (.int .i64 m.f)).setCell ⟨w.heap.size, 2, none⟩ (.int .i64 m.v)).setCell ⟨w.heap.size, 3, none⟩ (.int .i64 m.i)).setCell ⟨w.heap.size, 4, none⟩ (.int .i64 m.q)).setCell ⟨w.heap.size, 5, none⟩ (.int .i64 m.r)).setCell ⟨w.heap.size, 6, none⟩ (.slice Ab m.b.length cb)).setCell ⟨w.heap.size, 7, none⟩ (.slice Ao m.o.length co)).setCell ⟨w.heap.size, 8, none⟩ (.slice Ac m.c.length cc)).setCell ⟨w.heap.size, 9, none⟩ (.slice Ap m.p.length cp)) #[.int .i64 m.k, .int .i64 m.f, .int .i64 m.v, .int .i64 m.i, .int .i64 m.q, .int .i64 m.r, .slice Ab m.b.length cb, .slice Ao m.o.length co, .slice Ac m.c.length cc, .slice Ap m.p.length cp] ∧ MsgOk ((((((((((w2.setCell ⟨w.heap.size, 0, none⟩ (.int .i64 m.k)).setCell ⟨w.heap.size, 1, none⟩ (.int .i64 m.f)).setCell ⟨w.heap.size, 2, none⟩ (.int .i64 m.v)).setCell ⟨w.heap.size, 3, none⟩ (.int .i64 m.i)).setCell ⟨w.heap.size, 4, none⟩ (.int .i64 m.q)).setCell ⟨w.heap.size, 5, none⟩ (.int .i64 m.r)).setCell ⟨w.heap.size, 6, none⟩ (.slice Ab m.b.length cb)).setCell ⟨w.heap.size, 7, none⟩ (.slice Ao m.o.length co)).setCell ⟨w.heap.size, 8, none⟩ (.slice Ac m.c.length cc)).setCell ⟨w.heap.size, 9, none⟩ (.slice Ap m.p.length cp)) (fun j => w.heap.size < j) ⟨m, .slice Ab m.b.length cb, .slice Ao m.o.length co, .slice Ac m.c.length cc, .slice Ap m.p.length cp⟩ := by
        have h := And.intro hs1 hm3
        simp only [World.setCells, Nat.zero_add, Nat.reduceAdd] at h
        exact h
      have HE := Lib.hid hs2
      clear hs1 hs3 hm3 hs2
      go_wp2_with fail
      refine bodyPost_ret (v := .tuple #[.agg #[.int .i64 m.k, .int .i64 m.f, .int .i64 m.v, .int .i64 m.i, .int .i64 m.q, .int .i64 m.r, .slice Ab m.b.length cb, .slice Ao m.o.length co, .slice Ac m.c.length cc, .slice Ap m.p.length cp], .int .i64 n, .int .i64 0]) ?_ rfl ?_
      · exact results_cell_row2 Tryz.results38 _ _ w.heap.size _ _ _ _ rfl HE.out.1.rr Tryz.underlying56 rfl sizeM
      · refine ⟨fun m' s h => ?_, fun h => (by rw [Hy.out] at h; cases h), HE.out.1.be⟩
        rw [Hy.out] at h
        injection h with h
        injection h with h1 h2
        subst h1 h2
        exact ⟨_, _, _, _, rfl, HE.out.2.keeps (Keeps.mono fun j _ hj => by omega)⟩
end Go.Proofs.YtipmjleohadoeaaGreat
