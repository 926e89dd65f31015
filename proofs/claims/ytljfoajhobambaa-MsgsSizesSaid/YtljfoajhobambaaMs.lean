/- The walk of the reference's Parse. Printed by gen_ms.py. -/
import Derived.Test.YtljfoajhobambaaMq
import Derived.Test.YtljfoajhobambaaGf
namespace Psp
open Go.Proofs.Ytljfoajhobambaa (dN)
set_option linter.unusedVariables false
theorem is_step {α γ : Type} {d : Dec α} {b : List UInt8} {o : Option Int} {x : α} (h : Is d b o x) (f : α × Int → Option γ) : (o.bind fun a => (d b a).bind f) = (nxt d b o).bind fun a' => f (x, a') := by
  cases o with
  | none => rfl
  | some a =>
    unfold nxt
    cases hd : d b a with
    | none => simp [hd]
    | some p =>
      have := h p (by simp [hd])
      subst this
      simp [hd]
/-- Field by field. -/
theorem dM_nxt {b : List UInt8} {n0 n1 n2 n3 n4 n5 : Int} {l6 : List Req} {l7 : List Vote} {l8 : List Cert} {l9 : List Part} {o0 o1 o2 o3 o4 o5 o6 o7 o8 o9 o10 : Option Int} (e0 : o0 = some 0)
    (h0 : Is dN b o0 n0) (e1 : o1 = nxt dN b o0) (h1 : Is dN b o1 n1) (e2 : o2 = nxt dN b o1) (h2 : Is dN b o2 n2) (e3 : o3 = nxt dN b o2) (h3 : Is dN b o3 n3) (e4 : o4 = nxt dN b o3) (h4 : Is dN b o4 n4) (e5 : o5 = nxt dN b o4) (h5 : Is dS b o5 n5) (e6 : o6 = nxt dS b o5)
    (h6 : Is (dL dR) b o6 l6) (e7 : o7 = nxt (dL dR) b o6) (h7 : Is (dL dV) b o7 l7) (e8 : o8 = nxt (dL dV) b o7) (h8 : Is (dL dC) b o8 l8) (e9 : o9 = nxt (dL dC) b o8) (h9 : Is (dL dP) b o9 l9) (e10 : o10 = nxt (dL dP) b o9) :
    dM b 0 = o10.bind fun a => some (⟨n0, n1, n2, n3, n4, n5, l6, l7, l8, l9⟩, a) := by
  have h : dM b 0 = o0.bind fun a => dM b a := by rw [e0]; rfl
  rw [h]
  unfold dM
  simp only [Option.map_eq_bind]
  rw [is_step h0, ← e1]; dsimp only
  rw [is_step h1, ← e2]; dsimp only
  rw [is_step h2, ← e3]; dsimp only
  rw [is_step h3, ← e4]; dsimp only
  rw [is_step h4, ← e5]; dsimp only
  rw [is_step h5, ← e6]; dsimp only
  rw [is_step h6, ← e7]; dsimp only
  rw [is_step h7, ← e8]; dsimp only
  rw [is_step h8, ← e9]; dsimp only
  rw [is_step h9, ← e10]
  rfl
theorem parse_nxt {b : List UInt8} {m : Msg} {o : Option Int} (h : dM b 0 = o.bind fun a => some (m, a)) : parseM b = o.bind fun a => if a = (b.length : Int) ∧ b.length ≤ 65536 then some m else none := by
  unfold parseM
  rw [h]
  cases o <;> rfl
end Psp
namespace Go.Proofs.Ytljfoajhobambaa
open Go.RowKit
set_option linter.unusedVariables false

/-- The result's cell, an Eye, a message's cell. -/
structure Er (w0 W : World) (cs : Array Value) (x : Value) (o : Option Int) : Prop where
  vr : W.heap[w0.heap.size + 1 + 1]? = some (.cells cs 27 (0, 0))
  rr : W.heap[w0.heap.size]? = some (.cells zs 27 (0, 0))
  rs : Rs 131 W (w0.heap.size + 1) x o
  be : Below w0.heap.size w0 W
theorem Er.lt {w0 W : World} {cs : Array Value} {x : Value} {o : Option Int} (h : Er w0 W cs x o) : w0.heap.size + 1 + 1 < W.heap.size := (Array.getElem?_eq_some_iff.1 h.vr).1
theorem Er.new (w0 : World) (x : Value) : Er w0 (((w0.alloc (.cells zs 27)).alloc (.cells #[x, .int .i64 0, .bool false] 131)).alloc (.cells zs 27)) zs x (some 0) := by
  refine ⟨?_, ?_, ?_, ((alloc_below w0 _).trans ((alloc_below _ _).mono (by simp))).trans ((alloc_below _ _).mono (by simp; omega))⟩
  · have := heap_alloc_new ((w0.alloc (.cells zs 27)).alloc (.cells #[x, .int .i64 0, .bool false] 131)) (.cells zs 27)
    simpa using this
  · rw [(alloc_below _ _).block _ (by simp; omega), (alloc_below _ _).block _ (by simp)]; exact heap_alloc_new w0 _
  · refine Rs.keep (w := (w0.alloc (.cells zs 27)).alloc (.cells #[x, .int .i64 0, .bool false] 131)) ?_ ((alloc_below _ _).block _ (by simp))
    have := Rs.new (w := w0.alloc (.cells zs 27)) 131 x (a := 0) ⟨by omega, by omega⟩
    simpa using this
theorem Er.call {w0 W W' : World} {cs : Array Value} {x : Value} {o o' : Option Int} (h : Er w0 W cs x o) (hr : Rs 131 W' (w0.heap.size + 1) x o') (hf : Fp (fun k => k = w0.heap.size + 1) W W') : Er w0 W' cs x o' := by
  have := h.lt
  exact ⟨(hf.block _ (by omega) (by omega)).trans h.vr, (hf.block _ (by omega) (by omega)).trans h.rr, hr, h.be.trans (hf.to_below (by omega) fun k _ hk => by omega)⟩
theorem Er.store {w0 W : World} {cs cs' : Array Value} {x : Value} {o : Option Int} (h : Er w0 W cs x o) (i : Nat) (v : Value) (hc : cs.setIfInBounds i v = cs') : Er w0 (W.setCell ⟨w0.heap.size + 1 + 1, i, none⟩ v) cs' x o := by
  refine ⟨?_, ?_, ?_, h.be.setCell (by show w0.heap.size ≤ w0.heap.size + 1 + 1; omega) _⟩
  · rw [heap_setCell_same W _ i _ _ _ h.vr, hc]
  · exact (Below.heap_setCell W ⟨w0.heap.size + 1 + 1, i, none⟩ v _ (by show w0.heap.size ≠ w0.heap.size + 1 + 1; omega)).trans h.rr
  · exact h.rs.keep (Below.heap_setCell W ⟨w0.heap.size + 1 + 1, i, none⟩ v _ (by show w0.heap.size + 1 ≠ w0.heap.size + 1 + 1; omega))
theorem Er.cell {w0 W : World} {cs : Array Value} {x : Value} {o : Option Int} (h : Er w0 W cs x o) (i : Nat) {u : Value} (hi : cs[i]? = some u) : W.cell? ⟨w0.heap.size + 1 + 1, i, none⟩ = some u ∧ W.frozen? ⟨w0.heap.size + 1 + 1, i, none⟩ = false := by
  refine ⟨?_, frozen_of_row _ _ i _ _ h.vr⟩
  rw [cell_of_row _ _ i _ _ _ h.vr]; exact hi
theorem there_new2 (W : World) (z : Array Value) (t : TypeId) (N : Nat) (h : W.heap.size = N) : (W.alloc (.cells z t)).there N 0 z.size := by subst h; exact there_new W z t
theorem Er.zero {w0 W : World} {cs : Array Value} {x : Value} {o : Option Int} (h : Er w0 W cs x o) (hc : cs.size = 10) : Er w0 (W.setCells (w0.heap.size + 1 + 1) 0 zs.toList) zs x o := by
  obtain ⟨h1, h2⟩ := row_store h.vr zs.toList (by rw [hc]; rfl)
  exact ⟨h1, (h2 _ (by omega)).trans h.rr, h.rs.keep (h2 _ (by omega)), below_setCells h.be _ (by omega) _⟩
theorem Er.fin {w0 W : World} {cs : Array Value} {x : Value} {o : Option Int} (h : Er w0 W cs x o) (l : List Value) (hl : l.length = 10) :
    (W.setCells w0.heap.size 0 l).heap[w0.heap.size]? = some (.cells l.toArray 27 (0, 0)) ∧ Below w0.heap.size w0 (W.setCells w0.heap.size 0 l) ∧ ∀ b, b ≠ w0.heap.size → (W.setCells w0.heap.size 0 l).heap[b]? = W.heap[b]? := by
  obtain ⟨h1, h2⟩ := row_store h.rr l hl
  exact ⟨h1, below_setCells h.be _ (Nat.le_refl _) l, h2⟩
theorem Keeps.onf {N : Nat} {w W : World} (hb : Below w.heap.size w W) (hN : w.heap.size = N) : Keeps (fun k => k < w.heap.size) (fun k => k ≠ N + 1) w W := ⟨hb.size, fun b h _ => ⟨hb.block b h, by omega⟩⟩
theorem Keeps.set2 (N j : Nat) (W : World) (v : Value) : Keeps (fun k => N + 1 + 1 < k) (fun k => N + 1 + 1 < k) W (W.setCell ⟨N + 1 + 1, j, none⟩ v) :=
  ⟨by simp [World.setCell], fun b hb _ => ⟨Below.heap_setCell W ⟨N + 1 + 1, j, none⟩ v b (by show b ≠ N + 1 + 1; omega), hb⟩⟩
theorem Keeps.fpf {N : Nat} {W W' : World} (hf : Fp (fun k => k = N + 1) W W') : Keeps (fun k => N + 1 + 1 < k) (fun k => N + 1 + 1 < k) W W' := ⟨hf.size, fun b hb hlt => ⟨hf.block b hlt (by omega), hb⟩⟩
theorem Keeps.fin2 {N : Nat} {W W' : World} (hs : W.heap.size ≤ W'.heap.size) (h : ∀ b, b ≠ N → W'.heap[b]? = W.heap[b]?) : Keeps (fun k => N + 1 + 1 < k) (fun k => N ≤ k) W W' := ⟨hs, fun b hb _ => ⟨h b (by omega), by omega⟩⟩
theorem Keeps.into2 {N M : Nat} {W : World} (h : N + 1 + 1 < M) : Keeps (fun k => M ≤ k) (fun k => N + 1 + 1 < k) W W := Keeps.mono fun b _ hb => by omega

set_option maxRecDepth 100000 in
set_option maxHeartbeats 8000000 in
theorem rparse_m (b : List UInt8) (x : Value) (w : World) (hx : RdP w (fun k => k < w.heap.size) 1 x b.length (b.map bv)) :
    Calls Try.prog 26 #[x] w (TakenM b w) := by
  obtain ⟨_, A, c, rfl, hc1, hc2, _⟩ := hx.parts
  have HX := Lib.hid hx
  have hP := Er.new w (.slice A b.length c)
  have HP := Lib.hid hP
  clear hx hP
  go_enter Try.func26, Try.ntmps26
  go_upto_region 2 with fail
  go_upto_region 3 with (first | (refine wpList_store_mid rfl 27 (.tmp 5) (.tmp 9) rfl (w.heap.size + 1 + 1) 0 zs rfl rfl (there_new2 _ zs _ _ (by simp)) sizeM (by simp [Value.oneCell']) ?_))
  replace HP := Lib.hid (HP.out.zero rfl)
  obtain ⟨W1z, hW⟩ : ∃ Wx, (((w.alloc (.cells zs 27)).alloc (.cells #[.slice A b.length c, .int .i64 0, .bool false] 131)).alloc (.cells zs 27)).setCells (w.heap.size + 1 + 1) 0 zs.toList = Wx := ⟨_, rfl⟩
  rw [hW] at HP
  rw [show (((w.alloc (.cells zs 27)).alloc (.cells #[.slice A b.length c, .int .i64 0, .bool false] 131)).alloc (.cells zs 27)).setCells (w.heap.size + 1 + 1) 0 [.int .i64 0, .int .i64 0, .int .i64 0, .int .i64 0, .int .i64 0, .int .i64 0, .slice none 0 0, .slice none 0 0, .slice none 0 0, .slice none 0 0] = W1z from hW]
  clear hW
  go_wp2_with fail
  obtain ⟨o0, ho⟩ : ∃ o : Option Int, o = some 0 := ⟨_, rfl⟩
  rw [← ho] at HP
  have He0 := Lib.hid ho
  clear ho
  refine (ey_number b _ (w.heap.size + 1) o0 W1z _ (HX.out.keeps (Keeps.on HP.out.be)) HP.out.rs).mono ?_
  rintro e wa0 ⟨n0, rfl, q1, q2, hi, hr, hf⟩
  have HI0 := Lib.hid hi
  obtain ⟨o1, ho⟩ : ∃ o, o = Psp.nxt dN b o0 := ⟨_, rfl⟩
  rw [← ho] at hr
  have He1 := Lib.hid ho
  replace HP := Lib.hid (HP.out.call hr hf)
  clear ho hr hf hi
  obtain ⟨k0, y0⟩ := HP.out.cell 0 (u := .int .i64 0) rfl
  replace HP := Lib.hid (HP.out.store 0 (.int .i64 n0) (cs' := #[.int .i64 n0, .int .i64 0, .int .i64 0, .int .i64 0, .int .i64 0, .int .i64 0, .slice none 0 0, .slice none 0 0, .slice none 0 0, .slice none 0 0]) rfl)
  obtain ⟨W1, hW⟩ : ∃ Wx, wa0.setCell ⟨w.heap.size + 1 + 1, 0, none⟩ (.int .i64 n0) = Wx := ⟨_, rfl⟩
  rw [hW] at HP
  go_wp2_with fail
  clear k0 y0 q1 q2
  try clear hW
  refine (ey_number b _ (w.heap.size + 1) o1 W1 _ (HX.out.keeps (Keeps.on HP.out.be)) HP.out.rs).mono ?_
  rintro e wa1 ⟨n1, rfl, q1, q2, hi, hr, hf⟩
  have HI1 := Lib.hid hi
  obtain ⟨o2, ho⟩ : ∃ o, o = Psp.nxt dN b o1 := ⟨_, rfl⟩
  rw [← ho] at hr
  have He2 := Lib.hid ho
  replace HP := Lib.hid (HP.out.call hr hf)
  clear ho hr hf hi
  obtain ⟨k1, y1⟩ := HP.out.cell 1 (u := .int .i64 0) rfl
  replace HP := Lib.hid (HP.out.store 1 (.int .i64 n1) (cs' := #[.int .i64 n0, .int .i64 n1, .int .i64 0, .int .i64 0, .int .i64 0, .int .i64 0, .slice none 0 0, .slice none 0 0, .slice none 0 0, .slice none 0 0]) rfl)
  obtain ⟨W2, hW⟩ : ∃ Wx, wa1.setCell ⟨w.heap.size + 1 + 1, 1, none⟩ (.int .i64 n1) = Wx := ⟨_, rfl⟩
  rw [hW] at HP
  go_wp2_with fail
  clear k1 y1 q1 q2
  try clear hW
  refine (ey_number b _ (w.heap.size + 1) o2 W2 _ (HX.out.keeps (Keeps.on HP.out.be)) HP.out.rs).mono ?_
  rintro e wa2 ⟨n2, rfl, q1, q2, hi, hr, hf⟩
  have HI2 := Lib.hid hi
  obtain ⟨o3, ho⟩ : ∃ o, o = Psp.nxt dN b o2 := ⟨_, rfl⟩
  rw [← ho] at hr
  have He3 := Lib.hid ho
  replace HP := Lib.hid (HP.out.call hr hf)
  clear ho hr hf hi
  obtain ⟨k2, y2⟩ := HP.out.cell 2 (u := .int .i64 0) rfl
  replace HP := Lib.hid (HP.out.store 2 (.int .i64 n2) (cs' := #[.int .i64 n0, .int .i64 n1, .int .i64 n2, .int .i64 0, .int .i64 0, .int .i64 0, .slice none 0 0, .slice none 0 0, .slice none 0 0, .slice none 0 0]) rfl)
  obtain ⟨W3, hW⟩ : ∃ Wx, wa2.setCell ⟨w.heap.size + 1 + 1, 2, none⟩ (.int .i64 n2) = Wx := ⟨_, rfl⟩
  rw [hW] at HP
  go_wp2_with fail
  clear k2 y2 q1 q2
  try clear hW
  refine (ey_number b _ (w.heap.size + 1) o3 W3 _ (HX.out.keeps (Keeps.on HP.out.be)) HP.out.rs).mono ?_
  rintro e wa3 ⟨n3, rfl, q1, q2, hi, hr, hf⟩
  have HI3 := Lib.hid hi
  obtain ⟨o4, ho⟩ : ∃ o, o = Psp.nxt dN b o3 := ⟨_, rfl⟩
  rw [← ho] at hr
  have He4 := Lib.hid ho
  replace HP := Lib.hid (HP.out.call hr hf)
  clear ho hr hf hi
  obtain ⟨k3, y3⟩ := HP.out.cell 3 (u := .int .i64 0) rfl
  replace HP := Lib.hid (HP.out.store 3 (.int .i64 n3) (cs' := #[.int .i64 n0, .int .i64 n1, .int .i64 n2, .int .i64 n3, .int .i64 0, .int .i64 0, .slice none 0 0, .slice none 0 0, .slice none 0 0, .slice none 0 0]) rfl)
  obtain ⟨W4, hW⟩ : ∃ Wx, wa3.setCell ⟨w.heap.size + 1 + 1, 3, none⟩ (.int .i64 n3) = Wx := ⟨_, rfl⟩
  rw [hW] at HP
  go_wp2_with fail
  clear k3 y3 q1 q2
  try clear hW
  refine (ey_number b _ (w.heap.size + 1) o4 W4 _ (HX.out.keeps (Keeps.on HP.out.be)) HP.out.rs).mono ?_
  rintro e wa4 ⟨n4, rfl, q1, q2, hi, hr, hf⟩
  have HI4 := Lib.hid hi
  obtain ⟨o5, ho⟩ : ∃ o, o = Psp.nxt dN b o4 := ⟨_, rfl⟩
  rw [← ho] at hr
  have He5 := Lib.hid ho
  replace HP := Lib.hid (HP.out.call hr hf)
  clear ho hr hf hi
  obtain ⟨k4, y4⟩ := HP.out.cell 4 (u := .int .i64 0) rfl
  replace HP := Lib.hid (HP.out.store 4 (.int .i64 n4) (cs' := #[.int .i64 n0, .int .i64 n1, .int .i64 n2, .int .i64 n3, .int .i64 n4, .int .i64 0, .slice none 0 0, .slice none 0 0, .slice none 0 0, .slice none 0 0]) rfl)
  obtain ⟨W5, hW⟩ : ∃ Wx, wa4.setCell ⟨w.heap.size + 1 + 1, 4, none⟩ (.int .i64 n4) = Wx := ⟨_, rfl⟩
  rw [hW] at HP
  go_wp2_with fail
  clear k4 y4 q1 q2
  try clear hW
  refine (ey_number b _ (w.heap.size + 1) o5 W5 _ (HX.out.keeps (Keeps.on HP.out.be)) HP.out.rs).mono ?_
  rintro e wa5 ⟨n5, rfl, q1, q2, hi, hr, hf⟩
  have HI5 := Lib.hid (is_S hi)
  rw [← nxt_S] at hr
  obtain ⟨o6, ho⟩ : ∃ o, o = Psp.nxt Psp.dS b o5 := ⟨_, rfl⟩
  rw [← ho] at hr
  have He6 := Lib.hid ho
  replace HP := Lib.hid (HP.out.call hr hf)
  clear ho hr hf hi
  go_wp2_with fail
  refine (r_zag_any n5 wa5 (by omega) (by omega)).mono ?_
  rintro e wz ⟨rfl, rfl⟩
  obtain ⟨m5, hn5⟩ : ∃ y, Psp.zag n5 = y := ⟨_, rfl⟩
  rw [hn5] at HI5 ⊢
  clear hn5
  obtain ⟨k5, y5⟩ := HP.out.cell 5 (u := .int .i64 0) rfl
  replace HP := Lib.hid (HP.out.store 5 (.int .i64 m5) (cs' := #[.int .i64 n0, .int .i64 n1, .int .i64 n2, .int .i64 n3, .int .i64 n4, .int .i64 m5, .slice none 0 0, .slice none 0 0, .slice none 0 0, .slice none 0 0]) rfl)
  obtain ⟨W6, hW⟩ : ∃ Wx, wa5.setCell ⟨w.heap.size + 1 + 1, 5, none⟩ (.int .i64 m5) = Wx := ⟨_, rfl⟩
  rw [hW] at HP
  go_wp2_with fail
  clear k5 y5 q1 q2
  try clear hW
  have hlt := HP.out.lt
  refine (ey_listR b _ (w.heap.size + 1) o6 W6 (HX.out.keeps (Keeps.onf HP.out.be rfl)) HP.out.rs).mono ?_
  rintro e wa6 ⟨v6, l6, rfl, hv, hi, hr, hf⟩
  have HI6 := Lib.hid hi
  obtain ⟨_, A6, c6, rfl, _⟩ := RdP.parts (show RdP _ _ 6 v6 l6.length (l6.flatMap rq) from hv)
  have HR6 := Lib.hid (RdR.keeps' hv (Keeps.into2 hlt))
  clear hv hlt
  obtain ⟨o7, ho⟩ : ∃ o, o = Psp.nxt (Psp.dL Psp.dR) b o6 := ⟨_, rfl⟩
  rw [← ho] at hr
  have He7 := Lib.hid ho
  replace HP := Lib.hid (HP.out.call hr hf)
  clear ho hr hf hi
  obtain ⟨k6, y6⟩ := HP.out.cell 6 (u := .slice none 0 0) rfl
  replace HP := Lib.hid (HP.out.store 6 (.slice A6 l6.length c6) (cs' := #[.int .i64 n0, .int .i64 n1, .int .i64 n2, .int .i64 n3, .int .i64 n4, .int .i64 m5, .slice A6 l6.length c6, .slice none 0 0, .slice none 0 0, .slice none 0 0]) rfl)
  replace HR6 := Lib.hid (HR6.out.keeps' (Keeps.set2 w.heap.size 6 _ (.slice A6 l6.length c6)))
  obtain ⟨W7, hW⟩ : ∃ Wx, wa6.setCell ⟨w.heap.size + 1 + 1, 6, none⟩ (.slice A6 l6.length c6) = Wx := ⟨_, rfl⟩
  rw [hW] at HP HR6
  go_wp2_with fail
  clear k6 y6
  try clear hW
  have hlt := HP.out.lt
  refine (ey_listV b _ (w.heap.size + 1) o7 W7 (HX.out.keeps (Keeps.onf HP.out.be rfl)) HP.out.rs).mono ?_
  rintro e wa7 ⟨v7, l7, rfl, hv, hi, hr, hf⟩
  have HI7 := Lib.hid hi
  obtain ⟨_, A7, c7, rfl, _⟩ := RdP.parts (show RdP _ _ 2 v7 l7.length (l7.flatMap vt) from hv)
  have HR7 := Lib.hid (RdV.keeps' hv (Keeps.into2 hlt))
  clear hv hlt
  replace HR6 := Lib.hid (HR6.out.keeps' (Keeps.fpf hf))
  obtain ⟨o8, ho⟩ : ∃ o, o = Psp.nxt (Psp.dL Psp.dV) b o7 := ⟨_, rfl⟩
  rw [← ho] at hr
  have He8 := Lib.hid ho
  replace HP := Lib.hid (HP.out.call hr hf)
  clear ho hr hf hi
  obtain ⟨k7, y7⟩ := HP.out.cell 7 (u := .slice none 0 0) rfl
  replace HP := Lib.hid (HP.out.store 7 (.slice A7 l7.length c7) (cs' := #[.int .i64 n0, .int .i64 n1, .int .i64 n2, .int .i64 n3, .int .i64 n4, .int .i64 m5, .slice A6 l6.length c6, .slice A7 l7.length c7, .slice none 0 0, .slice none 0 0]) rfl)
  replace HR6 := Lib.hid (HR6.out.keeps' (Keeps.set2 w.heap.size 7 _ (.slice A7 l7.length c7)))
  replace HR7 := Lib.hid (HR7.out.keeps' (Keeps.set2 w.heap.size 7 _ (.slice A7 l7.length c7)))
  obtain ⟨W8, hW⟩ : ∃ Wx, wa7.setCell ⟨w.heap.size + 1 + 1, 7, none⟩ (.slice A7 l7.length c7) = Wx := ⟨_, rfl⟩
  rw [hW] at HP HR6 HR7
  go_wp2_with fail
  clear k7 y7
  try clear hW
  have hlt := HP.out.lt
  refine (ey_listC b _ (w.heap.size + 1) o8 W8 (HX.out.keeps (Keeps.onf HP.out.be rfl)) HP.out.rs).mono ?_
  rintro e wa8 ⟨v8, l8, rfl, hv, hi, hr, hf⟩
  have HI8 := Lib.hid hi
  obtain ⟨L8, r1, r2, r3⟩ := hv
  obtain ⟨_, A8, c8, rfl, _⟩ := r2.parts
  have hv : RdC wa8 _ (.slice A8 L8.length c8) l8 := ⟨L8, r1, r2, r3⟩
  clear r1 r2 r3
  have HR8 := Lib.hid (RdC.keeps hv (Keeps.into2 hlt))
  clear hv hlt
  replace HR6 := Lib.hid (HR6.out.keeps' (Keeps.fpf hf))
  replace HR7 := Lib.hid (HR7.out.keeps' (Keeps.fpf hf))
  obtain ⟨o9, ho⟩ : ∃ o, o = Psp.nxt (Psp.dL Psp.dC) b o8 := ⟨_, rfl⟩
  rw [← ho] at hr
  have He9 := Lib.hid ho
  replace HP := Lib.hid (HP.out.call hr hf)
  clear ho hr hf hi
  obtain ⟨k8, y8⟩ := HP.out.cell 8 (u := .slice none 0 0) rfl
  replace HP := Lib.hid (HP.out.store 8 (.slice A8 L8.length c8) (cs' := #[.int .i64 n0, .int .i64 n1, .int .i64 n2, .int .i64 n3, .int .i64 n4, .int .i64 m5, .slice A6 l6.length c6, .slice A7 l7.length c7, .slice A8 L8.length c8, .slice none 0 0]) rfl)
  replace HR6 := Lib.hid (HR6.out.keeps' (Keeps.set2 w.heap.size 8 _ (.slice A8 L8.length c8)))
  replace HR7 := Lib.hid (HR7.out.keeps' (Keeps.set2 w.heap.size 8 _ (.slice A8 L8.length c8)))
  replace HR8 := Lib.hid (HR8.out.keeps (Keeps.set2 w.heap.size 8 _ (.slice A8 L8.length c8)))
  obtain ⟨W9, hW⟩ : ∃ Wx, wa8.setCell ⟨w.heap.size + 1 + 1, 8, none⟩ (.slice A8 L8.length c8) = Wx := ⟨_, rfl⟩
  rw [hW] at HP HR6 HR7 HR8
  go_wp2_with fail
  clear k8 y8
  try clear hW
  have hlt := HP.out.lt
  refine (ey_listP b _ (w.heap.size + 1) o9 W9 (HX.out.keeps (Keeps.onf HP.out.be rfl)) HP.out.rs).mono ?_
  rintro e wa9 ⟨v9, l9, rfl, hv, hi, hr, hf⟩
  have HI9 := Lib.hid hi
  obtain ⟨L9, r1, r2, r3⟩ := hv
  obtain ⟨_, A9, c9, rfl, _⟩ := r2.parts
  have hv : RdA wa9 _ (.slice A9 L9.length c9) l9 := ⟨L9, r1, r2, r3⟩
  clear r1 r2 r3
  have HR9 := Lib.hid (RdA.keeps hv (Keeps.into2 hlt))
  clear hv hlt
  replace HR6 := Lib.hid (HR6.out.keeps' (Keeps.fpf hf))
  replace HR7 := Lib.hid (HR7.out.keeps' (Keeps.fpf hf))
  replace HR8 := Lib.hid (HR8.out.keeps (Keeps.fpf hf))
  obtain ⟨o10, ho⟩ : ∃ o, o = Psp.nxt (Psp.dL Psp.dP) b o9 := ⟨_, rfl⟩
  rw [← ho] at hr
  have He10 := Lib.hid ho
  replace HP := Lib.hid (HP.out.call hr hf)
  clear ho hr hf hi
  obtain ⟨k9, y9⟩ := HP.out.cell 9 (u := .slice none 0 0) rfl
  replace HP := Lib.hid (HP.out.store 9 (.slice A9 L9.length c9) (cs' := #[.int .i64 n0, .int .i64 n1, .int .i64 n2, .int .i64 n3, .int .i64 n4, .int .i64 m5, .slice A6 l6.length c6, .slice A7 l7.length c7, .slice A8 L8.length c8, .slice A9 L9.length c9]) rfl)
  replace HR6 := Lib.hid (HR6.out.keeps' (Keeps.set2 w.heap.size 9 _ (.slice A9 L9.length c9)))
  replace HR7 := Lib.hid (HR7.out.keeps' (Keeps.set2 w.heap.size 9 _ (.slice A9 L9.length c9)))
  replace HR8 := Lib.hid (HR8.out.keeps (Keeps.set2 w.heap.size 9 _ (.slice A9 L9.length c9)))
  replace HR9 := Lib.hid (HR9.out.keeps (Keeps.set2 w.heap.size 9 _ (.slice A9 L9.length c9)))
  obtain ⟨W10, hW⟩ : ∃ Wx, wa9.setCell ⟨w.heap.size + 1 + 1, 9, none⟩ (.slice A9 L9.length c9) = Wx := ⟨_, rfl⟩
  rw [hW] at HP HR6 HR7 HR8 HR9
  have hM := Psp.parse_nxt (Psp.dM_nxt He0.out HI0.out He1.out HI1.out He2.out HI2.out He3.out HI3.out He4.out HI4.out He5.out HI5.out He6.out HI6.out He7.out HI7.out He8.out HI8.out He9.out HI9.out He10.out)
  have HM := Lib.hid hM
  clear hM He0 HI0 He1 HI1 He2 HI2 He3 HI3 He4 HI4 He5 HI5 He6 HI6 He7 HI7 He8 HI8 He9 HI9 He10 HX
  obtain ⟨aa, bad, g0, g1, g2, _, _, _, hs, hnn⟩ := HP.out.rs.cells
  rcases o10 with _ | a
  · have hb := hnn rfl
    subst hb
    have Hn : Hid (Psp.parseM b = none) := Lib.hid (by rw [HM.out]; rfl)
    clear HM hs hnn
    have Hth := Lib.hid (row_there HP.out.rr)
    obtain ⟨t1, t2, _⟩ := HP.out.fin zs.toList rfl
    have T1 := Lib.hid t1
    have T2 := Lib.hid t2
    clear t1 t2
    go_wp2_with (first | (refine wpList_store_mid rfl 27 (.tmp 2) (.tmp 59) rfl w.heap.size 0 zs rfl rfl Hth.out sizeM (by simp [Value.oneCell']) ?_))
    refine bodyPost_ret (v := .tuple #[.agg zs, .bool false]) ?_ rfl ?_
    · exact results_cell_row1 Try.results26 _ _ w.heap.size _ _ _ _ rfl T1.out Try.underlying27 rfl sizeM
    · exact ⟨fun m h => (by rw [Hn.out] at h; cases h), fun _ => rfl, T2.out⟩
  obtain ⟨rfl, hb⟩ := hs _ rfl
  subst hb
  have HM2 : Hid (Psp.parseM b = if aa = (b.length : Int) ∧ b.length ≤ 65536 then some ⟨n0, n1, n2, n3, n4, m5, l6, l7, l8, l9⟩ else none) := Lib.hid (by rw [HM.out]; rfl)
  clear HM hs hnn
  by_cases he : aa = (b.length : Int)
  case' neg =>
    have d9 : (aa != (b.length : Int)) = true := by rw [bne_iff_ne]; exact he
    have Hn : Hid (Psp.parseM b = none) := Lib.hid (by rw [HM2.out]; exact if_neg fun h => he h.1)
    clear HM2 he
    have Hth := Lib.hid (row_there HP.out.rr)
    obtain ⟨t1, t2, _⟩ := HP.out.fin zs.toList rfl
    have T1 := Lib.hid t1
    have T2 := Lib.hid t2
    clear t1 t2
    go_wp2_with (first | (refine wpList_store_mid rfl 27 (.tmp 2) (.tmp 59) rfl w.heap.size 0 zs rfl rfl Hth.out sizeM (by simp [Value.oneCell']) ?_))
    refine bodyPost_ret (v := .tuple #[.agg zs, .bool false]) ?_ rfl ?_
    · exact results_cell_row1 Try.results26 _ _ w.heap.size _ _ _ _ rfl T1.out Try.underlying27 rfl sizeM
    · exact ⟨fun m h => (by rw [Hn.out] at h; cases h), fun _ => rfl, T2.out⟩
  have d9 : (aa != (b.length : Int)) = false := by rw [he]; simp
  by_cases hbig : b.length ≤ 65536
  case' neg =>
    have d0 : decide ((b.length : Int) > 65536) = true := by simp; omega
    have Hn : Hid (Psp.parseM b = none) := Lib.hid (by rw [HM2.out]; exact if_neg fun h => hbig h.2)
    clear HM2 he
    have Hth := Lib.hid (row_there HP.out.rr)
    obtain ⟨t1, t2, _⟩ := HP.out.fin zs.toList rfl
    have T1 := Lib.hid t1
    have T2 := Lib.hid t2
    clear t1 t2
    go_wp2_with (first | (refine wpList_store_mid rfl 27 (.tmp 2) (.tmp 59) rfl w.heap.size 0 zs rfl rfl Hth.out sizeM (by simp [Value.oneCell']) ?_))
    refine bodyPost_ret (v := .tuple #[.agg zs, .bool false]) ?_ rfl ?_
    · exact results_cell_row1 Try.results26 _ _ w.heap.size _ _ _ _ rfl T1.out Try.underlying27 rfl sizeM
    · exact ⟨fun m h => (by rw [Hn.out] at h; cases h), fun _ => rfl, T2.out⟩
  have d0 : decide ((b.length : Int) > 65536) = false := by simp; omega
  have Hy : Hid (Psp.parseM b = some ⟨n0, n1, n2, n3, n4, m5, l6, l7, l8, l9⟩) := Lib.hid (by rw [HM2.out]; exact if_pos ⟨he, hbig⟩)
  clear HM2 he
  have x0 := (HP.out.cell 0 (u := .int .i64 n0) rfl).1
  have x1 := (HP.out.cell 1 (u := .int .i64 n1) rfl).1
  have x2 := (HP.out.cell 2 (u := .int .i64 n2) rfl).1
  have x3 := (HP.out.cell 3 (u := .int .i64 n3) rfl).1
  have x4 := (HP.out.cell 4 (u := .int .i64 n4) rfl).1
  have x5 := (HP.out.cell 5 (u := .int .i64 m5) rfl).1
  have x6 := (HP.out.cell 6 (u := .slice A6 l6.length c6) rfl).1
  have x7 := (HP.out.cell 7 (u := .slice A7 l7.length c7) rfl).1
  have x8 := (HP.out.cell 8 (u := .slice A8 L8.length c8) rfl).1
  have x9 := (HP.out.cell 9 (u := .slice A9 L9.length c9) rfl).1
  have Hth := Lib.hid (row_there HP.out.rr)
  obtain ⟨t1, t2, t3⟩ := HP.out.fin [.int .i64 n0, .int .i64 n1, .int .i64 n2, .int .i64 n3, .int .i64 n4, .int .i64 m5, .slice A6 l6.length c6, .slice A7 l7.length c7, .slice A8 L8.length c8, .slice A9 L9.length c9] rfl
  have HK := Lib.hid (Keeps.fin2 (N := w.heap.size) ((Fp.refl (fun _ => True) W10).setCells (Or.inl trivial) _).size t3)
  have T1 := Lib.hid t1
  have T2 := Lib.hid t2
  clear t1 t2 t3
  go_wp2_with (first | (refine wpList_store_mid rfl 27 (.tmp 2) (.tmp 60) rfl w.heap.size 0 #[.int .i64 n0, .int .i64 n1, .int .i64 n2, .int .i64 n3, .int .i64 n4, .int .i64 m5, .slice A6 l6.length c6, .slice A7 l7.length c7, .slice A8 L8.length c8, .slice A9 L9.length c9] rfl rfl Hth.out sizeM (by simp [Value.oneCell']) ?_))
  refine bodyPost_ret (v := .tuple #[.agg #[.int .i64 n0, .int .i64 n1, .int .i64 n2, .int .i64 n3, .int .i64 n4, .int .i64 m5, .slice A6 l6.length c6, .slice A7 l7.length c7, .slice A8 L8.length c8, .slice A9 L9.length c9], .bool true]) ?_ rfl ?_
  · exact results_cell_row1 Try.results26 _ _ w.heap.size _ _ _ _ rfl T1.out Try.underlying27 rfl sizeM
  · refine ⟨fun m h => ?_, fun h => (by rw [Hy.out] at h; cases h), T2.out⟩
    rw [Hy.out] at h
    injection h with h
    subst h
    exact ⟨_, _, _, _, rfl, MsgOk.keeps ⟨HR6.out, HR7.out, HR8.out, HR9.out⟩ HK.out⟩
end Go.Proofs.Ytljfoajhobambaa
