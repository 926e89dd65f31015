/- A reader's vote, req. Printed by gen_rd2.py. -/
import Derived.Test.YtadaejpodjhkdaaCh
namespace Go.Proofs.Ytadaejpodjhkdaa
open Go.RowKit
set_option linter.unusedVariables false

/-- A struct's result cell, its variable's cell and a reader, in a world that has come of w0. -/
structure Two (RT T : TypeId) (w0 W : World) (g : Nat) (cs zs : Array Value) (x : Value) (o : Option Int) : Prop where
  rs : Rs RT W g x o
  vr : W.heap[w0.heap.size + 1]? = some (.cells cs T (0, 0))
  rr : W.heap[w0.heap.size]? = some (.cells zs T (0, 0))
  fp : Fp (fun k => k = g) w0 W
  hg : g < w0.heap.size
section
variable {RT T : TypeId} {w0 W W' : World} {g : Nat} {cs zs : Array Value} {x : Value} {o o' : Option Int}
theorem Two.new (h : Rs RT w0 g x o) (zs : Array Value) (T : TypeId) : Two RT T w0 ((w0.alloc (.cells zs T)).alloc (.cells zs T)) g zs zs x o := by
  have hb : Below w0.heap.size w0 ((w0.alloc (.cells zs T)).alloc (.cells zs T)) := (alloc_below w0 _).trans ((alloc_below _ _).mono (by simp))
  exact ⟨h.below hb, heap_alloc2_new w0 _ _, ((alloc_below (w0.alloc _) _).block w0.heap.size (by simp)).trans (heap_alloc_new w0 _), Fp.of_below hb _, h.lt⟩
theorem Two.lt1 (h : Two RT T w0 W g cs zs x o) : w0.heap.size + 1 < W.heap.size := (Array.getElem?_eq_some_iff.1 h.vr).1
theorem Two.call (h : Two RT T w0 W g cs zs x o) (hr : Rs RT W' g x o') (hf : Fp (fun k => k = g) W W') : Two RT T w0 W' g cs zs x o' := by
  have := h.hg
  have := h.lt1
  exact ⟨hr, (hf.block _ h.lt1 (by omega)).trans h.vr, (hf.block _ (by omega) (by omega)).trans h.rr, h.fp.trans hf fun k hk => Or.inl hk, h.hg⟩
theorem Two.store (h : Two RT T w0 W g cs zs x o) (i : Nat) (v : Value) {cs' : Array Value} (hc : cs.setIfInBounds i v = cs') : Two RT T w0 (W.setCell ⟨w0.heap.size + 1, i, none⟩ v) g cs' zs x o := by
  have hg := h.hg
  subst hc
  refine ⟨h.rs.keep (Below.heap_setCell W ⟨w0.heap.size + 1, i, none⟩ _ g (by simp; omega)), heap_setCell_same W _ i _ _ v h.vr, (Below.heap_setCell W ⟨w0.heap.size + 1, i, none⟩ _ _ (by simp)).trans h.rr, h.fp.setCell (p := ⟨w0.heap.size + 1, i, none⟩) (Or.inr (by simp)) _, hg⟩
theorem Two.cell (h : Two RT T w0 W g cs zs x o) (i : Nat) (hi : i < cs.size) : W.cell? ⟨w0.heap.size + 1, i, none⟩ = some cs[i] ∧ W.frozen? ⟨w0.heap.size + 1, i, none⟩ = false := by
  refine ⟨?_, frozen_of_row W _ i _ _ h.vr⟩
  rw [cell_of_row W _ i _ _ _ h.vr, Array.getElem?_eq_getElem hi]
theorem Two.range (h : Two RT T w0 W g cs zs x o) (l : List Value) (hl : l.toArray = cs) : W.rangeAt (w0.heap.size + 1) 0 l := fun j v hv => by
  subst hl
  rw [Nat.zero_add, cell_of_row W _ j _ _ _ h.vr]
  simpa using hv
theorem Two.there (h : Two RT T w0 W g cs zs x o) : W.there w0.heap.size 0 zs.size := fun j hj => by
  refine ⟨?_, frozen_of_row W _ (0 + j) _ _ h.rr⟩
  rw [Nat.zero_add, cell_of_row W _ j _ _ _ h.rr]
  simp [hj]
/-- The result's cell, when the value is stored there. -/
theorem Two.result (h : Two RT T w0 W g cs zs x o) (l : List Value) (hl : l.length = zs.size) : (W.setCells w0.heap.size 0 l).heap[w0.heap.size]? = some (.cells l.toArray T (0, 0)) ∧ Rs RT (W.setCells w0.heap.size 0 l) g x o ∧ Fp (fun k => k = g) w0 (W.setCells w0.heap.size 0 l) ∧ ∀ b, b ≠ w0.heap.size → (W.setCells w0.heap.size 0 l).heap[b]? = W.heap[b]? := by
  have hg := h.hg
  have key : ∀ (vs : List Value) (k : Nat) (W : World) (pre : List Value), W.heap[w0.heap.size]? = some (.cells (pre ++ zs.toList.drop k).toArray T (0, 0)) → pre.length = k → k + vs.length = zs.size → (W.setCells w0.heap.size k vs).heap[w0.heap.size]? = some (.cells (pre ++ vs).toArray T (0, 0)) := by
    intro vs
    induction vs with
    | nil =>
      intro k W pre h1 h2 h3
      rw [List.drop_eq_nil_of_le (by simp at h3 ⊢; omega)] at h1
      exact h1
    | cons v vs ih =>
      intro k W pre h1 h2 h3
      have h4 : (W.setCell ⟨w0.heap.size, k, none⟩ v).heap[w0.heap.size]? = some (.cells ((pre ++ [v]) ++ zs.toList.drop (k + 1)).toArray T (0, 0)) := by
        rw [heap_setCell_same W _ k _ _ v h1]
        congr 2
        have hk : k < zs.toList.length := by simp at h3 ⊢; omega
        rw [List.drop_eq_getElem_cons hk]
        apply Array.ext'
        simp [h2]
      have := ih (k + 1) _ (pre ++ [v]) h4 (by simp [h2]) (by simp at h3 ⊢; omega)
      simpa [World.setCells] using this
  have oth : ∀ (vs : List Value) (k : Nat) (W : World) (b : Nat), b ≠ w0.heap.size → (W.setCells w0.heap.size k vs).heap[b]? = W.heap[b]? := by
    intro vs
    induction vs with
    | nil => intro k W b _; rfl
    | cons v vs ih =>
      intro k W b hb
      exact (ih (k + 1) _ b hb).trans (Below.heap_setCell W ⟨w0.heap.size, k, none⟩ _ b hb)
  refine ⟨by simpa using key l 0 W [] (by simpa using h.rr) rfl (by simpa using hl), h.rs.keep (oth l 0 W g (by omega)), h.fp.setCells (Or.inr (Nat.le_refl _)) _, fun b hb => oth l 0 W b hb⟩
end
/-- What a call that reads a struct leaves behind. -/
def TookV (RT : TypeId) {α : Type} (d : Psp.Dec α) (f : α → List Value) (b : List UInt8) (x : Value) (g : Nat) (o : Option Int) (w : World) (e : Ending) (w' : World) : Prop :=
  ∃ a : α, e = .returned (.agg (f a).toArray) ∧ Psp.Is d b o a ∧ Rs RT w' g x (Psp.nxt d b o) ∧ Fp (fun k => k = g) w w'

set_option maxRecDepth 100000 in
set_option maxHeartbeats 1000000 in
theorem rd_vote (b : List UInt8) (x : Value) (g : Nat) (o : Option Int) (w : World) (hx : RdP w (fun k => k ≠ g) 1 x b.length (b.map bv)) (hR : Rs 102 w g x o) :
    Calls Try.prog 53 #[.pointer (some ⟨g, 0, none⟩)] w (TookV 102 Psp.dV vt b x g o w) := by
  have t0 := Two.new hR #[.int .i64 0, .int .i64 0] 43
  have HX := Lib.hid hx
  have T0 := Lib.hid t0
  clear hx hR t0
  go_enter Try.func53, Try.ntmps53
  go_wp2_with fail
  refine (rd_number b x g _ _ (fun k => k ≠ g) (HX.out.fp T0.out.fp (fun k hk => hk)) T0.out.rs).mono ?_
  rintro e w1 ⟨n, rfl, h1, h2, h3, h4, h5⟩
  have t1 := T0.out.call h4 h5
  obtain ⟨x0, z0⟩ := t1.cell 0 (by simp)
  simp only [List.getElem_toArray, List.getElem_cons_zero] at x0
  have T1 := Lib.hid (t1.store 0 (.int .i64 n) (cs' := #[.int .i64 n, .int .i64 0]) rfl)
  have E0 := Lib.hid h3
  clear h1 h2 h3 h4 h5 t1
  go_wp2_with fail
  refine (rd_number b x g _ _ (fun k => k ≠ g) (HX.out.fp T1.out.fp (fun k hk => hk)) T1.out.rs).mono ?_
  rintro e w2 ⟨s, rfl, h1, h2, h3, h4, h5⟩
  have t1 := T1.out.call h4 h5
  obtain ⟨x1, z1⟩ := t1.cell 1 (by simp)
  simp only [List.getElem_toArray, List.getElem_cons_zero, List.getElem_cons_succ] at x1
  have T2 := Lib.hid (t1.store 1 (.int .i64 s) (cs' := #[.int .i64 n, .int .i64 s]) rfl)
  have E1 := Lib.hid h3
  clear h1 h2 h3 h4 h5 t1 x0 z0
  have hrg := T2.out.range [.int .i64 n, .int .i64 s] rfl
  have Hrg := Lib.hid hrg
  have hth := T2.out.there
  have Hth := Lib.hid hth
  clear hrg hth
  go_wp2_with (first | (refine list_load rfl 43 (.tmp 3) rfl (w.heap.size + 1) 0 rfl [.int .i64 n, .int .i64 s] _ ?_ Try.underlying43 rfl sizeV ?_; exact Hrg.out) | (refine wpList_store_mid rfl 43 (.tmp 2) _ rfl w.heap.size 0 #[.int .i64 n, .int .i64 s] rfl rfl Hth.out sizeV (by simp [Value.oneCell']) ?_))
  obtain ⟨r1, r2, r3, _⟩ := T2.out.result [.int .i64 n, .int .i64 s] rfl
  refine bodyPost_ret (v := .agg #[.int .i64 n, .int .i64 s]) ?_ rfl ?_
  · exact results_cell_row Try.results53 _ _ w.heap.size _ _ _ _ rfl r1 Try.underlying43 rfl sizeV
  · obtain ⟨c1, c2⟩ := chain_V E0.out E1.out
    exact ⟨⟨n, s⟩, rfl, c1, by rw [c2]; exact r2, r3⟩

set_option maxRecDepth 100000 in
set_option maxHeartbeats 1000000 in
theorem rd_req (b : List UInt8) (x : Value) (g : Nat) (o : Option Int) (w : World) (hx : RdP w (fun k => k ≠ g) 1 x b.length (b.map bv)) (hR : Rs 102 w g x o) :
    Calls Try.prog 56 #[.pointer (some ⟨g, 0, none⟩)] w (TookV 102 Psp.dR rq b x g o w) := by
  have t0 := Two.new hR #[.int .i64 0, .int .i64 0, .int .i64 0, .int .i64 0, .int .i64 0, .int .i64 0] 31
  have HX := Lib.hid hx
  have T0 := Lib.hid t0
  clear hx hR t0
  go_enter Try.func56, Try.ntmps56
  go_wp2_with fail
  refine (rd_number b x g _ _ (fun k => k ≠ g) (HX.out.fp T0.out.fp (fun k hk => hk)) T0.out.rs).mono ?_
  rintro e w1 ⟨c, rfl, h1, h2, h3, h4, h5⟩
  have t1 := T0.out.call h4 h5
  obtain ⟨x0, z0⟩ := t1.cell 0 (by simp)
  simp only [List.getElem_toArray, List.getElem_cons_zero] at x0
  have T1 := Lib.hid (t1.store 0 (.int .i64 c) (cs' := #[.int .i64 c, .int .i64 0, .int .i64 0, .int .i64 0, .int .i64 0, .int .i64 0]) rfl)
  have E0 := Lib.hid h3
  clear h1 h2 h3 h4 h5 t1
  go_wp2_with fail
  refine (rd_number b x g _ _ (fun k => k ≠ g) (HX.out.fp T1.out.fp (fun k hk => hk)) T1.out.rs).mono ?_
  rintro e w2 ⟨t, rfl, h1, h2, h3, h4, h5⟩
  have t1 := T1.out.call h4 h5
  obtain ⟨x1, z1⟩ := t1.cell 1 (by simp)
  simp only [List.getElem_toArray, List.getElem_cons_zero, List.getElem_cons_succ] at x1
  have T2 := Lib.hid (t1.store 1 (.int .i64 t) (cs' := #[.int .i64 c, .int .i64 t, .int .i64 0, .int .i64 0, .int .i64 0, .int .i64 0]) rfl)
  have E1 := Lib.hid h3
  clear h1 h2 h3 h4 h5 t1 x0 z0
  go_wp2_with fail
  refine (rd_number b x g _ _ (fun k => k ≠ g) (HX.out.fp T2.out.fp (fun k hk => hk)) T2.out.rs).mono ?_
  rintro e w3 ⟨k, rfl, h1, h2, h3, h4, h5⟩
  have t1 := T2.out.call h4 h5
  obtain ⟨x2, z2⟩ := t1.cell 2 (by simp)
  simp only [List.getElem_toArray, List.getElem_cons_zero, List.getElem_cons_succ] at x2
  have T3 := Lib.hid (t1.store 2 (.int .i64 k) (cs' := #[.int .i64 c, .int .i64 t, .int .i64 k, .int .i64 0, .int .i64 0, .int .i64 0]) rfl)
  have E2 := Lib.hid h3
  clear h1 h2 h3 h4 h5 t1 x1 z1
  go_wp2_with fail
  refine (rd_signed b x g _ _ (fun k => k ≠ g) (HX.out.fp T3.out.fp (fun k hk => hk)) T3.out.rs).mono ?_
  rintro e w4 ⟨y, rfl, h1, h3, h4, h5⟩
  have t1 := T3.out.call h4 h5
  obtain ⟨x3, z3⟩ := t1.cell 3 (by simp)
  simp only [List.getElem_toArray, List.getElem_cons_zero, List.getElem_cons_succ] at x3
  have T4 := Lib.hid (t1.store 3 (.int .i64 y) (cs' := #[.int .i64 c, .int .i64 t, .int .i64 k, .int .i64 y, .int .i64 0, .int .i64 0]) rfl)
  have E3 := Lib.hid h3
  clear h1 h3 h4 h5 t1 x2 z2
  go_wp2_with fail
  refine (rd_signed b x g _ _ (fun k => k ≠ g) (HX.out.fp T4.out.fp (fun k hk => hk)) T4.out.rs).mono ?_
  rintro e w5 ⟨v, rfl, h1, h3, h4, h5⟩
  have t1 := T4.out.call h4 h5
  obtain ⟨x4, z4⟩ := t1.cell 4 (by simp)
  simp only [List.getElem_toArray, List.getElem_cons_zero, List.getElem_cons_succ] at x4
  have T5 := Lib.hid (t1.store 4 (.int .i64 v) (cs' := #[.int .i64 c, .int .i64 t, .int .i64 k, .int .i64 y, .int .i64 v, .int .i64 0]) rfl)
  have E4 := Lib.hid h3
  clear h1 h3 h4 h5 t1 x3 z3
  go_wp2_with fail
  refine (rd_number b x g _ _ (fun k => k ≠ g) (HX.out.fp T5.out.fp (fun k hk => hk)) T5.out.rs).mono ?_
  rintro e w6 ⟨s, rfl, h1, h2, h3, h4, h5⟩
  have t1 := T5.out.call h4 h5
  obtain ⟨x5, z5⟩ := t1.cell 5 (by simp)
  simp only [List.getElem_toArray, List.getElem_cons_zero, List.getElem_cons_succ] at x5
  have T6 := Lib.hid (t1.store 5 (.int .i64 s) (cs' := #[.int .i64 c, .int .i64 t, .int .i64 k, .int .i64 y, .int .i64 v, .int .i64 s]) rfl)
  have E5 := Lib.hid h3
  clear h1 h2 h3 h4 h5 t1 x4 z4
  have hrg := T6.out.range [.int .i64 c, .int .i64 t, .int .i64 k, .int .i64 y, .int .i64 v, .int .i64 s] rfl
  have Hrg := Lib.hid hrg
  have hth := T6.out.there
  have Hth := Lib.hid hth
  clear hrg hth
  go_wp2_with (first | (refine list_load rfl 31 (.tmp 3) rfl (w.heap.size + 1) 0 rfl [.int .i64 c, .int .i64 t, .int .i64 k, .int .i64 y, .int .i64 v, .int .i64 s] _ ?_ Try.underlying31 rfl sizeR ?_; exact Hrg.out) | (refine wpList_store_mid rfl 31 (.tmp 2) _ rfl w.heap.size 0 #[.int .i64 c, .int .i64 t, .int .i64 k, .int .i64 y, .int .i64 v, .int .i64 s] rfl rfl Hth.out sizeR (by simp [Value.oneCell']) ?_))
  obtain ⟨r1, r2, r3, _⟩ := T6.out.result [.int .i64 c, .int .i64 t, .int .i64 k, .int .i64 y, .int .i64 v, .int .i64 s] rfl
  refine bodyPost_ret (v := .agg #[.int .i64 c, .int .i64 t, .int .i64 k, .int .i64 y, .int .i64 v, .int .i64 s]) ?_ rfl ?_
  · exact results_cell_row Try.results56 _ _ w.heap.size _ _ _ _ rfl r1 Try.underlying31 rfl sizeR
  · obtain ⟨c1, c2⟩ := chain_R E0.out E1.out E2.out E3.out E4.out E5.out
    exact ⟨⟨c, t, k, y, v, s⟩, rfl, c1, by rw [c2]; exact r2, r3⟩

end Go.Proofs.Ytadaejpodjhkdaa
