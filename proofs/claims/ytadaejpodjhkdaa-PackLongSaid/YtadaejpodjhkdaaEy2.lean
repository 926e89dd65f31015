/- The reference's Eye: Batch, Votes, Certs, Parts. Printed by gen_eye2.py. -/
import Derived.Test.YtadaejpodjhkdaaEy
namespace Go.Proofs.Ytadaejpodjhkdaa
open Go.RowKit
set_option linter.unusedVariables false

/-- A round's variable and an Eye, in a world that has come of w0. -/
structure Vr (RT T : TypeId) (w0 W : World) (g : Nat) (cs : Array Value) (x : Value) (o : Option Int) : Prop where
  rs : Rs RT W g x o
  vr : W.heap[w0.heap.size]? = some (.cells cs T (0, 0))
  fp : Fp (fun k => k = g) w0 W
  hg : g < w0.heap.size
section
variable {RT T : TypeId} {w0 W W' : World} {g : Nat} {cs : Array Value} {x : Value} {o o' : Option Int}
theorem Vr.new (h : Rs RT w0 g x o) (zs : Array Value) (T : TypeId) : Vr RT T w0 (w0.alloc (.cells zs T)) g zs x o := ⟨h.below (alloc_below _ _), heap_alloc_new w0 _, Fp.of_below (alloc_below _ _) _, h.lt⟩
theorem Vr.lt1 (h : Vr RT T w0 W g cs x o) : w0.heap.size < W.heap.size := (Array.getElem?_eq_some_iff.1 h.vr).1
theorem Vr.call (h : Vr RT T w0 W g cs x o) (hr : Rs RT W' g x o') (hf : Fp (fun k => k = g) W W') : Vr RT T w0 W' g cs x o' := by
  have := h.hg
  exact ⟨hr, (hf.block _ h.lt1 (by omega)).trans h.vr, h.fp.trans hf fun k hk => Or.inl hk, h.hg⟩
theorem Vr.store (h : Vr RT T w0 W g cs x o) (i : Nat) (v : Value) {cs' : Array Value} (hc : cs.setIfInBounds i v = cs') : Vr RT T w0 (W.setCell ⟨w0.heap.size, i, none⟩ v) g cs' x o := by
  have hg := h.hg
  subst hc
  exact ⟨h.rs.keep (Below.heap_setCell W ⟨w0.heap.size, i, none⟩ _ g (by simp; omega)), heap_setCell_same W _ i _ _ v h.vr, h.fp.setCell (p := ⟨w0.heap.size, i, none⟩) (Or.inr (Nat.le_refl _)) _, hg⟩
theorem Vr.cell (h : Vr RT T w0 W g cs x o) (i : Nat) (hi : i < cs.size) : W.cell? ⟨w0.heap.size, i, none⟩ = some cs[i] ∧ W.frozen? ⟨w0.heap.size, i, none⟩ = false := by
  refine ⟨?_, frozen_of_row W _ i _ _ h.vr⟩
  rw [cell_of_row W _ i _ _ _ h.vr, Array.getElem?_eq_getElem hi]
theorem Vr.range (h : Vr RT T w0 W g cs x o) (l : List Value) (hl : l.toArray = cs) : W.rangeAt w0.heap.size 0 l := fun j v hv => by
  subst hl
  rw [Nat.zero_add, cell_of_row W _ j _ _ _ h.vr]
  simpa using hv
end
theorem Keeps.fpg1 {w0 W W' : World} {g : Nat} (h : Fp (fun k => k = g) W W') (hg : g < w0.heap.size) : Keeps (fun k => w0.heap.size + 1 ≤ k) (fun k => w0.heap.size + 1 ≤ k) W W' := ⟨h.size, fun b hb hlt => ⟨h.block b hlt (by omega), hb⟩⟩
theorem Keeps.var1 (w0 W : World) (i : Nat) (v : Value) : Keeps (fun k => w0.heap.size + 1 ≤ k) (fun k => w0.heap.size + 1 ≤ k) W (W.setCell ⟨w0.heap.size, i, none⟩ v) := ⟨by simp [World.setCell], fun b hb hlt => ⟨Below.heap_setCell W ⟨w0.heap.size, i, none⟩ _ b (by simp; omega), hb⟩⟩
theorem Keeps.new1 {w0 W W' : World} (hs : w0.heap.size < W.heap.size) : Keeps (fun k => W.heap.size ≤ k) (fun k => w0.heap.size + 1 ≤ k) W' W' := ⟨Nat.le_refl _, fun b hb hlt => ⟨rfl, by omega⟩⟩
theorem Keeps.end1 (w0 W : World) : Keeps (fun k => w0.heap.size + 1 ≤ k) (fun k => w0.heap.size ≤ k) W W := ⟨Nat.le_refl _, fun b hb hlt => ⟨rfl, by omega⟩⟩

structure EInvR (b : List UInt8) (x : Value) (g : Nat) (o o1 : Option Int) (n : Nat) (w w' : World) (out : Value) (xs : List Psp.Req) (o' : Option Int) : Prop where
  n256 : n ≤ 256
  le : xs.length ≤ n
  own : w'.ownsRow w.heap.size 31 6 out xs.length (xs.flatMap rq)
  many : Psp.Many Psp.dR b n o1 (xs) o'
  rs : Rs 51 w' g x o'
  fp : Fp (fun k => k = g) w w'
theorem EInvR.exit {b : List UInt8} {x : Value} {g : Nat} {o o1 : Option Int} {n : Nat} {w w' : World} {out : Value} {xs : List Psp.Req} {o' : Option Int} (h : EInvR b x g o o1 n w w' out xs o')
    (hd : o.bind (Psp.dL Psp.dR b) = o1.bind (Psp.dMany Psp.dR b n)) (hk : xs.length = n ∨ o' = none) : Psp.Is (Psp.dL Psp.dR) b o (xs) ∧ Psp.nxt (Psp.dL Psp.dR) b o = o' := by
  cases o' with
  | none =>
    obtain ⟨q1, q2⟩ := Psp.nxt_not (hd.trans (h.many.no rfl))
    exact ⟨q2 _, q1⟩
  | some a =>
    have hk := hk.resolve_right (by simp)
    obtain ⟨q1, q2⟩ := Psp.nxt_of (hd.trans (h.many.done (by simpa using hk)))
    exact ⟨q2, q1⟩

theorem EInvR.next {b : List UInt8} {x : Value} {g : Nat} {o o1 : Option Int} {n m c5 : Nat} {w w' w1 w2 : World} {A5 : Option Addr} {xs : List Psp.Req} {a : Int} {t : Psp.Req} {v' : Value} (h : EInvR b x g o o1 n w w' (.slice A5 m c5) xs (some a))
    (hm : xs.length = m) (hlt : m < n) (h3 : Psp.Is Psp.dR b (some a) t) (h4 : Rs 51 w1 g x (Psp.nxt Psp.dR b (some a))) (h5 : Fp (fun k => k = g) w' w1) (hg : g < w.heap.size) (hown1 : w1.ownsRow w.heap.size 31 6 (.slice A5 m c5) m (xs.flatMap rq))
    (hown2 : w2.ownsRow w.heap.size 31 6 v' (m + 1) (xs.flatMap rq ++ (rq t).toArray.toList)) (hg2 : w1.grownBy w2 (Value.slice A5 m c5).ownBlock) (hv2 : v'.ownBlock = (Value.slice A5 m c5).ownBlock ∨ v'.ownBlock = some (w1.heap.size + 1)) :
    EInvR b x g o o1 n w w2 v' (xs ++ [t]) (Psp.nxt Psp.dR b (some a)) := by
  have hz := h.fp.size
  have hz1 := h5.size
  have hgo : (Value.slice A5 m c5).ownBlock ≠ some g := fun he => by have := (hown1.lt g he).1; omega
  refine ⟨h.n256, by rw [List.length_append]; simp; omega, ?_, h.many.step (by omega) h3, h4.keep (hg2.block g (by omega) (fun he => hgo he.symm)), (h.fp.trans h5 fun k hk => Or.inl hk).grown hg2 fun k hk => Or.inr (hown1.lt k hk).1⟩
  rw [List.length_append, List.flatMap_append, hm]
  simpa using hown2

set_option maxRecDepth 100000 in
set_option maxHeartbeats 2000000 in
theorem ey_listR (b : List UInt8) (x : Value) (g : Nat) (o : Option Int) (w : World) (hx : RdP w (fun k => k ≠ g) 1 x b.length (b.map bv)) (hR : Rs 51 w g x o) :
    Calls Try.prog 27 #[.pointer (some ⟨g, 0, none⟩)] w (TookL 51 Psp.dR RdR b x g o w) := by
  have HX := Lib.hid hx
  have HR := Lib.hid hR
  have hg := hR.lt
  clear hx hR
  go_enter Try.func27, Try.ntmps27
  go_wp2_with fail
  refine (ey_list b x g o w _ HX.out HR.out).mono ?_
  rintro e w0 ⟨m, oL, rfl, hm, hd, hrs, hfp⟩
  have hd1 := hd Psp.dR
  have hst : EInvR b x g o oL m w w0 (.slice none 0 0) [] oL := ⟨hm, Nat.zero_le _, World.ownsRow_nil _ _ _ _, Psp.Many.start, hrs, hfp⟩
  have Hst := Lib.hid hst
  have Hd := Lib.hid hd1
  clear hd hd1 hst hrs hfp
  go_wp2_with fail
  go_loopw [3, 4] (fun v i wr => ∃ (xs : List Psp.Req) (o' : Option Int) (r : Nat), r + xs.length = m ∧ i = .int .i64 (r : Int) ∧ EInvR b x g o oL m w wr v xs o') (fun _ i _ => (intOf i).toNat)
  case atStart => exact ⟨[], oL, m, by simp, rfl, Hst.out⟩
  case round =>
    obtain ⟨xs, o', r, hr, rfl, hI⟩ := hrel
    obtain ⟨A5, c5, e5, hc5, hc6, _⟩ := own_slice hI.own
    subst e5
    obtain ⟨a, bad, k0, k1, k2, z1, z2, _, hs, hnn⟩ := hI.rs.cells
    have hfin : RdR wr (fun k => w.heap.size ≤ k) (.slice A5 xs.length c5) (xs) := (RdP.of_own hI.own).mono fun b _ hb => hb.2
    obtain ⟨q, hq⟩ : ∃ q, xs.length = q := ⟨_, rfl⟩
    rw [hq] at hfin hI hc5 ⊢
    have hr2 : r + q = m := by omega
    have Hq := Lib.hid hq
    have HI := Lib.hid hI
    have Hfin := Lib.hid hfin
    have h256 := hI.n256
    have hz := hI.fp.size
    by_cases hr0 : r = 0
    · have hex := hI.exit Hd.out (Or.inl (by omega))
      have Hex := Lib.hid hex
      obtain rfl : r = 0 := hr0
      clear hI hq hfin hs hnn hr hex k0 k1 z1
      have d1 : decide ((0 : Int) < ((0 : Nat) : Int)) = false := by simp
      go_wp2_with fail
      go_ret
      exact ⟨_, _, rfl, Hfin.out, Hex.out.1, by rw [Hex.out.2]; exact HI.out.rs, HI.out.fp⟩
    · have d1 : decide ((0 : Int) < (r : Int)) = true := by simp; omega
      cases o' with
      | none =>
        have hbad := hnn rfl
        subst hbad
        have hex := hI.exit Hd.out (Or.inr rfl)
        have Hex := Lib.hid hex
        clear hI hq hfin hs hnn hr hex k0 k1 z1
        go_wp2_with fail
        go_ret
        exact ⟨_, _, rfl, Hfin.out, Hex.out.1, by rw [Hex.out.2]; exact HI.out.rs, HI.out.fp⟩
      | some p =>
        obtain ⟨hap, hbad⟩ := hs p rfl
        subst hap hbad
        clear hI hq hfin hs hnn hr k0 k1 z1
        go_wp2_with fail
        refine (ey_req b x g _ _ (HX.out.fp HI.out.fp (fun k hk => hk)) HI.out.rs).mono ?_
        rintro e W ⟨t, rfl, h3, h4, h5⟩
        have HF := Lib.hid h5
        have H3 := Lib.hid h3
        have H4 := Lib.hid h4
        clear h3 h4 h5
        have hown1 : W.ownsRow w.heap.size 31 6 (.slice A5 q c5) q (xs.flatMap rq) := by
          have h := HI.out.own
          rw [Hq.out] at h
          exact own_keep h fun b hb => HF.out.block b (h.lt b hb).2 (by have := (h.lt b hb).1; omega)
        have hsz2 := HF.out.size
        have Hown1 := Lib.hid hown1
        clear hown1
        go_wp2_with (first | (refine list_build1 rfl 22 (.tmp 20) rfl 31 (rq t) rfl Try.underlying22 (zeroR t) (by simp [rq]) (by simp [rq]) ?_) | (at_builtin; refine wpList_app1 reqE rfl _ _ rfl w.heap.size _ q _ rfl Hown1.out (rq t).toArray rfl rfl (by simp [rq, iv, Value.oneCell']) (by omega) (by decide) (by omega) ?_; intro v' w2 hown2 hg2 hb2 hv2; have HN := Lib.hid (EInvR.next HI.out Hq.out (by omega) H3.out H4.out HF.out hg Hown1.out hown2 hg2 hv2); clear hown2 hg2 hb2 hv2))
        go_roundw
        case rel => exact ⟨_, _, r - 1, by rw [List.length_append, Hq.out]; simp; omega, (show Value.int .i64 ((r : Int) - 1) = .int .i64 ((r - 1 : Nat) : Int) by congr 1; omega), HN.out⟩
        case measure => simp [intOf]; omega

structure EInvV (b : List UInt8) (x : Value) (g : Nat) (o o1 : Option Int) (n : Nat) (w w' : World) (out : Value) (xs : List Psp.Vote) (o' : Option Int) : Prop where
  n256 : n ≤ 256
  le : xs.length ≤ n
  own : w'.ownsRow w.heap.size 43 2 out xs.length (xs.flatMap vt)
  many : Psp.Many Psp.dV b n o1 (xs) o'
  rs : Rs 51 w' g x o'
  fp : Fp (fun k => k = g) w w'
theorem EInvV.exit {b : List UInt8} {x : Value} {g : Nat} {o o1 : Option Int} {n : Nat} {w w' : World} {out : Value} {xs : List Psp.Vote} {o' : Option Int} (h : EInvV b x g o o1 n w w' out xs o')
    (hd : o.bind (Psp.dL Psp.dV b) = o1.bind (Psp.dMany Psp.dV b n)) (hk : xs.length = n ∨ o' = none) : Psp.Is (Psp.dL Psp.dV) b o (xs) ∧ Psp.nxt (Psp.dL Psp.dV) b o = o' := by
  cases o' with
  | none =>
    obtain ⟨q1, q2⟩ := Psp.nxt_not (hd.trans (h.many.no rfl))
    exact ⟨q2 _, q1⟩
  | some a =>
    have hk := hk.resolve_right (by simp)
    obtain ⟨q1, q2⟩ := Psp.nxt_of (hd.trans (h.many.done (by simpa using hk)))
    exact ⟨q2, q1⟩

theorem EInvV.next {b : List UInt8} {x : Value} {g : Nat} {o o1 : Option Int} {n m c5 : Nat} {w w' w1 w2 : World} {A5 : Option Addr} {xs : List Psp.Vote} {a : Int} {t : Psp.Vote} {v' : Value} (h : EInvV b x g o o1 n w w' (.slice A5 m c5) xs (some a))
    (hm : xs.length = m) (hlt : m < n) (h3 : Psp.Is Psp.dV b (some a) t) (h4 : Rs 51 w1 g x (Psp.nxt Psp.dV b (some a))) (h5 : Fp (fun k => k = g) w' w1) (hg : g < w.heap.size) (hown1 : w1.ownsRow w.heap.size 43 2 (.slice A5 m c5) m (xs.flatMap vt))
    (hown2 : w2.ownsRow w.heap.size 43 2 v' (m + 1) (xs.flatMap vt ++ (vt t).toArray.toList)) (hg2 : w1.grownBy w2 (Value.slice A5 m c5).ownBlock) (hv2 : v'.ownBlock = (Value.slice A5 m c5).ownBlock ∨ v'.ownBlock = some (w1.heap.size + 1)) :
    EInvV b x g o o1 n w w2 v' (xs ++ [t]) (Psp.nxt Psp.dV b (some a)) := by
  have hz := h.fp.size
  have hz1 := h5.size
  have hgo : (Value.slice A5 m c5).ownBlock ≠ some g := fun he => by have := (hown1.lt g he).1; omega
  refine ⟨h.n256, by rw [List.length_append]; simp; omega, ?_, h.many.step (by omega) h3, h4.keep (hg2.block g (by omega) (fun he => hgo he.symm)), (h.fp.trans h5 fun k hk => Or.inl hk).grown hg2 fun k hk => Or.inr (hown1.lt k hk).1⟩
  rw [List.length_append, List.flatMap_append, hm]
  simpa using hown2

set_option maxRecDepth 100000 in
set_option maxHeartbeats 2000000 in
theorem ey_listV (b : List UInt8) (x : Value) (g : Nat) (o : Option Int) (w : World) (hx : RdP w (fun k => k ≠ g) 1 x b.length (b.map bv)) (hR : Rs 51 w g x o) :
    Calls Try.prog 30 #[.pointer (some ⟨g, 0, none⟩)] w (TookL 51 Psp.dV RdV b x g o w) := by
  have HX := Lib.hid hx
  have HR := Lib.hid hR
  have hg := hR.lt
  clear hx hR
  go_enter Try.func30, Try.ntmps30
  go_wp2_with fail
  refine (ey_list b x g o w _ HX.out HR.out).mono ?_
  rintro e w0 ⟨m, oL, rfl, hm, hd, hrs, hfp⟩
  have hd1 := hd Psp.dV
  have hst : EInvV b x g o oL m w w0 (.slice none 0 0) [] oL := ⟨hm, Nat.zero_le _, World.ownsRow_nil _ _ _ _, Psp.Many.start, hrs, hfp⟩
  have Hst := Lib.hid hst
  have Hd := Lib.hid hd1
  clear hd hd1 hst hrs hfp
  go_wp2_with fail
  go_loopw [3, 4] (fun v i wr => ∃ (xs : List Psp.Vote) (o' : Option Int) (r : Nat), r + xs.length = m ∧ i = .int .i64 (r : Int) ∧ EInvV b x g o oL m w wr v xs o') (fun _ i _ => (intOf i).toNat)
  case atStart => exact ⟨[], oL, m, by simp, rfl, Hst.out⟩
  case round =>
    obtain ⟨xs, o', r, hr, rfl, hI⟩ := hrel
    obtain ⟨A5, c5, e5, hc5, hc6, _⟩ := own_slice hI.own
    subst e5
    obtain ⟨a, bad, k0, k1, k2, z1, z2, _, hs, hnn⟩ := hI.rs.cells
    have hfin : RdV wr (fun k => w.heap.size ≤ k) (.slice A5 xs.length c5) (xs) := (RdP.of_own hI.own).mono fun b _ hb => hb.2
    obtain ⟨q, hq⟩ : ∃ q, xs.length = q := ⟨_, rfl⟩
    rw [hq] at hfin hI hc5 ⊢
    have hr2 : r + q = m := by omega
    have Hq := Lib.hid hq
    have HI := Lib.hid hI
    have Hfin := Lib.hid hfin
    have h256 := hI.n256
    have hz := hI.fp.size
    by_cases hr0 : r = 0
    · have hex := hI.exit Hd.out (Or.inl (by omega))
      have Hex := Lib.hid hex
      obtain rfl : r = 0 := hr0
      clear hI hq hfin hs hnn hr hex k0 k1 z1
      have d1 : decide ((0 : Int) < ((0 : Nat) : Int)) = false := by simp
      go_wp2_with fail
      go_ret
      exact ⟨_, _, rfl, Hfin.out, Hex.out.1, by rw [Hex.out.2]; exact HI.out.rs, HI.out.fp⟩
    · have d1 : decide ((0 : Int) < (r : Int)) = true := by simp; omega
      cases o' with
      | none =>
        have hbad := hnn rfl
        subst hbad
        have hex := hI.exit Hd.out (Or.inr rfl)
        have Hex := Lib.hid hex
        clear hI hq hfin hs hnn hr hex k0 k1 z1
        go_wp2_with fail
        go_ret
        exact ⟨_, _, rfl, Hfin.out, Hex.out.1, by rw [Hex.out.2]; exact HI.out.rs, HI.out.fp⟩
      | some p =>
        obtain ⟨hap, hbad⟩ := hs p rfl
        subst hap hbad
        have T0 := Lib.hid (Vr.new hI.rs #[.int .i64 0, .int .i64 0] 43)
        have hgr : g < wr.heap.size := hI.rs.lt
        clear hI hq hfin hs hnn hr k0 k1 z1
        go_wp2_with fail
        refine (ey_number b x g _ _ (fun k => k ≠ g) ((HX.out.fp HI.out.fp (fun k hk => hk)).fp T0.out.fp (fun k hk => hk)) T0.out.rs).mono ?_
        rintro e w1x ⟨n, rfl, h1, h2, h3, h4, h5⟩
        have t1 := T0.out.call h4 h5
        obtain ⟨x0, y0⟩ := t1.cell 0 (by simp)
        simp only [List.getElem_toArray, List.getElem_cons_zero] at x0
        have T1 := Lib.hid (t1.store 0 (.int .i64 n) (cs' := #[.int .i64 n, .int .i64 0]) rfl)
        have E0 := Lib.hid h3
        clear h1 h2 h3 h4 h5 t1 k2 z2
        go_wp2_with fail
        refine (ey_number b x g _ _ (fun k => k ≠ g) ((HX.out.fp HI.out.fp (fun k hk => hk)).fp T1.out.fp (fun k hk => hk)) T1.out.rs).mono ?_
        rintro e w2x ⟨s, rfl, h1, h2, h3, h4, h5⟩
        have t1 := T1.out.call h4 h5
        obtain ⟨x1, y1⟩ := t1.cell 1 (by simp)
        simp only [List.getElem_toArray, List.getElem_cons_zero, List.getElem_cons_succ] at x1
        have T2 := Lib.hid (t1.store 1 (.int .i64 s) (cs' := #[.int .i64 n, .int .i64 s]) rfl)
        have E1 := Lib.hid h3
        clear h1 h2 h3 h4 h5 t1 x0 y0
        have hrg := T2.out.range [.int .i64 n, .int .i64 s] rfl
        have Hrg := Lib.hid hrg
        clear hrg
        obtain ⟨t, ht⟩ : ∃ t : Psp.Vote, (⟨n, s⟩ : Psp.Vote) = t := ⟨_, rfl⟩
        have hE := chain_V E0.out E1.out
        have HE := Lib.hid hE
        have HF := Lib.hid T2.out.fp
        have hsz := HF.out.size
        clear hE ht
        have hown1 : (w2x.setCell ⟨wr.heap.size, 1, none⟩ (.int .i64 s)).ownsRow w.heap.size 43 2 (.slice A5 q c5) q (xs.flatMap vt) := by
          have h := HI.out.own
          rw [Hq.out] at h
          exact own_keep h fun b hb => HF.out.block b (h.lt b hb).2 (by have := (h.lt b hb).1; omega)
        have hsz2 := HF.out.size
        have Hown1 := Lib.hid hown1
        clear hown1
        go_wp2_with (first | (refine list_load rfl 43 (.tmp 5) rfl wr.heap.size 0 rfl [.int .i64 n, .int .i64 s] _ ?_ Try.underlying43 rfl sizeV ?_; exact Hrg.out) | (refine list_build1 rfl 36 (.tmp 27) rfl 43 (vt (⟨n, s⟩ : Psp.Vote)) rfl Try.underlying36 (zeroV (⟨n, s⟩ : Psp.Vote)) (by simp [vt]) (by simp [vt]) ?_) | (at_builtin; refine wpList_app1 votE rfl _ _ rfl w.heap.size _ q _ rfl Hown1.out (vt (⟨n, s⟩ : Psp.Vote)).toArray rfl rfl (by simp [vt, iv, Value.oneCell']) (by omega) (by decide) (by omega) ?_; intro v' w2 hown2 hg2 hb2 hv2; have HN := Lib.hid (EInvV.next HI.out Hq.out (by omega) HE.out.1 (by rw [HE.out.2]; exact T2.out.rs) HF.out hg Hown1.out hown2 hg2 hv2); clear hown2 hg2 hb2 hv2))
        go_roundw
        case rel => exact ⟨_, _, r - 1, by rw [List.length_append, Hq.out]; simp; omega, (show Value.int .i64 ((r : Int) - 1) = .int .i64 ((r - 1 : Nat) : Int) by congr 1; omega), HN.out⟩
        case measure => simp [intOf]; omega

structure EInvC (b : List UInt8) (x : Value) (g : Nat) (o o1 : Option Int) (n : Nat) (w w' : World) (out : Value) (xs : List CertV) (o' : Option Int) : Prop where
  n256 : n ≤ 256
  le : xs.length ≤ n
  own : w'.ownsRow w.heap.size 87 5 out xs.length (xs.flatMap cv)
  many : Psp.Many Psp.dC b n o1 (xs.map (·.c)) o'
  rs : Rs 51 w' g x o'
  fp : Fp (fun k => k = g) w w'
  inner : ∀ y ∈ xs, CertOk w' (fun k => w.heap.size ≤ k ∧ out.ownBlock ≠ some k) y
theorem EInvC.exit {b : List UInt8} {x : Value} {g : Nat} {o o1 : Option Int} {n : Nat} {w w' : World} {out : Value} {xs : List CertV} {o' : Option Int} (h : EInvC b x g o o1 n w w' out xs o')
    (hd : o.bind (Psp.dL Psp.dC b) = o1.bind (Psp.dMany Psp.dC b n)) (hk : xs.length = n ∨ o' = none) : Psp.Is (Psp.dL Psp.dC) b o (xs.map (·.c)) ∧ Psp.nxt (Psp.dL Psp.dC) b o = o' := by
  cases o' with
  | none =>
    obtain ⟨q1, q2⟩ := Psp.nxt_not (hd.trans (h.many.no rfl))
    exact ⟨q2 _, q1⟩
  | some a =>
    have hk := hk.resolve_right (by simp)
    obtain ⟨q1, q2⟩ := Psp.nxt_of (hd.trans (h.many.done (by simpa using hk)))
    exact ⟨q2, q1⟩

theorem EInvC.next {b : List UInt8} {x : Value} {g : Nat} {o o1 : Option Int} {n m c5 : Nat} {w w' w1 w2 : World} {A5 : Option Addr} {xs : List CertV} {a : Int} {t : CertV} {v' : Value} (h : EInvC b x g o o1 n w w' (.slice A5 m c5) xs (some a))
    (hm : xs.length = m) (hlt : m < n) (h0 : CertOk w1 (fun k => w'.heap.size ≤ k) t) (h3 : Psp.Is Psp.dC b (some a) t.c) (h4 : Rs 51 w1 g x (Psp.nxt Psp.dC b (some a))) (h5 : Fp (fun k => k = g) w' w1) (hg : g < w.heap.size) (hown1 : w1.ownsRow w.heap.size 87 5 (.slice A5 m c5) m (xs.flatMap cv))
    (hown2 : w2.ownsRow w.heap.size 87 5 v' (m + 1) (xs.flatMap cv ++ (cv t).toArray.toList)) (hg2 : w1.grownBy w2 (Value.slice A5 m c5).ownBlock) (hv2 : v'.ownBlock = (Value.slice A5 m c5).ownBlock ∨ v'.ownBlock = some (w1.heap.size + 1)) :
    EInvC b x g o o1 n w w2 v' (xs ++ [t]) (Psp.nxt Psp.dC b (some a)) := by
  have hz := h.fp.size
  have hz1 := h5.size
  have hgo : (Value.slice A5 m c5).ownBlock ≠ some g := fun he => by have := (hown1.lt g he).1; omega
  have k1 : Keeps (fun k => w.heap.size ≤ k ∧ (Value.slice A5 m c5).ownBlock ≠ some k) (fun k => w.heap.size ≤ k ∧ v'.ownBlock ≠ some k) w' w2 := by
    refine ⟨Nat.le_trans hz1 hg2.size, fun b hb hlt => ⟨(hg2.block b (by omega) (fun he => hb.2 he.symm)).trans (h5.block b hlt (by have := hb.1; omega)), hb.1, fun he => ?_⟩⟩
    rcases hv2 with hv | hv
    · rw [hv] at he; exact hb.2 he
    · rw [hv] at he; injection he with he; omega
  have k2 : Keeps (fun k => w'.heap.size ≤ k) (fun k => w.heap.size ≤ k ∧ v'.ownBlock ≠ some k) w1 w2 := by
    refine ⟨hg2.size, fun b hb hlt => ⟨hg2.block b hlt (fun he => ?_), by omega, fun he => ?_⟩⟩
    · have := (h.own.lt b (by rw [← he])).2; omega
    · rcases hv2 with hv | hv
      · rw [hv] at he; have := (h.own.lt b he).2; omega
      · rw [hv] at he; injection he with he; omega
  refine ⟨h.n256, by rw [List.length_append]; simp; omega, ?_, ?_, h4.keep (hg2.block g (by omega) (fun he => hgo he.symm)), (h.fp.trans h5 fun k hk => Or.inl hk).grown hg2 fun k hk => Or.inr (hown1.lt k hk).1, fun y hy => ?_⟩
  · rw [List.length_append, List.flatMap_append, hm]
    simpa using hown2
  · rw [List.map_append]
    exact h.many.step (by rw [List.length_map]; omega) h3
  · rcases List.mem_append.1 hy with hy | hy
    · exact (h.inner y hy).keeps k1
    · rw [List.mem_singleton.1 hy]
      exact h0.keeps k2

set_option maxRecDepth 100000 in
set_option maxHeartbeats 2000000 in
theorem ey_listC (b : List UInt8) (x : Value) (g : Nat) (o : Option Int) (w : World) (hx : RdP w (fun k => k ≠ g) 1 x b.length (b.map bv)) (hR : Rs 51 w g x o) :
    Calls Try.prog 31 #[.pointer (some ⟨g, 0, none⟩)] w (TookL 51 Psp.dC RdC b x g o w) := by
  have HX := Lib.hid hx
  have HR := Lib.hid hR
  have hg := hR.lt
  clear hx hR
  go_enter Try.func31, Try.ntmps31
  go_wp2_with fail
  refine (ey_list b x g o w _ HX.out HR.out).mono ?_
  rintro e w0 ⟨m, oL, rfl, hm, hd, hrs, hfp⟩
  have hd1 := hd Psp.dC
  have hst : EInvC b x g o oL m w w0 (.slice none 0 0) [] oL := ⟨hm, Nat.zero_le _, World.ownsRow_nil _ _ _ _, Psp.Many.start, hrs, hfp, fun y hy => by cases hy⟩
  have Hst := Lib.hid hst
  have Hd := Lib.hid hd1
  clear hd hd1 hst hrs hfp
  go_wp2_with fail
  go_loopw [3, 4] (fun v i wr => ∃ (xs : List CertV) (o' : Option Int) (r : Nat), r + xs.length = m ∧ i = .int .i64 (r : Int) ∧ EInvC b x g o oL m w wr v xs o') (fun _ i _ => (intOf i).toNat)
  case atStart => exact ⟨[], oL, m, by simp, rfl, Hst.out⟩
  case round =>
    obtain ⟨xs, o', r, hr, rfl, hI⟩ := hrel
    obtain ⟨A5, c5, e5, hc5, hc6, _⟩ := own_slice hI.own
    subst e5
    obtain ⟨a, bad, k0, k1, k2, z1, z2, _, hs, hnn⟩ := hI.rs.cells
    have hfin : RdC wr (fun k => w.heap.size ≤ k) (.slice A5 xs.length c5) (xs.map (·.c)) := ⟨xs, rfl, (RdP.of_own hI.own).mono (fun b _ hb => hb.2), fun y hy => (hI.inner y hy).keeps (Keeps.mono fun b _ hb => hb.1)⟩
    obtain ⟨q, hq⟩ : ∃ q, xs.length = q := ⟨_, rfl⟩
    rw [hq] at hfin hI hc5 ⊢
    have hr2 : r + q = m := by omega
    have Hq := Lib.hid hq
    have HI := Lib.hid hI
    have Hfin := Lib.hid hfin
    have h256 := hI.n256
    have hz := hI.fp.size
    by_cases hr0 : r = 0
    · have hex := hI.exit Hd.out (Or.inl (by omega))
      have Hex := Lib.hid hex
      obtain rfl : r = 0 := hr0
      clear hI hq hfin hs hnn hr hex k0 k1 z1
      have d1 : decide ((0 : Int) < ((0 : Nat) : Int)) = false := by simp
      go_wp2_with fail
      go_ret
      exact ⟨_, _, rfl, Hfin.out, Hex.out.1, by rw [Hex.out.2]; exact HI.out.rs, HI.out.fp⟩
    · have d1 : decide ((0 : Int) < (r : Int)) = true := by simp; omega
      cases o' with
      | none =>
        have hbad := hnn rfl
        subst hbad
        have hex := hI.exit Hd.out (Or.inr rfl)
        have Hex := Lib.hid hex
        clear hI hq hfin hs hnn hr hex k0 k1 z1
        go_wp2_with fail
        go_ret
        exact ⟨_, _, rfl, Hfin.out, Hex.out.1, by rw [Hex.out.2]; exact HI.out.rs, HI.out.fp⟩
      | some p =>
        obtain ⟨hap, hbad⟩ := hs p rfl
        subst hap hbad
        have T0 := Lib.hid (Vr.new hI.rs #[.int .i64 0, .int .i64 0, .int .i64 0, .slice none 0 0, .slice none 0 0] 87)
        have hgr : g < wr.heap.size := hI.rs.lt
        clear hI hq hfin hs hnn hr k0 k1 z1
        go_wp2_with fail
        refine (ey_number b x g _ _ (fun k => k ≠ g) ((HX.out.fp HI.out.fp (fun k hk => hk)).fp T0.out.fp (fun k hk => hk)) T0.out.rs).mono ?_
        rintro e w1x ⟨fv, rfl, h1, h2, h3, h4, h5⟩
        have t1 := T0.out.call h4 h5
        obtain ⟨x0, y0⟩ := t1.cell 0 (by simp)
        simp only [List.getElem_toArray, List.getElem_cons_zero] at x0
        have T1 := Lib.hid (t1.store 0 (.int .i64 fv) (cs' := #[.int .i64 fv, .int .i64 0, .int .i64 0, .slice none 0 0, .slice none 0 0]) rfl)
        have E0 := Lib.hid h3
        clear h1 h2 h3 h4 h5 t1 k2 z2
        go_wp2_with fail
        refine (ey_number b x g _ _ (fun k => k ≠ g) ((HX.out.fp HI.out.fp (fun k hk => hk)).fp T1.out.fp (fun k hk => hk)) T1.out.rs).mono ?_
        rintro e w2x ⟨fi, rfl, h1, h2, h3, h4, h5⟩
        have t1 := T1.out.call h4 h5
        obtain ⟨x1, y1⟩ := t1.cell 1 (by simp)
        simp only [List.getElem_toArray, List.getElem_cons_zero, List.getElem_cons_succ] at x1
        have T2 := Lib.hid (t1.store 1 (.int .i64 fi) (cs' := #[.int .i64 fv, .int .i64 fi, .int .i64 0, .slice none 0 0, .slice none 0 0]) rfl)
        have E1 := Lib.hid h3
        clear h1 h2 h3 h4 h5 t1 x0 y0
        go_wp2_with fail
        refine (ey_number b x g _ _ (fun k => k ≠ g) ((HX.out.fp HI.out.fp (fun k hk => hk)).fp T2.out.fp (fun k hk => hk)) T2.out.rs).mono ?_
        rintro e w3x ⟨fq, rfl, h1, h2, h3, h4, h5⟩
        have t1 := T2.out.call h4 h5
        obtain ⟨x2, y2⟩ := t1.cell 2 (by simp)
        simp only [List.getElem_toArray, List.getElem_cons_zero, List.getElem_cons_succ] at x2
        have T3 := Lib.hid (t1.store 2 (.int .i64 fq) (cs' := #[.int .i64 fv, .int .i64 fi, .int .i64 fq, .slice none 0 0, .slice none 0 0]) rfl)
        have E2 := Lib.hid h3
        clear h1 h2 h3 h4 h5 t1 x1 y1
        go_wp2_with fail
        refine (ey_listR b x g _ _ ((HX.out.fp HI.out.fp (fun k hk => hk)).fp T3.out.fp (fun k hk => hk)) T3.out.rs).mono ?_
        rintro e w4x ⟨vfl, fl, rfl, hL, h3, h4, h5⟩
        obtain ⟨Afl, nfl, cfl, efl⟩ := hL.form
        subst efl
        have hL2 := hL.keeps (Keeps.new1 T3.out.lt1)
        have t1 := T3.out.call h4 h5
        obtain ⟨x3, y3⟩ := t1.cell 3 (by simp)
        simp only [List.getElem_toArray, List.getElem_cons_zero, List.getElem_cons_succ] at x3
        have Qfl_4 := Lib.hid (hL2.keeps (Keeps.var1 wr w4x 3 (.slice Afl nfl cfl)))
        have T4 := Lib.hid (t1.store 3 (.slice Afl nfl cfl) (cs' := #[.int .i64 fv, .int .i64 fi, .int .i64 fq, .slice Afl nfl cfl, .slice none 0 0]) rfl)
        have E3 := Lib.hid h3
        clear hL hL2 h3 h4 h5 t1 x2 y2
        go_wp2_with fail
        refine (ey_listV b x g _ _ ((HX.out.fp HI.out.fp (fun k hk => hk)).fp T4.out.fp (fun k hk => hk)) T4.out.rs).mono ?_
        rintro e w5x ⟨vfm, fm, rfl, hL, h3, h4, h5⟩
        obtain ⟨Afm, nfm, cfm, efm⟩ := hL.form
        subst efm
        have hL2 := hL.keeps (Keeps.new1 T4.out.lt1)
        have t1 := T4.out.call h4 h5
        obtain ⟨x4, y4⟩ := t1.cell 4 (by simp)
        simp only [List.getElem_toArray, List.getElem_cons_zero, List.getElem_cons_succ] at x4
        have Qfl_5 := Lib.hid ((Qfl_4.out.keeps (Keeps.fpg1 h5 hgr)).keeps (Keeps.var1 wr w5x 4 (.slice Afm nfm cfm)))
        have Qfm_5 := Lib.hid (hL2.keeps (Keeps.var1 wr w5x 4 (.slice Afm nfm cfm)))
        have T5 := Lib.hid (t1.store 4 (.slice Afm nfm cfm) (cs' := #[.int .i64 fv, .int .i64 fi, .int .i64 fq, .slice Afl nfl cfl, .slice Afm nfm cfm]) rfl)
        have E4 := Lib.hid h3
        clear hL hL2 h3 h4 h5 t1 x3 y3
        have hrg := T5.out.range [.int .i64 fv, .int .i64 fi, .int .i64 fq, .slice Afl nfl cfl, .slice Afm nfm cfm] rfl
        have Hrg := Lib.hid hrg
        clear hrg
        obtain ⟨t, ht⟩ : ∃ t : CertV, (⟨⟨fv, fi, fq, fl, fm⟩, .slice Afl nfl cfl, .slice Afm nfm cfm⟩ : CertV) = t := ⟨_, rfl⟩
        have hE := chain_C E0.out E1.out E2.out E3.out E4.out
        have HE := Lib.hid hE
        have HF := Lib.hid T5.out.fp
        have hsz := HF.out.size
        have Ffl := Qfl_5.out.keeps (Keeps.end1 wr _)
        have Ffm := Qfm_5.out.keeps (Keeps.end1 wr _)
        have H0 : Hid (CertOk (w5x.setCell ⟨wr.heap.size, 4, none⟩ (.slice Afm nfm cfm)) (fun k => wr.heap.size ≤ k) (⟨⟨fv, fi, fq, fl, fm⟩, .slice Afl nfl cfl, .slice Afm nfm cfm⟩ : CertV)) := Lib.hid ⟨Ffl, Ffm⟩
        clear Ffl Ffm
        clear hE ht
        have hown1 : (w5x.setCell ⟨wr.heap.size, 4, none⟩ (.slice Afm nfm cfm)).ownsRow w.heap.size 87 5 (.slice A5 q c5) q (xs.flatMap cv) := by
          have h := HI.out.own
          rw [Hq.out] at h
          exact own_keep h fun b hb => HF.out.block b (h.lt b hb).2 (by have := (h.lt b hb).1; omega)
        have hsz2 := HF.out.size
        have Hown1 := Lib.hid hown1
        clear hown1
        go_wp2_with (first | (refine list_load rfl 87 (.tmp 5) rfl wr.heap.size 0 rfl [.int .i64 fv, .int .i64 fi, .int .i64 fq, .slice Afl nfl cfl, .slice Afm nfm cfm] _ ?_ Try.underlying87 rfl sizeC ?_; exact Hrg.out) | (refine list_build1 rfl 35 (.tmp 36) rfl 87 (cv (⟨⟨fv, fi, fq, fl, fm⟩, .slice Afl nfl cfl, .slice Afm nfm cfm⟩ : CertV)) rfl Try.underlying35 (zeroC (⟨⟨fv, fi, fq, fl, fm⟩, .slice Afl nfl cfl, .slice Afm nfm cfm⟩ : CertV)) (by simp [cv]) (by simp [cv]) ?_) | (at_builtin; refine wpList_app1 certE rfl _ _ rfl w.heap.size _ q _ rfl Hown1.out (cv (⟨⟨fv, fi, fq, fl, fm⟩, .slice Afl nfl cfl, .slice Afm nfm cfm⟩ : CertV)).toArray rfl rfl (cv_one H0.out) (by omega) (by decide) (by omega) ?_; intro v' w2 hown2 hg2 hb2 hv2; have HN := Lib.hid (EInvC.next HI.out Hq.out (by omega) H0.out HE.out.1 (by rw [HE.out.2]; exact T5.out.rs) HF.out hg Hown1.out hown2 hg2 hv2); clear hown2 hg2 hb2 hv2))
        go_roundw
        case rel => exact ⟨_, _, r - 1, by rw [List.length_append, Hq.out]; simp; omega, (show Value.int .i64 ((r : Int) - 1) = .int .i64 ((r - 1 : Nat) : Int) by congr 1; omega), HN.out⟩
        case measure => simp [intOf]; omega

structure EInvP (b : List UInt8) (x : Value) (g : Nat) (o o1 : Option Int) (n : Nat) (w w' : World) (out : Value) (xs : List PartV) (o' : Option Int) : Prop where
  n256 : n ≤ 256
  le : xs.length ≤ n
  own : w'.ownsRow w.heap.size 109 4 out xs.length (xs.flatMap pv)
  many : Psp.Many Psp.dP b n o1 (xs.map (·.p)) o'
  rs : Rs 51 w' g x o'
  fp : Fp (fun k => k = g) w w'
  inner : ∀ y ∈ xs, PartOk w' (fun k => w.heap.size ≤ k ∧ out.ownBlock ≠ some k) y
theorem EInvP.exit {b : List UInt8} {x : Value} {g : Nat} {o o1 : Option Int} {n : Nat} {w w' : World} {out : Value} {xs : List PartV} {o' : Option Int} (h : EInvP b x g o o1 n w w' out xs o')
    (hd : o.bind (Psp.dL Psp.dP b) = o1.bind (Psp.dMany Psp.dP b n)) (hk : xs.length = n ∨ o' = none) : Psp.Is (Psp.dL Psp.dP) b o (xs.map (·.p)) ∧ Psp.nxt (Psp.dL Psp.dP) b o = o' := by
  cases o' with
  | none =>
    obtain ⟨q1, q2⟩ := Psp.nxt_not (hd.trans (h.many.no rfl))
    exact ⟨q2 _, q1⟩
  | some a =>
    have hk := hk.resolve_right (by simp)
    obtain ⟨q1, q2⟩ := Psp.nxt_of (hd.trans (h.many.done (by simpa using hk)))
    exact ⟨q2, q1⟩

theorem EInvP.next {b : List UInt8} {x : Value} {g : Nat} {o o1 : Option Int} {n m c5 : Nat} {w w' w1 w2 : World} {A5 : Option Addr} {xs : List PartV} {a : Int} {t : PartV} {v' : Value} (h : EInvP b x g o o1 n w w' (.slice A5 m c5) xs (some a))
    (hm : xs.length = m) (hlt : m < n) (h0 : PartOk w1 (fun k => w'.heap.size ≤ k) t) (h3 : Psp.Is Psp.dP b (some a) t.p) (h4 : Rs 51 w1 g x (Psp.nxt Psp.dP b (some a))) (h5 : Fp (fun k => k = g) w' w1) (hg : g < w.heap.size) (hown1 : w1.ownsRow w.heap.size 109 4 (.slice A5 m c5) m (xs.flatMap pv))
    (hown2 : w2.ownsRow w.heap.size 109 4 v' (m + 1) (xs.flatMap pv ++ (pv t).toArray.toList)) (hg2 : w1.grownBy w2 (Value.slice A5 m c5).ownBlock) (hv2 : v'.ownBlock = (Value.slice A5 m c5).ownBlock ∨ v'.ownBlock = some (w1.heap.size + 1)) :
    EInvP b x g o o1 n w w2 v' (xs ++ [t]) (Psp.nxt Psp.dP b (some a)) := by
  have hz := h.fp.size
  have hz1 := h5.size
  have hgo : (Value.slice A5 m c5).ownBlock ≠ some g := fun he => by have := (hown1.lt g he).1; omega
  have k1 : Keeps (fun k => w.heap.size ≤ k ∧ (Value.slice A5 m c5).ownBlock ≠ some k) (fun k => w.heap.size ≤ k ∧ v'.ownBlock ≠ some k) w' w2 := by
    refine ⟨Nat.le_trans hz1 hg2.size, fun b hb hlt => ⟨(hg2.block b (by omega) (fun he => hb.2 he.symm)).trans (h5.block b hlt (by have := hb.1; omega)), hb.1, fun he => ?_⟩⟩
    rcases hv2 with hv | hv
    · rw [hv] at he; exact hb.2 he
    · rw [hv] at he; injection he with he; omega
  have k2 : Keeps (fun k => w'.heap.size ≤ k) (fun k => w.heap.size ≤ k ∧ v'.ownBlock ≠ some k) w1 w2 := by
    refine ⟨hg2.size, fun b hb hlt => ⟨hg2.block b hlt (fun he => ?_), by omega, fun he => ?_⟩⟩
    · have := (h.own.lt b (by rw [← he])).2; omega
    · rcases hv2 with hv | hv
      · rw [hv] at he; have := (h.own.lt b he).2; omega
      · rw [hv] at he; injection he with he; omega
  refine ⟨h.n256, by rw [List.length_append]; simp; omega, ?_, ?_, h4.keep (hg2.block g (by omega) (fun he => hgo he.symm)), (h.fp.trans h5 fun k hk => Or.inl hk).grown hg2 fun k hk => Or.inr (hown1.lt k hk).1, fun y hy => ?_⟩
  · rw [List.length_append, List.flatMap_append, hm]
    simpa using hown2
  · rw [List.map_append]
    exact h.many.step (by rw [List.length_map]; omega) h3
  · rcases List.mem_append.1 hy with hy | hy
    · exact (h.inner y hy).keeps k1
    · rw [List.mem_singleton.1 hy]
      exact h0.keeps k2

set_option maxRecDepth 100000 in
set_option maxHeartbeats 2000000 in
theorem ey_listP (b : List UInt8) (x : Value) (g : Nat) (o : Option Int) (w : World) (hx : RdP w (fun k => k ≠ g) 1 x b.length (b.map bv)) (hR : Rs 51 w g x o) :
    Calls Try.prog 33 #[.pointer (some ⟨g, 0, none⟩)] w (TookL 51 Psp.dP RdA b x g o w) := by
  have HX := Lib.hid hx
  have HR := Lib.hid hR
  have hg := hR.lt
  clear hx hR
  go_enter Try.func33, Try.ntmps33
  go_wp2_with fail
  refine (ey_list b x g o w _ HX.out HR.out).mono ?_
  rintro e w0 ⟨m, oL, rfl, hm, hd, hrs, hfp⟩
  have hd1 := hd Psp.dP
  have hst : EInvP b x g o oL m w w0 (.slice none 0 0) [] oL := ⟨hm, Nat.zero_le _, World.ownsRow_nil _ _ _ _, Psp.Many.start, hrs, hfp, fun y hy => by cases hy⟩
  have Hst := Lib.hid hst
  have Hd := Lib.hid hd1
  clear hd hd1 hst hrs hfp
  go_wp2_with fail
  go_loopw [3, 4] (fun v i wr => ∃ (xs : List PartV) (o' : Option Int) (r : Nat), r + xs.length = m ∧ i = .int .i64 (r : Int) ∧ EInvP b x g o oL m w wr v xs o') (fun _ i _ => (intOf i).toNat)
  case atStart => exact ⟨[], oL, m, by simp, rfl, Hst.out⟩
  case round =>
    obtain ⟨xs, o', r, hr, rfl, hI⟩ := hrel
    obtain ⟨A5, c5, e5, hc5, hc6, _⟩ := own_slice hI.own
    subst e5
    obtain ⟨a, bad, k0, k1, k2, z1, z2, _, hs, hnn⟩ := hI.rs.cells
    have hfin : RdA wr (fun k => w.heap.size ≤ k) (.slice A5 xs.length c5) (xs.map (·.p)) := ⟨xs, rfl, (RdP.of_own hI.own).mono (fun b _ hb => hb.2), fun y hy => (hI.inner y hy).keeps (Keeps.mono fun b _ hb => hb.1)⟩
    obtain ⟨q, hq⟩ : ∃ q, xs.length = q := ⟨_, rfl⟩
    rw [hq] at hfin hI hc5 ⊢
    have hr2 : r + q = m := by omega
    have Hq := Lib.hid hq
    have HI := Lib.hid hI
    have Hfin := Lib.hid hfin
    have h256 := hI.n256
    have hz := hI.fp.size
    by_cases hr0 : r = 0
    · have hex := hI.exit Hd.out (Or.inl (by omega))
      have Hex := Lib.hid hex
      obtain rfl : r = 0 := hr0
      clear hI hq hfin hs hnn hr hex k0 k1 z1
      have d1 : decide ((0 : Int) < ((0 : Nat) : Int)) = false := by simp
      go_wp2_with fail
      go_ret
      exact ⟨_, _, rfl, Hfin.out, Hex.out.1, by rw [Hex.out.2]; exact HI.out.rs, HI.out.fp⟩
    · have d1 : decide ((0 : Int) < (r : Int)) = true := by simp; omega
      cases o' with
      | none =>
        have hbad := hnn rfl
        subst hbad
        have hex := hI.exit Hd.out (Or.inr rfl)
        have Hex := Lib.hid hex
        clear hI hq hfin hs hnn hr hex k0 k1 z1
        go_wp2_with fail
        go_ret
        exact ⟨_, _, rfl, Hfin.out, Hex.out.1, by rw [Hex.out.2]; exact HI.out.rs, HI.out.fp⟩
      | some p =>
        obtain ⟨hap, hbad⟩ := hs p rfl
        subst hap hbad
        have T0 := Lib.hid (Vr.new hI.rs #[.int .i64 0, .slice none 0 0, .slice none 0 0, .int .i64 0] 109)
        have hgr : g < wr.heap.size := hI.rs.lt
        clear hI hq hfin hs hnn hr k0 k1 z1
        go_wp2_with fail
        refine (ey_number b x g _ _ (fun k => k ≠ g) ((HX.out.fp HI.out.fp (fun k hk => hk)).fp T0.out.fp (fun k hk => hk)) T0.out.rs).mono ?_
        rintro e w1x ⟨pf, rfl, h1, h2, h3, h4, h5⟩
        have t1 := T0.out.call h4 h5
        obtain ⟨x0, y0⟩ := t1.cell 0 (by simp)
        simp only [List.getElem_toArray, List.getElem_cons_zero] at x0
        have T1 := Lib.hid (t1.store 0 (.int .i64 pf) (cs' := #[.int .i64 pf, .slice none 0 0, .slice none 0 0, .int .i64 0]) rfl)
        have E0 := Lib.hid h3
        clear h1 h2 h3 h4 h5 t1 k2 z2
        go_wp2_with fail
        refine (ey_listV b x g _ _ ((HX.out.fp HI.out.fp (fun k hk => hk)).fp T1.out.fp (fun k hk => hk)) T1.out.rs).mono ?_
        rintro e w2x ⟨vpm, pm, rfl, hL, h3, h4, h5⟩
        obtain ⟨Apm, npm, cpm, epm⟩ := hL.form
        subst epm
        have hL2 := hL.keeps (Keeps.new1 T1.out.lt1)
        have t1 := T1.out.call h4 h5
        obtain ⟨x1, y1⟩ := t1.cell 1 (by simp)
        simp only [List.getElem_toArray, List.getElem_cons_zero, List.getElem_cons_succ] at x1
        have Qpm_2 := Lib.hid (hL2.keeps (Keeps.var1 wr w2x 1 (.slice Apm npm cpm)))
        have T2 := Lib.hid (t1.store 1 (.slice Apm npm cpm) (cs' := #[.int .i64 pf, .slice Apm npm cpm, .slice none 0 0, .int .i64 0]) rfl)
        have E1 := Lib.hid h3
        clear hL hL2 h3 h4 h5 t1 x0 y0
        go_wp2_with fail
        refine (ey_listC b x g _ _ ((HX.out.fp HI.out.fp (fun k hk => hk)).fp T2.out.fp (fun k hk => hk)) T2.out.rs).mono ?_
        rintro e w3x ⟨vpl, pl, rfl, hL, h3, h4, h5⟩
        obtain ⟨Apl, npl, cpl, epl⟩ := hL.form
        subst epl
        have hL2 := hL.keeps (Keeps.new1 T2.out.lt1)
        have t1 := T2.out.call h4 h5
        obtain ⟨x2, y2⟩ := t1.cell 2 (by simp)
        simp only [List.getElem_toArray, List.getElem_cons_zero, List.getElem_cons_succ] at x2
        have Qpm_3 := Lib.hid ((Qpm_2.out.keeps (Keeps.fpg1 h5 hgr)).keeps (Keeps.var1 wr w3x 2 (.slice Apl npl cpl)))
        have Qpl_3 := Lib.hid (hL2.keeps (Keeps.var1 wr w3x 2 (.slice Apl npl cpl)))
        have T3 := Lib.hid (t1.store 2 (.slice Apl npl cpl) (cs' := #[.int .i64 pf, .slice Apm npm cpm, .slice Apl npl cpl, .int .i64 0]) rfl)
        have E2 := Lib.hid h3
        clear hL hL2 h3 h4 h5 t1 x1 y1
        go_wp2_with fail
        refine (ey_number b x g _ _ (fun k => k ≠ g) ((HX.out.fp HI.out.fp (fun k hk => hk)).fp T3.out.fp (fun k hk => hk)) T3.out.rs).mono ?_
        rintro e w4x ⟨ps, rfl, h1, h2, h3, h4, h5⟩
        have t1 := T3.out.call h4 h5
        obtain ⟨x3, y3⟩ := t1.cell 3 (by simp)
        simp only [List.getElem_toArray, List.getElem_cons_zero, List.getElem_cons_succ] at x3
        have Qpm_4 := Lib.hid ((Qpm_3.out.keeps (Keeps.fpg1 h5 hgr)).keeps (Keeps.var1 wr w4x 3 (.int .i64 ps)))
        have Qpl_4 := Lib.hid ((Qpl_3.out.keeps (Keeps.fpg1 h5 hgr)).keeps (Keeps.var1 wr w4x 3 (.int .i64 ps)))
        have T4 := Lib.hid (t1.store 3 (.int .i64 ps) (cs' := #[.int .i64 pf, .slice Apm npm cpm, .slice Apl npl cpl, .int .i64 ps]) rfl)
        have E3 := Lib.hid h3
        clear h1 h2 h3 h4 h5 t1 x2 y2
        have hrg := T4.out.range [.int .i64 pf, .slice Apm npm cpm, .slice Apl npl cpl, .int .i64 ps] rfl
        have Hrg := Lib.hid hrg
        clear hrg
        obtain ⟨t, ht⟩ : ∃ t : PartV, (⟨⟨pf, pm, pl, ps⟩, .slice Apm npm cpm, .slice Apl npl cpl⟩ : PartV) = t := ⟨_, rfl⟩
        have hE := chain_P E0.out E1.out E2.out E3.out
        have HE := Lib.hid hE
        have HF := Lib.hid T4.out.fp
        have hsz := HF.out.size
        have Fpm := Qpm_4.out.keeps (Keeps.end1 wr _)
        have Fpl := Qpl_4.out.keeps (Keeps.end1 wr _)
        have H0 : Hid (PartOk (w4x.setCell ⟨wr.heap.size, 3, none⟩ (.int .i64 ps)) (fun k => wr.heap.size ≤ k) (⟨⟨pf, pm, pl, ps⟩, .slice Apm npm cpm, .slice Apl npl cpl⟩ : PartV)) := Lib.hid ⟨Fpm, Fpl⟩
        clear Fpm Fpl
        clear hE ht
        have hown1 : (w4x.setCell ⟨wr.heap.size, 3, none⟩ (.int .i64 ps)).ownsRow w.heap.size 109 4 (.slice A5 q c5) q (xs.flatMap pv) := by
          have h := HI.out.own
          rw [Hq.out] at h
          exact own_keep h fun b hb => HF.out.block b (h.lt b hb).2 (by have := (h.lt b hb).1; omega)
        have hsz2 := HF.out.size
        have Hown1 := Lib.hid hown1
        clear hown1
        go_wp2_with (first | (refine list_load rfl 109 (.tmp 5) rfl wr.heap.size 0 rfl [.int .i64 pf, .slice Apm npm cpm, .slice Apl npl cpl, .int .i64 ps] _ ?_ Try.underlying109 rfl sizeP ?_; exact Hrg.out) | (refine list_build1 rfl 64 (.tmp 33) rfl 109 (pv (⟨⟨pf, pm, pl, ps⟩, .slice Apm npm cpm, .slice Apl npl cpl⟩ : PartV)) rfl Try.underlying64 (zeroP (⟨⟨pf, pm, pl, ps⟩, .slice Apm npm cpm, .slice Apl npl cpl⟩ : PartV)) (by simp [pv]) (by simp [pv]) ?_) | (at_builtin; refine wpList_app1 partE rfl _ _ rfl w.heap.size _ q _ rfl Hown1.out (pv (⟨⟨pf, pm, pl, ps⟩, .slice Apm npm cpm, .slice Apl npl cpl⟩ : PartV)).toArray rfl rfl (pv_one H0.out) (by omega) (by decide) (by omega) ?_; intro v' w2 hown2 hg2 hb2 hv2; have HN := Lib.hid (EInvP.next HI.out Hq.out (by omega) H0.out HE.out.1 (by rw [HE.out.2]; exact T4.out.rs) HF.out hg Hown1.out hown2 hg2 hv2); clear hown2 hg2 hb2 hv2))
        go_roundw
        case rel => exact ⟨_, _, r - 1, by rw [List.length_append, Hq.out]; simp; omega, (show Value.int .i64 ((r : Int) - 1) = .int .i64 ((r - 1 : Nat) : Int) by congr 1; omega), HN.out⟩
        case measure => simp [intOf]; omega

end Go.Proofs.Ytadaejpodjhkdaa
