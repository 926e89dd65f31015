/- CopyCerts: what is copied is owned. Printed by gen_cpo.py. -/
import Derived.Test.YtadpkjgjciodnaaGreatCpyVi
namespace Go.Proofs.YtadpkjgjciodnaaGreat
open Go.RowKit
set_option linter.unusedVariables false
set_option linter.unusedSimpArgs false

set_option maxRecDepth 100000 in
theorem copy_Ro (v : Value) (l : List Psp.Req) (w : World) (P : Nat → Prop) (hx : RdP w P 6 v l.length (l.flatMap rq)) (hl : l.length ≤ 1099511627776) :
    Calls Tryz.prog 57 #[v] w fun e w' => ∃ A c, e = .returned (.slice A l.length c) ∧ w'.ownsRow w.heap.size 58 6 (.slice A l.length c) l.length (l.flatMap rq) ∧ Below w.heap.size w w' := by
  have Hr := Lib.hid hx.to_rd
  obtain ⟨_, A, c, rfl, hc1, hc2, _⟩ := hx.parts
  have Hone := Lib.hid (reqs_one l)
  clear hx
  go_enter Tryz.func57, Tryz.ntmps57
  go_wp2_with (at_builtin; refine wpList_app reqE rfl _ _ rfl w.heap.size _ 0 [] rfl (World.ownsRow_nil _ _ _ _) w.heap.size _ _ _ rfl Hr.out Hone.out (by unfold maxLen; omega) (by omega) (Nat.le_refl _) ?_; intro v' w1 hown1 hg1 _; have hbel1 : Below w.heap.size w w1 := (Below.refl _ _).grown hg1 (Nat.le_refl _) (fun k hk => by simp [Act.eval, Value.ownBlock] at hk); clear hg1; rw [Nat.zero_add, List.nil_append] at hown1; obtain ⟨A', c', rfl, _, _, _⟩ := own_slice hown1)
  go_ret
  exact ⟨A', c', rfl, hown1, hbel1⟩


set_option maxRecDepth 100000 in
theorem copy_Vo (v : Value) (l : List Psp.Vote) (w : World) (P : Nat → Prop) (hx : RdP w P 2 v l.length (l.flatMap vt)) (hl : l.length ≤ 1099511627776) :
    Calls Tryz.prog 58 #[v] w fun e w' => ∃ A c, e = .returned (.slice A l.length c) ∧ w'.ownsRow w.heap.size 54 2 (.slice A l.length c) l.length (l.flatMap vt) ∧ Below w.heap.size w w' := by
  have Hr := Lib.hid hx.to_rd
  obtain ⟨_, A, c, rfl, hc1, hc2, _⟩ := hx.parts
  have Hone := Lib.hid (votes_one l)
  clear hx
  go_enter Tryz.func58, Tryz.ntmps58
  go_wp2_with (at_builtin; refine wpList_app votE rfl _ _ rfl w.heap.size _ 0 [] rfl (World.ownsRow_nil _ _ _ _) w.heap.size _ _ _ rfl Hr.out Hone.out (by unfold maxLen; omega) (by omega) (Nat.le_refl _) ?_; intro v' w1 hown1 hg1 _; have hbel1 : Below w.heap.size w w1 := (Below.refl _ _).grown hg1 (Nat.le_refl _) (fun k hk => by simp [Act.eval, Value.ownBlock] at hk); clear hg1; rw [Nat.zero_add, List.nil_append] at hown1; obtain ⟨A', c', rfl, _, _, _⟩ := own_slice hown1)
  go_ret
  exact ⟨A', c', rfl, hown1, hbel1⟩


/-- A certificate whose lists are its own. -/
def OwnC (w : World) (base : Nat) (x : CertV) : Prop := w.ownsRow base 58 6 x.b x.c.b.length (x.c.b.flatMap rq) ∧ w.ownsRow base 54 2 x.o x.c.o.length (x.c.o.flatMap vt)
theorem OwnC.ok {w : World} {base : Nat} {x : CertV} (h : OwnC w base x) : CertOk w (fun b => base ≤ b) x := ⟨(RdP.of_own h.1).mono fun b _ hb => hb.2, (RdP.of_own h.2).mono fun b _ hb => hb.2⟩
structure OInv (w w' : World) (out : Value) (xs : List CertV) : Prop where
  own : w'.ownsRow w.heap.size 25 5 out xs.length (xs.flatMap cv)
  be : Below w.heap.size w w'
  inner : ∀ y ∈ xs, OwnC w' w.heap.size y ∧ (∀ b, y.b.ownBlock = some b ∨ y.o.ownBlock = some b → out.ownBlock ≠ some b)
theorem OInv.next {w w' w1 w2 : World} {out v' : Value} {xs : List CertV} {t : CertV} (h : OInv w w' out xs) (hb1 : Below w'.heap.size w' w1) (h0 : OwnC w1 w'.heap.size t)
    (hown2 : w2.ownsRow w.heap.size 25 5 v' (xs.length + 1) (xs.flatMap cv ++ (cv t).toArray.toList)) (hg2 : w1.grownBy w2 out.ownBlock) (hv2 : v'.ownBlock = out.ownBlock ∨ v'.ownBlock = some (w1.heap.size + 1)) : OInv w w2 v' (xs ++ [t]) := by
  have hz := h.be.size
  have hz1 := hb1.size
  have hnew : ∀ b, b < w1.heap.size → out.ownBlock ≠ some b → v'.ownBlock ≠ some b := fun b hb hne he => by
    rcases hv2 with hv | hv
    · rw [hv] at he; exact hne he
    · rw [hv] at he; injection he with he; omega
  refine ⟨?_, ?_, fun y hy => ?_⟩
  · rw [List.length_append, List.flatMap_append]
    simpa using hown2
  · exact (h.be.trans (hb1.mono hz)).grown hg2 (by omega) fun k hk => (h.own.lt k hk).1
  · rcases List.mem_append.1 hy with hy | hy
    · obtain ⟨⟨o1, o2⟩, o3⟩ := h.inner y hy
      refine ⟨⟨own_keep o1 fun b hb => ?_, own_keep o2 fun b hb => ?_⟩, fun b hb => hnew b ?_ (o3 b hb)⟩
      · exact (hg2.block b (by have := (o1.lt b hb).2; omega) (fun he => o3 b (.inl hb) he.symm)).trans (hb1.block b (o1.lt b hb).2)
      · exact (hg2.block b (by have := (o2.lt b hb).2; omega) (fun he => o3 b (.inr hb) he.symm)).trans (hb1.block b (o2.lt b hb).2)
      · rcases hb with hb | hb
        · have := (o1.lt b hb).2; omega
        · have := (o2.lt b hb).2; omega
    · rw [List.mem_singleton.1 hy]
      obtain ⟨o1, o2⟩ := h0
      have hne : ∀ b, w'.heap.size ≤ b → out.ownBlock ≠ some b := fun b hb he => by have := (h.own.lt b he).2; omega
      refine ⟨⟨own_more (own_keep o1 fun b hb => ?_) hz, own_more (own_keep o2 fun b hb => ?_) hz⟩, fun b hb => hnew b ?_ (hne b ?_)⟩
      · exact hg2.block b (o1.lt b hb).2 (fun he => hne b (o1.lt b hb).1 he.symm)
      · exact hg2.block b (o2.lt b hb).2 (fun he => hne b (o2.lt b hb).1 he.symm)
      · rcases hb with hb | hb
        · exact (o1.lt b hb).2
        · exact (o2.lt b hb).2
      · rcases hb with hb | hb
        · exact (o1.lt b hb).1
        · exact (o2.lt b hb).1

set_option maxRecDepth 100000 in
set_option maxHeartbeats 4000000 in
theorem copy_certso' (v : Value) (l : List Psp.Cert) (w : World) (P : Nat → Prop) (hx : RdC w P v l) (hl : l.length ≤ 1000) (hs : ∀ c ∈ l, c.b.length ≤ 1000 ∧ c.o.length ≤ 1000) :
    Calls Tryz.prog 19 #[v] w fun e w' => ∃ (A : Option Addr) (c : Nat) (xs : List CertV), e = .returned (.slice A l.length c) ∧ xs.map (·.c) = l ∧ w'.ownsRow w.heap.size 25 5 (.slice A l.length c) l.length (xs.flatMap cv) ∧ (∀ y ∈ xs, OwnC w' w.heap.size y ∧ ∀ b, y.b.ownBlock = some b ∨ y.o.ownBlock = some b → (Value.slice A l.length c).ownBlock ≠ some b) ∧ Below w.heap.size w w' := by
  obtain ⟨L, hL, hx, hxL⟩ := hx
  obtain ⟨n, hn⟩ : ∃ n, L.length = n := ⟨_, rfl⟩
  rw [hn] at hx
  have hln : l.length = n := by rw [← hL, List.length_map]; exact hn
  rw [hln] at hl ⊢
  obtain ⟨hxl, A, c, rfl, hx1, hx2, hxc⟩ := hx.parts
  have Hxc := Lib.hid hxc
  have Hn := Lib.hid hn
  have HL := Lib.hid hL
  have HxL := Lib.hid hxL
  have Hs := Lib.hid hs
  clear hxl hxc hn hx hln hL hxL hs
  go_enter Tryz.func19, Tryz.ntmps19
  go_wp2_with fail
  go_loopw [3, 4] (fun out i wr => ∃ (k : Nat) (xs : List CertV), i = .int .i64 (k : Int) ∧ k ≤ n ∧ xs.length = k ∧ Hid (xs.map (·.c) = l.take k) ∧ OInv w wr out xs) (fun _ i _ => n - (intOf i).toNat)
  case atStart => exact ⟨0, [], rfl, Nat.zero_le _, rfl, Lib.hid rfl, World.ownsRow_nil _ _ _ _, Below.refl _ _, fun _ h => by cases h⟩
  case round =>
    obtain ⟨k, xs, rfl, hk, hxk, Hxs, hI⟩ := hrel
    obtain ⟨A5, c5, e5, _, _, _⟩ := own_slice hI.own
    subst e5
    rw [hxk] at hI ⊢
    have HI := Lib.hid hI
    have Hxk := Lib.hid hxk
    by_cases hlt : k < n
    · obtain ⟨b1, o1, hA1, hP1, hb1, h1⟩ := Hxc.out (by omega)
      subst hA1
      have hkL : k < L.length := by have := Hn.out; omega
      have hsz := hI.be.size
      have r1 := range_keep (range_elem (f := cv) (k := 5) (fun _ => rfl) h1 hkL) (hI.be.block b1 hb1)
      have hok1 := (HxL.out _ (List.getElem_mem hkL)).keeps (Keeps.below (w := w) (w' := wr) hI.be)
      have hkl : k < l.length := by rw [← HL.out, List.length_map]; exact hkL
      have e1 : l[k] = L[k].c := by simp only [← HL.out, List.getElem_map]
      have hsm := Hs.out _ (List.getElem_mem hkl)
      have hst : l.take (k + 1) = l.take k ++ [L[k].c] := by rw [List.take_succ_eq_append_getElem hkl, e1]
      rw [e1] at hsm
      obtain ⟨t, ht⟩ : ∃ t, L[k] = t := ⟨_, rfl⟩
      rw [ht] at r1 hok1 hsm hst
      obtain ⟨⟨tv, ti, tq, tb, tw⟩, vb, vo⟩ := t
      obtain ⟨g1, g2⟩ := hok1
      simp only at g1 g2 hsm
      obtain ⟨_, Ab, cb, rfl, _, _, _⟩ := g1.parts
      obtain ⟨_, Ao, co, rfl, _, _, _⟩ := g2.parts
      have G1 := Lib.hid g1
      have G2 := Lib.hid g2
      have Hst := Lib.hid hst
      have x0 := r1 0 _ rfl
      have x1 := r1 1 _ rfl
      have x2 := r1 2 _ rfl
      have x3 := r1 3 _ rfl
      have x4 := r1 4 _ rfl
      simp only [Nat.add_zero, iv] at x0 x1 x2 x3 x4
      have kb0 : (0 : Int) ≤ (k : Int) := by omega
      have kb1 : (k : Int) < (n : Int) := by omega
      have hNw : wr.heap.size = wr.heap.size := rfl
      clear r1 g1 g2 h1 ht e1 hst hI hxk
      go_wp2_with fail
      have hb0 := alloc_below wr (.cells #[.int .i64 tv, .int .i64 ti, .int .i64 tq, .slice Ab tb.length cb, .slice Ao tw.length co] 25)
      have hc0 := heap_alloc_new wr (.cells #[.int .i64 tv, .int .i64 ti, .int .i64 tq, .slice Ab tb.length cb, .slice Ao tw.length co] 25)
      obtain ⟨W, hW⟩ : ∃ W, wr.alloc (.cells #[.int .i64 tv, .int .i64 ti, .int .i64 tq, .slice Ab tb.length cb, .slice Ao tw.length co] 25) = W := ⟨_, rfl⟩
      rw [hW] at hb0 hc0 ⊢
      have hWs : wr.heap.size < W.heap.size := (Array.getElem?_eq_some_iff.1 hc0).1
      have HB0 := Lib.hid hb0
      have HC0 := Lib.hid hc0
      clear hW hb0 x0 x1 x2 x3 x4
      have l3 := later_cell (w := W.drew) (show W.drew.cell? ⟨wr.heap.size, 3, none⟩ = some (.slice Ab tb.length cb) by rw [cell_of_row W.drew _ 3 _ _ _ hc0]; rfl)
      have l4 := later_cell (w := W.drew) (show W.drew.cell? ⟨wr.heap.size, 4, none⟩ = some (.slice Ao tw.length co) by rw [cell_of_row W.drew _ 4 _ _ _ hc0]; rfl)
      clear hc0
      refine wp_region_phases [(true, 0), (true, 1), (true, 3), (true, 4), (false, 2), (true, 6), (false, 5)] (by kernel_rfl) (by kernel_rfl) ?_
      simp only [phW, List.getElem?_cons_zero, List.getElem?_cons_succ, Option.toList, List.length_cons, List.length_nil, Nat.reduceAdd, List.drop_succ_cons, List.drop_zero]
      repeat (first | go_big_quiet_step (fail) | quiet_step (fail) | refine wpQuiet_nil ?_)
      go_wp2_with fail
      refine (copy_Ro _ tb W.drew _ (RdP.below G1.out HB0.out.drew) (by omega)).mono ?_
      rintro e w1 ⟨A1, c1, rfl, hr1, hb1⟩
      have HB1 := Lib.hid hb1
      have HR1 := Lib.hid hr1
      clear hr1 hb1
      go_wp2_with fail
      refine And.intro ⟨⟨w1, HB1.out⟩, rfl⟩ ?_
      repeat (first | go_big_quiet_step (fail) | quiet_step (fail) | refine wpQuiet_nil ?_)
      clear l3 l4
      go_wp2_with fail
      have hB01 : Below wr.heap.size wr w1 := HB0.out.drew.trans (HB1.out.mono (by show wr.heap.size ≤ W.heap.size; omega))
      refine (copy_Vo _ tw w1 _ (RdP.below G2.out hB01) (by omega)).mono ?_
      rintro e w2 ⟨A2, c2, rfl, hr2, hb2⟩
      have hz1 : W.heap.size ≤ w1.heap.size := HB1.out.size
      have HB2 := Lib.hid (Below.then hB01 hb2 hB01.size)
      have HBw := Lib.hid (Below.then HB1.out hb2 HB1.out.size)
      have HC2 := Lib.hid (obj_below (obj_below (W' := w1) (show W.drew.heap[wr.heap.size]? = _ from HC0.out) HB1.out (Nat.le_refl _)) hb2 (Nat.le_refl _))
      have HR12 := Lib.hid (own_below HR1.out hb2)
      have HR2 := Lib.hid hr2
      have hz2 := hb2.size
      clear hr2 hb2 hB01
      have y0 : w2.cell? ⟨wr.heap.size, 0, none⟩ = some (.int .i64 tv) := by rw [cell_of_row _ _ 0 _ _ _ HC2.out]; rfl
      have y1 : w2.cell? ⟨wr.heap.size, 1, none⟩ = some (.int .i64 ti) := by rw [cell_of_row _ _ 1 _ _ _ HC2.out]; rfl
      have y2 : w2.cell? ⟨wr.heap.size, 2, none⟩ = some (.int .i64 tq) := by rw [cell_of_row _ _ 2 _ _ _ HC2.out]; rfl
      have y3 : w2.cell? ⟨wr.heap.size, 3, none⟩ = some (.slice Ab tb.length cb) := by rw [cell_of_row _ _ 3 _ _ _ HC2.out]; rfl
      have y4 : w2.cell? ⟨wr.heap.size, 4, none⟩ = some (.slice Ao tw.length co) := by rw [cell_of_row _ _ 4 _ _ _ HC2.out]; rfl
      have z3 := frozen_of_row _ _ 3 _ _ HC2.out
      have z4 := frozen_of_row _ _ 4 _ _ HC2.out
      go_wp2_with fail
      refine And.intro ⟨⟨w2, HBw.out⟩, rfl⟩ ?_
      have hFp : Fp (fun b => b = wr.heap.size) w2 ((w2.setCell ⟨wr.heap.size, 3, none⟩ (.slice A1 tb.length c1)).setCell ⟨wr.heap.size, 4, none⟩ (.slice A2 tw.length c2)) := ((Fp.refl (fun b => b = wr.heap.size) w2).setCell (p := ⟨wr.heap.size, 3, none⟩) (Or.inl (show wr.heap.size = wr.heap.size from rfl)) _).setCell (p := ⟨wr.heap.size, 4, none⟩) (Or.inl (show wr.heap.size = wr.heap.size from rfl)) _
      have hc3 : ((w2.setCell ⟨wr.heap.size, 3, none⟩ (.slice A1 tb.length c1)).setCell ⟨wr.heap.size, 4, none⟩ (.slice A2 tw.length c2)).heap[wr.heap.size]? = some (.cells #[.int .i64 tv, .int .i64 ti, .int .i64 tq, .slice A1 tb.length c1, .slice A2 tw.length c2] 25 (0, 0)) := by
        rw [heap_setCell_same _ _ 4 _ _ _ (heap_setCell_same w2 wr.heap.size 3 _ _ _ HC2.out)]; rfl
      go_upto_region 7 with fail
      clear y0 y1 y2 y3 y4 z3 z4
      obtain ⟨W3, hW3⟩ : ∃ W3, (w2.setCell ⟨wr.heap.size, 3, none⟩ (.slice A1 tb.length c1)).setCell ⟨wr.heap.size, 4, none⟩ (.slice A2 tw.length c2) = W3 := ⟨_, rfl⟩
      rw [hW3] at hFp hc3 ⊢
      clear hW3
      have hz3 := hFp.size
      have hB3 := HB2.out.trans (hFp.to_below (B := wr.heap.size) HB2.out.size fun j hj _ => by omega)
      have hT : OwnC W3 wr.heap.size (⟨⟨tv, ti, tq, tb, tw⟩, .slice A1 tb.length c1, .slice A2 tw.length c2⟩ : CertV) :=
        ⟨own_more (own_keep HR12.out fun b hb => hFp.block b (HR12.out.lt b hb).2 (by have h : W.heap.size ≤ b := (HR12.out.lt b hb).1; omega)) (show wr.heap.size ≤ W.heap.size by omega), own_more (own_keep HR2.out fun b hb => hFp.block b (HR2.out.lt b hb).2 (by have h : w1.heap.size ≤ b := (HR2.out.lt b hb).1; omega)) (show wr.heap.size ≤ w1.heap.size by omega)⟩
      have hT1 := cv_one (OwnC.ok hT)
      have HTT := Lib.hid hT
      have HT1 := Lib.hid hT1
      have Hown3 := Lib.hid (own_below HI.out.own hB3)
      have HB3 := Lib.hid hB3
      have y0 : W3.cell? ⟨wr.heap.size, 0, none⟩ = some (.int .i64 tv) := by rw [cell_of_row _ _ 0 _ _ _ hc3]; rfl
      have y1 : W3.cell? ⟨wr.heap.size, 1, none⟩ = some (.int .i64 ti) := by rw [cell_of_row _ _ 1 _ _ _ hc3]; rfl
      have y2 : W3.cell? ⟨wr.heap.size, 2, none⟩ = some (.int .i64 tq) := by rw [cell_of_row _ _ 2 _ _ _ hc3]; rfl
      have y3 : W3.cell? ⟨wr.heap.size, 3, none⟩ = some (.slice A1 tb.length c1) := by rw [cell_of_row _ _ 3 _ _ _ hc3]; rfl
      have y4 : W3.cell? ⟨wr.heap.size, 4, none⟩ = some (.slice A2 tw.length c2) := by rw [cell_of_row _ _ 4 _ _ _ hc3]; rfl
      have hwz := HI.out.be.size
      clear hFp hB3 hT hT1 HC2 HR12 HR2 HR1 HB1 HB0 HBw hc3
      go_wp2_with (at_builtin; refine wpList_app1 certE rfl _ _ rfl w.heap.size (.slice A5 k c5) k (xs.flatMap cv) rfl (by have h := Hown3.out; rw [Hxk.out] at h; exact h) _ rfl rfl (by exact HT1.out) (by omega) (by decide) (by omega) ?_; intro v' w3 hown3 hg3 _ hv3; have HN := Lib.hid (OInv.next HI.out HB3.out HTT.out (by rw [Hxk.out]; exact hown3) hg3 hv3); clear hown3 hg3 hv3; obtain ⟨A6, c6, e6, _, _, _⟩ := own_slice HN.out.own; have E6 := Lib.hid e6; clear e6)
      refine ⟨⟨k + 1, xs ++ [(⟨⟨tv, ti, tq, tb, tw⟩, .slice A1 tb.length c1, .slice A2 tw.length c2⟩ : CertV)], by go_num, by omega, by rw [List.length_append, Hxk.out]; rfl, Lib.hid (by rw [List.map_append, Hxs.out, Hst.out]; rfl), HN.out⟩, ?_⟩
      simp [intOf]; omega
    · have hkn : k = n := by omega
      subst hkn
      have hfin : xs.map (·.c) = l := by rw [Hxs.out, List.take_of_length_le (by rw [← HL.out, List.length_map, Hn.out]; exact Nat.le_refl _)]
      have Hfin := Lib.hid hfin
      have HOw := Lib.hid (show wr.ownsRow w.heap.size 25 5 (.slice A5 k c5) k (xs.flatMap cv) by have h := HI.out.own; rw [Hxk.out] at h; exact h)
      clear hfin hI hxk
      go_wp2_with fail
      go_ret
      exact ⟨_, _, xs, rfl, Hfin.out, HOw.out, fun y hy => HI.out.inner y hy, HI.out.be⟩

end Go.Proofs.YtadpkjgjciodnaaGreat
