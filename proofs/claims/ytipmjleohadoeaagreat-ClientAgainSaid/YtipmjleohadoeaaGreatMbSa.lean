/- The walk of msgs.Body. -/
import Derived.Test.YtipmjleohadoeaaGreatBxSa
import Derived.Test.YtipmjleohadoeaaGreatGhSa
import Derived.Deep.CutBlock
namespace Go.Proofs.YtipmjleohadoeaaGreat
open Go.RowKit
set_option linter.unusedVariables false

def five (m : Psp.Msg) : List Int := [m.k, m.f, m.v, m.i, m.q]
def fiveE (m : Psp.Msg) (k : Nat) : List UInt8 := ((five m).take k).flatMap fun n => res (Psp.encN n) (Psp.okN n)
def fiveB (m : Psp.Msg) (k : Nat) : Bool := ((five m).take k).all Psp.okN
theorem five_step {m : Psp.Msg} {k : Nat} {n : Int} (h : (five m)[k]? = some n) : fiveE m k ++ res (Psp.encN n) (Psp.okN n) = fiveE m (k + 1) ∧ (fiveB m k && Psp.okN n) = fiveB m (k + 1) := by
  unfold fiveE fiveB
  rw [List.take_add_one, h]
  simp [List.flatMap_append]
theorem five_len (m : Psp.Msg) (k : Nat) (hk : k ≤ 5) : (fiveE m k).length ≤ 30 := by
  have h := Psp.flat_bd (fun n => res (Psp.encN n) (Psp.okN n)) (fun _ => true) 6 (fun x _ => by
    unfold res
    split
    · rename_i h; exact Psp.lenN h
    · simp) ((five m).take k) (by simp)
  unfold fiveE
  rw [List.length_take] at h
  have : (five m).length = 5 := rfl
  omega
theorem und5 : Tryz.prog.underlying 173 = some (.array 5 3) := by kernel_rfl
theorem isAgg_int : ∀ w, (isAgg 3).run Tryz.prog w = .ok false w := fun _ => by kernel_rfl
theorem res6 (n : Int) : (res (Psp.encN n) (Psp.okN n)).length ≤ 6 := by
  unfold res
  split
  · rename_i h; exact Psp.lenN h
  · simp

theorem fiveE5 {m : Psp.Msg} (h : fiveB m 5 = true) : fiveE m 5 = Psp.encN m.k ++ (Psp.encN m.f ++ (Psp.encN m.v ++ (Psp.encN m.i ++ Psp.encN m.q))) := by
  have h' : (Psp.okN m.k && (Psp.okN m.f && (Psp.okN m.v && (Psp.okN m.i && Psp.okN m.q)))) = true := by simpa [fiveB, five] using h
  simp only [Bool.and_eq_true] at h'
  obtain ⟨h1, h2, h3, h4, h5⟩ := h'
  simp [fiveE, five, h1, h2, h3, h4, h5, res]
def allG (m : Psp.Msg) : Bool := fiveB m 5 && Psp.okS m.r && Psp.okL Psp.okR m.b && Psp.okL Psp.okV m.o && Psp.okL Psp.okC m.c && Psp.okL Psp.okP m.p
def allE (m : Psp.Msg) : List UInt8 := fiveE m 5 ++ res (Psp.encS m.r) (Psp.okS m.r) ++ res (Psp.encL Psp.encR m.b) (Psp.okL Psp.okR m.b) ++ res (Psp.encL Psp.encV m.o) (Psp.okL Psp.okV m.o) ++ res (Psp.encL Psp.encC m.c) (Psp.okL Psp.okC m.c) ++ res (Psp.encL Psp.encP m.p) (Psp.okL Psp.okP m.p)
theorem allG_eq (m : Psp.Msg) : allG m = Psp.okM m := by
  have h : fiveB m 5 = (Psp.okN m.k && (Psp.okN m.f && (Psp.okN m.v && (Psp.okN m.i && Psp.okN m.q)))) := by simp [fiveB, five]
  unfold allG Psp.okM
  rw [h]
  simp only [Bool.and_assoc]
theorem allE_eq {m : Psp.Msg} (h : allG m = true) : allE m = Psp.encM m := by
  unfold allG at h
  simp only [Bool.and_eq_true] at h
  obtain ⟨⟨⟨⟨⟨h1, h2⟩, h3⟩, h4⟩, h5⟩, h6⟩ := h
  unfold allE Psp.encM
  rw [fiveE5 h1, h2, h3, h4, h5, h6]
  simp only [res_yes, List.append_assoc]
theorem resS (n : Int) : (res (Psp.encS n) (Psp.okS n)).length ≤ 6 := by
  unfold res
  split
  · exact (Psp.encS_len n).2
  · simp

set_option maxRecDepth 100000 in
set_option maxHeartbeats 4000000 in
theorem body_m (m : Psp.Msg) (vb vo vc vp : Value) (w : World) (hx : MsgOk w (fun b => b < w.heap.size) ⟨m, vb, vo, vc, vp⟩) :
    Calls Tryz.prog 80 #[.agg #[.int .i64 m.k, .int .i64 m.f, .int .i64 m.v, .int .i64 m.i, .int .i64 m.q, .int .i64 m.r, vb, vo, vc, vp]] w (Bytes (Psp.encM m) (Psp.okB m) w) := by
  have HX := Lib.hid hx
  have o0 : vb.oneCell' = true := RdP.one hx.1
  have o1 : vo.oneCell' = true := RdP.one hx.2.1
  have o2 : vc.oneCell' = true := hx.2.2.1.one
  have o3 : vp.oneCell' = true := hx.2.2.2.one
  clear hx
  have hst : Wc w (((w.alloc (.cells #[.int .i64 m.k, .int .i64 m.f, .int .i64 m.v, .int .i64 m.i, .int .i64 m.q, .int .i64 m.r, vb, vo, vc, vp] 56)).alloc (.cells #[.slice none 0 0] 49)).alloc (.cells #[.bool true] 4)) w.heap.size #[.int .i64 m.k, .int .i64 m.f, .int .i64 m.v, .int .i64 m.i, .int .i64 m.q, .int .i64 m.r, vb, vo, vc, vp] (.slice none 0 0) [] true := by
    refine ⟨?_, ?_, ?_, World.ownsRow_nil _ _ _ _, ?_, rfl⟩
    · rw [(alloc_below _ _).block _ (by simp; omega), (alloc_below _ _).block _ (by simp)]; exact heap_alloc_new w _
    · rw [(alloc_below _ _).block _ (by simp)]
      have := heap_alloc_new (w.alloc (.cells #[.int .i64 m.k, .int .i64 m.f, .int .i64 m.v, .int .i64 m.i, .int .i64 m.q, .int .i64 m.r, vb, vo, vc, vp] 56)) (.cells #[.slice none 0 0] 49)
      simpa using this
    · have := heap_alloc_new ((w.alloc (.cells #[.int .i64 m.k, .int .i64 m.f, .int .i64 m.v, .int .i64 m.i, .int .i64 m.q, .int .i64 m.r, vb, vo, vc, vp] 56)).alloc (.cells #[.slice none 0 0] 49)) (.cells #[.bool true] 4)
      simpa using this
    · exact ((alloc_below w _).trans ((alloc_below _ _).mono (by simp))).trans ((alloc_below _ _).mono (by simp; omega))
  have Hst := Lib.hid hst
  clear hst
  go_enter Tryz.func80, Tryz.ntmps80
  go_wp2_with fail
  go_loopw [21] (fun i wr => ∃ (k : Nat) (v' : Value), i = .int .i64 (k : Int) ∧ k ≤ 5 ∧ Hid (Wc w wr w.heap.size #[.int .i64 m.k, .int .i64 m.f, .int .i64 m.v, .int .i64 m.i, .int .i64 m.q, .int .i64 m.r, vb, vo, vc, vp] v' (fiveE m k) (fiveB m k))) (fun i _ => 5 - (intOf i).toNat)
  case atStart => exact ⟨0, _, rfl, by omega, Hst⟩
  case round =>
    obtain ⟨k, v', rfl, hk, HI⟩ := hrel
    clear Hst
    have hlen := five_len m k hk
    by_cases h5 : k < 5
    · obtain ⟨n, hn⟩ : ∃ n, (five m)[k]? = some n := ⟨_, List.getElem?_eq_getElem (by show k < 5; exact h5)⟩
      obtain ⟨s1, s2⟩ := five_step hn
      have S1 := Lib.hid s1
      have S2 := Lib.hid s2
      have h6 := res6 n
      have Hn := Lib.hid hn
      clear s1 s2 hn
      have hv : (#[Value.int .i64 m.k, .int .i64 m.f, .int .i64 m.v, .int .i64 m.i, .int .i64 m.q] : Array Value)[k]? = some (.int .i64 n) := by
        have := Hn.out
        rcases (show k = 0 ∨ k = 1 ∨ k = 2 ∨ k = 3 ∨ k = 4 by omega) with rfl | rfl | rfl | rfl | rfl <;> (simp [five] at this; subst this; rfl)
      go_wp2_with (refine wpList_index_arr rfl 173 _ _ rfl 5 _ und5 isAgg_int (by kernel_rfl) _ _ k rfl rfl h5 _ hv ?_)
      refine (num_any n wr).mono ?_
      intro e w1 h
      obtain ⟨b, hb⟩ : ∃ b, res (Psp.encN n) (Psp.okN n) = b := ⟨_, rfl⟩
      obtain ⟨o, ho⟩ : ∃ o, Psp.okN n = o := ⟨_, rfl⟩
      obtain ⟨A, c, rfl, hp, hbel⟩ := Bytes.rdb h hb ho
      rw [hb] at S1 h6
      rw [ho] at S2
      have hlt := HI.out.lt
      have HI1 := Lib.hid (HI.out.below hbel)
      have HP := Lib.hid (hp.mono (P' := fun j => w.heap.size + 1 + 1 < j) fun j _ (hj : wr.heap.size ≤ j) => by omega)
      clear h hb ho hbel hp HI hv Hn
      go_wp2_with fail
      refine (gather w w1 w.heap.size _ v' (fiveE m k) (fiveB m k) _ b.length b o HI1.out HP.out (by omega)).mono ?_
      rintro e w2 ⟨rfl, v2, h2⟩
      have H2 := Lib.hid h2
      rw [S1.out, S2.out] at H2
      clear h2
      go_wp2_with fail
      go_roundw
      case rel => exact ⟨k + 1, v2, by go_num, by omega, H2⟩
      case measure => simp [intOf]; omega
    · obtain rfl : k = 5 := by omega
      obtain ⟨out, hout⟩ : ∃ out, fiveE m 5 = out := ⟨_, rfl⟩
      obtain ⟨good, hgood⟩ : ∃ good, fiveB m 5 = good := ⟨_, rfl⟩
      rw [hout] at HI hlen
      rw [hgood] at HI
      have Hou := Lib.hid hout
      have Hgo := Lib.hid hgood
      clear hout hgood h5 hk
      have x5 := HI.out.msg (j := 5) rfl
      go_wp2_with fail
      refine (sgn_any m.r wr).mono ?_
      intro e wa0 h
      obtain ⟨b0, hb0⟩ : ∃ b, res (Psp.encS m.r) (Psp.okS m.r) = b := ⟨_, rfl⟩
      obtain ⟨o0, ho0⟩ : ∃ o, Psp.okS m.r = o := ⟨_, rfl⟩
      obtain ⟨A0, c0, rfl, hp, hbel⟩ := Bytes.rdb h hb0 ho0
      have h6 : b0.length ≤ 6 := by rw [← hb0]; exact resS m.r
      have hlt := HI.out.lt
      have HI1 := Lib.hid (HI.out.below hbel)
      have HP := Lib.hid (hp.mono (P' := fun j => w.heap.size + 1 + 1 < j) fun j _ (hj : wr.heap.size ≤ j) => by omega)
      have Hb0 := Lib.hid hb0
      have Ho0 := Lib.hid ho0
      clear h hbel hp HI hb0 ho0 x5 hlt
      go_wp2_with fail
      refine (gather w wa0 w.heap.size _ v' out good _ b0.length b0 o0 HI1.out HP.out (by omega)).mono ?_
      rintro e wb0 ⟨rfl, v0, h2⟩
      obtain ⟨out0, hout⟩ : ∃ x, out ++ b0 = x := ⟨_, rfl⟩
      obtain ⟨good0, hgood⟩ : ∃ x, (good && o0) = x := ⟨_, rfl⟩
      have hlen0 : out0.length ≤ 36 := by rw [← hout, List.length_append]; omega
      rw [hout, hgood] at h2
      have HI := Lib.hid h2
      have Hou0 := Lib.hid hout
      have Hgo0 := Lib.hid hgood
      clear h2 hout hgood HI1 HP h6 hlen
      have x6 := HI.out.msg (j := 6) rfl
      go_wp2_with fail
      refine (pk_batch m.b vb wb0 (HX.out.keeps (Keeps.on HI.out.bel)).1).mono ?_
      intro e wa1 h
      obtain ⟨b1, hb1⟩ : ∃ b, res (Psp.encL Psp.encR m.b) (Psp.okL Psp.okR m.b) = b := ⟨_, rfl⟩
      obtain ⟨o1, ho1⟩ : ∃ o, Psp.okL Psp.okR m.b = o := ⟨_, rfl⟩
      obtain ⟨A1, c1, rfl, hp, hbel⟩ := Bytes.rdb h hb1 ho1
      have h6 : b1.length ≤ 10000 := by rw [← hb1]; exact Psp.resR m.b
      have hlt := HI.out.lt
      have HI1 := Lib.hid (HI.out.below hbel)
      have HP := Lib.hid (hp.mono (P' := fun j => w.heap.size + 1 + 1 < j) fun j _ (hj : wb0.heap.size ≤ j) => by omega)
      have Hb1 := Lib.hid hb1
      have Ho1 := Lib.hid ho1
      clear h hbel hp HI hb1 ho1 x6 hlt
      go_wp2_with fail
      refine (gather w wa1 w.heap.size _ v0 out0 good0 _ b1.length b1 o1 HI1.out HP.out (by omega)).mono ?_
      rintro e wb1 ⟨rfl, v1, h2⟩
      obtain ⟨out1, hout⟩ : ∃ x, out0 ++ b1 = x := ⟨_, rfl⟩
      obtain ⟨good1, hgood⟩ : ∃ x, (good0 && o1) = x := ⟨_, rfl⟩
      have hlen1 : out1.length ≤ 10036 := by rw [← hout, List.length_append]; omega
      rw [hout, hgood] at h2
      have HI := Lib.hid h2
      have Hou1 := Lib.hid hout
      have Hgo1 := Lib.hid hgood
      clear h2 hout hgood HI1 HP h6 hlen0
      have x7 := HI.out.msg (j := 7) rfl
      go_wp2_with fail
      refine (pk_votes m.o vo wb1 (HX.out.keeps (Keeps.on HI.out.bel)).2.1).mono ?_
      intro e wa2 h
      obtain ⟨b2, hb2⟩ : ∃ b, res (Psp.encL Psp.encV m.o) (Psp.okL Psp.okV m.o) = b := ⟨_, rfl⟩
      obtain ⟨o2, ho2⟩ : ∃ o, Psp.okL Psp.okV m.o = o := ⟨_, rfl⟩
      obtain ⟨A2, c2, rfl, hp, hbel⟩ := Bytes.rdb h hb2 ho2
      have h6 : b2.length ≤ 10000 := by rw [← hb2]; exact Psp.resV m.o
      have hlt := HI.out.lt
      have HI1 := Lib.hid (HI.out.below hbel)
      have HP := Lib.hid (hp.mono (P' := fun j => w.heap.size + 1 + 1 < j) fun j _ (hj : wb1.heap.size ≤ j) => by omega)
      have Hb2 := Lib.hid hb2
      have Ho2 := Lib.hid ho2
      clear h hbel hp HI hb2 ho2 x7 hlt
      go_wp2_with fail
      refine (gather w wa2 w.heap.size _ v1 out1 good1 _ b2.length b2 o2 HI1.out HP.out (by omega)).mono ?_
      rintro e wb2 ⟨rfl, v2, h2⟩
      obtain ⟨out2, hout⟩ : ∃ x, out1 ++ b2 = x := ⟨_, rfl⟩
      obtain ⟨good2, hgood⟩ : ∃ x, (good1 && o2) = x := ⟨_, rfl⟩
      have hlen2 : out2.length ≤ 20036 := by rw [← hout, List.length_append]; omega
      rw [hout, hgood] at h2
      have HI := Lib.hid h2
      have Hou2 := Lib.hid hout
      have Hgo2 := Lib.hid hgood
      clear h2 hout hgood HI1 HP h6 hlen1
      have x8 := HI.out.msg (j := 8) rfl
      go_wp2_with fail
      refine (pk_certs m.c vc wb2 (HX.out.keeps (Keeps.on HI.out.bel)).2.2.1).mono ?_
      intro e wa3 h
      obtain ⟨b3, hb3⟩ : ∃ b, res (Psp.encL Psp.encC m.c) (Psp.okL Psp.okC m.c) = b := ⟨_, rfl⟩
      obtain ⟨o3, ho3⟩ : ∃ o, Psp.okL Psp.okC m.c = o := ⟨_, rfl⟩
      obtain ⟨A3, c3, rfl, hp, hbel⟩ := Bytes.rdb h hb3 ho3
      have h6 : b3.length ≤ 10000000 := by rw [← hb3]; exact Psp.resC m.c
      have hlt := HI.out.lt
      have HI1 := Lib.hid (HI.out.below hbel)
      have HP := Lib.hid (hp.mono (P' := fun j => w.heap.size + 1 + 1 < j) fun j _ (hj : wb2.heap.size ≤ j) => by omega)
      have Hb3 := Lib.hid hb3
      have Ho3 := Lib.hid ho3
      clear h hbel hp HI hb3 ho3 x8 hlt
      go_wp2_with fail
      refine (gather w wa3 w.heap.size _ v2 out2 good2 _ b3.length b3 o3 HI1.out HP.out (by omega)).mono ?_
      rintro e wb3 ⟨rfl, v3, h2⟩
      obtain ⟨out3, hout⟩ : ∃ x, out2 ++ b3 = x := ⟨_, rfl⟩
      obtain ⟨good3, hgood⟩ : ∃ x, (good2 && o3) = x := ⟨_, rfl⟩
      have hlen3 : out3.length ≤ 10020036 := by rw [← hout, List.length_append]; omega
      rw [hout, hgood] at h2
      have HI := Lib.hid h2
      have Hou3 := Lib.hid hout
      have Hgo3 := Lib.hid hgood
      clear h2 hout hgood HI1 HP h6 hlen2
      have x9 := HI.out.msg (j := 9) rfl
      go_wp2_with fail
      refine (pk_parts m.p vp wb3 (HX.out.keeps (Keeps.on HI.out.bel)).2.2.2).mono ?_
      intro e wa4 h
      obtain ⟨b4, hb4⟩ : ∃ b, res (Psp.encL Psp.encP m.p) (Psp.okL Psp.okP m.p) = b := ⟨_, rfl⟩
      obtain ⟨o4, ho4⟩ : ∃ o, Psp.okL Psp.okP m.p = o := ⟨_, rfl⟩
      obtain ⟨A4, c4, rfl, hp, hbel⟩ := Bytes.rdb h hb4 ho4
      have h6 : b4.length ≤ 1000000000 := by rw [← hb4]; exact Psp.resP m.p
      have hlt := HI.out.lt
      have HI1 := Lib.hid (HI.out.below hbel)
      have HP := Lib.hid (hp.mono (P' := fun j => w.heap.size + 1 + 1 < j) fun j _ (hj : wb3.heap.size ≤ j) => by omega)
      have Hb4 := Lib.hid hb4
      have Ho4 := Lib.hid ho4
      clear h hbel hp HI hb4 ho4 x9 hlt
      go_wp2_with fail
      refine (gather w wa4 w.heap.size _ v3 out3 good3 _ b4.length b4 o4 HI1.out HP.out (by omega)).mono ?_
      rintro e wb4 ⟨rfl, v4, h2⟩
      obtain ⟨out4, hout⟩ : ∃ x, out3 ++ b4 = x := ⟨_, rfl⟩
      obtain ⟨good4, hgood⟩ : ∃ x, (good3 && o4) = x := ⟨_, rfl⟩
      have hlen4 : out4.length ≤ 1010020036 := by rw [← hout, List.length_append]; omega
      rw [hout, hgood] at h2
      have HI := Lib.hid h2
      have Hou4 := Lib.hid hout
      have Hgo4 := Lib.hid hgood
      clear h2 hout hgood HI1 HP h6 hlen3
      have HE : Hid (out4 = allE m) := Lib.hid (by unfold allE; rw [Hb0.out, Hb1.out, Hb2.out, Hb3.out, Hb4.out, Hou.out, Hou0.out, Hou1.out, Hou2.out, Hou3.out, Hou4.out])
      have HG : Hid (good4 = allG m) := Lib.hid (by unfold allG; rw [Ho0.out, Ho1.out, Ho2.out, Ho3.out, Ho4.out, Hgo.out, Hgo0.out, Hgo1.out, Hgo2.out, Hgo3.out, Hgo4.out])
      obtain ⟨k0, k1, _, _⟩ := HI.out.cells
      obtain ⟨A, c, rfl, hc1, hc2, _⟩ := own_slice HI.out.own
      have Hown := Lib.hid (own_more HI.out.own (base' := w.heap.size) (by omega))
      have Hbel := Lib.hid HI.out.bel
      clear HI Hb0 Hb1 Hb2 Hb3 Hb4 Ho0 Ho1 Ho2 Ho3 Ho4 Hou Hou0 Hou1 Hou2 Hou3 Hou4 Hgo Hgo0 Hgo1 Hgo2 Hgo3 Hgo4
      cases good4 with
      | false =>
        have hok : Psp.okB m = false := by unfold Psp.okB; rw [← allG_eq, ← HG.out]; rfl
        have Hok := Lib.hid hok
        clear hok
        go_wp2_with fail
        go_ret2
        exact ⟨_, ret_pair _ Hok.out, by rw [Hok.out]; exact World.ownsRow_nil _ _ _ _, Hbel.out⟩
      | true =>
        have he := HE.out.trans (allE_eq HG.out.symm)
        have hm : Psp.okM m = true := by rw [← allG_eq]; exact HG.out.symm
        subst he
        by_cases hbig : (Psp.encM m).length ≤ 65536
        · have hok : Psp.okB m = true := by unfold Psp.okB; rw [hm, decide_eq_true hbig]; rfl
          have Hok := Lib.hid hok
          have d1 : decide (((Psp.encM m).length : Int) > 65536) = false := by simp; omega
          clear hok hm HE HG
          go_wp2_with fail
          go_ret2
          exact ⟨_, ret_pair _ Hok.out, by rw [Hok.out]; exact Hown.out, Hbel.out⟩
        · have hok : Psp.okB m = false := by unfold Psp.okB; rw [decide_eq_false hbig, Bool.and_false]
          have Hok := Lib.hid hok
          have d1 : decide (((Psp.encM m).length : Int) > 65536) = true := by simp; omega
          clear hok hm HE HG
          go_wp2_with fail
          go_ret2
          exact ⟨_, ret_pair _ Hok.out, by rw [Hok.out]; exact World.ownsRow_nil _ _ _ _, Hbel.out⟩
end Go.Proofs.YtipmjleohadoeaaGreat
