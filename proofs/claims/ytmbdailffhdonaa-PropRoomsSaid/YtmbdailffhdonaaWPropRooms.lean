/- The walk of PropRooms. -/
import Derived.Test.YtmbdailffhdonaaPutR
import Derived.Test.YtmbdailffhdonaaOpen
namespace Go.Proofs.Ytmbdailffhdonaa.propRooms
open Go.RowKit
set_option linter.unusedVariables false

theorem req_cells {w : World} {b o : Nat} {l : List Psp.Req} (h : Lies w b o (l.flatMap rq)) {k : Nat} (hk : k < l.length) : ∀ j v, (rq l[k])[j]? = some v → w.cell? ⟨b, o + k * 6 + j, none⟩ = some v := by
  intro j v hv
  have hj : j < 6 := (List.getElem?_eq_some_iff.1 hv).1
  have h1 := flat_get (f := rq) (k := 6) (fun _ => rfl) l k j hj
  rw [List.getElem?_eq_getElem hk] at h1
  rw [Nat.add_assoc]
  exact h _ v (by rw [h1]; exact hv)
theorem drop_four {l : List Psp.Told} (hc : Psp.cntC (Psp.reqsOf l) 2 = 4) (ht : ∀ r ∈ Psp.reqsOf l, r.c = 2 → r.t ≤ 4) : l.length - (dropOf 2 4 l).length = 4 := by
  have h : ∀ l : List Psp.Told, (∀ r ∈ Psp.reqsOf l, r.c = 2 → r.t ≤ 4) → l.length = (dropOf 2 4 l).length + Psp.cntC (Psp.reqsOf l) 2 := by
    intro l
    induction l with
    | nil => intro _; rfl
    | cons t l ih =>
      intro h
      have i1 := ih fun r hr => h r (by unfold Psp.reqsOf at *; simp at hr ⊢; exact Or.inr hr)
      have i2 := h t.r (by simp [Psp.reqsOf])
      unfold dropOf Psp.cntC Psp.reqsOf at *
      rw [List.filter_cons, List.map_cons, List.countP_cons, List.length_cons]
      by_cases e : t.r.c = 2
      · have : keeps 2 4 t = false := by unfold keeps; rw [decide_eq_false (by simpa using e), decide_eq_false (by have := i2 e; omega)]; rfl
        rw [this, if_neg (by simp), if_pos (by simpa using e)]; omega
      · have : keeps 2 4 t = true := by unfold keeps; rw [decide_eq_true (by simpa using e)]; rfl
        rw [this, if_pos rfl, if_neg (by simpa using e), List.length_cons]; omega
  have := h l ht
  omega

structure TInv (w0 wr : World) (f : Int) (g bx : Nat) (op : Int × Int × Int) (l : List Psp.Told) (n : Nat) : Prop where
  tab : ∃ S, Tab wr S g f 3 l ∧ ∀ k, S k → w0.heap.size ≤ k ∧ k ≠ bx
  box : wr.rangeAt bx 0 [iv op.1, iv op.2.1, iv op.2.2]
  bel : Below w0.heap.size w0 wr
  bxlo : w0.heap.size ≤ bx
  bxlt : bx < wr.heap.size
  few : Psp.Few l
  len : l.length ≤ n
theorem TInv.put {w0 wr w2 w3 : World} {f : Int} {g bx : Nat} {op : Int × Int × Int} {l : List Psp.Told} {n : Nat} (h : TInv w0 wr f g bx op l n) {S : Nat → Prop} (hw2 : Below wr.heap.size wr w2) (hS : ∀ k, S k → w0.heap.size ≤ k ∧ k ≠ bx) (hF : Fp S w2 w3) (r : Psp.Req) (m c : Int)
    (hT : Tab w3 (fun k => S k ∨ (w2.heap.size ≤ k ∧ k < w3.heap.size)) g f 3 (Psp.putP f 3 l r m c).2) : TInv w0 w3 f g bx op (Psp.putP f 3 l r m c).2 (n + 1) := by
  have h1 := h.bxlt
  have h3 := hw2.size
  have h4 := h.bel.size
  have h5 := hF.size
  refine ⟨⟨_, hT, fun k hk => ?_⟩, range_keep (range_keep h.box (hw2.block _ h1)) (hF.block _ (by omega) fun hk => (hS _ hk).2 rfl), (h.bel.trans (hw2.mono h4)).trans (hF.to_below (by omega) fun k _ hk => (hS k hk).1), h.bxlo, by omega, h.few.put r m c, ?_⟩
  · rcases hk with hk | hk
    · exact hS k hk
    · have := h.bxlo; exact ⟨by omega, by omega⟩
  · have := Psp.put_len_le f 3 l r m c; have := h.len; omega

set_option maxRecDepth 100000 in
set_option maxHeartbeats 4000000 in
theorem walk (a0 : Int) (v : Value) (l : List Psp.Req) (op : Int × Int × Int) (w : World) (b0 : isI64 a0) (hr : Rd w w.heap.size 6 v l.length (l.flatMap rq)) (hl : ∀ r ∈ l, wfReq r) (b2 : isI64 op.1 ∧ isI64 op.2.1 ∧ isI64 op.2.2) :
    Calls Try.prog 4 #[.int .i64 a0, v, .agg #[.int .i64 op.1, .int .i64 op.2.1, .int .i64 op.2.2]] w fun e w' => e = .returned (.bool true) ∧ Below w.heap.size w w' := by
  obtain ⟨c0, d0⟩ := b0
  have x0 := Psp.within_lo a0 4
  have x1 := Psp.within_hi a0 4 (by omega)
  obtain ⟨x, hx⟩ : ∃ x, Psp.within a0 4 = x := ⟨_, rfl⟩
  rw [hx] at x0 x1
  obtain ⟨f, hf⟩ : ∃ f, 1 + x = f := ⟨_, rfl⟩
  have f1 : 1 ≤ f := by omega
  have f2 : f ≤ 4 := by omega
  have hn' : Psp.nodes f = 3 * f + 1 := by unfold Psp.nodes; rw [if_pos ⟨f1, f2⟩]
  have Hn := Lib.hid hn'
  obtain ⟨hrl, A, cp, rfl, hc1, hc2, hcell⟩ := hr
  obtain ⟨len, hlen⟩ : ∃ len, l.length = len := ⟨_, rfl⟩
  rw [hlen] at hcell hc1 ⊢
  unfold maxLen at hc2
  have Hlen := Lib.hid hlen
  have Hl := Lib.hid hl
  have Hcell := Lib.hid hcell
  obtain ⟨N, hN⟩ : ∃ N, min len 60 = N := ⟨_, rfl⟩
  have N1 : N ≤ len := by omega
  have N2 : N ≤ 60 := by omega
  have HN := Lib.hid hN
  clear hlen hl hrl hcell hN hn' b2
  go_enter Try.func4, Try.ntmps4
  go_upto_block 0 with (first | (go_at_call 9; refine (within_any _ _ _ (by omega) (by omega) (by omega) (by omega)).mono ?_; rintro e w' ⟨rfl, rfl⟩) | (go_at_call 10; refine (new_any _ 3 _ (by omega) (by omega) (by omega) (by omega)).mono ?_; rintro e w1 ⟨g, rfl, hT, hg, hb1⟩; have HT1 := Lib.hid hT; have Hb1 := Lib.hid hb1; have Hg := Lib.hid hg; have hgl := hT.lt g rfl; clear hT hb1 hg))
  go_cut [9] from 29 to 52 (fun i wx => ∃ tl, TInv w wx f g w.heap.size op tl 60 ∧ ∀ r ∈ Psp.reqsOf tl, 0 ≤ r.c ∧ r.c < 2)
  case first =>
    go_wp2_with fail
    go_loopw [9] (fun i wr => ∃ (k : Nat) (tl : List Psp.Told), i = .int .i64 (k : Int) ∧ k ≤ N ∧ TInv w wr f g w.heap.size op tl k ∧ ∀ r ∈ Psp.reqsOf tl, 0 ≤ r.c ∧ r.c < 2) (fun i _ => 60 - (intOf i).toNat)
    case atStart =>
      have hs1 := Hb1.out.size
      have hg' := Hg.out
      simp at hs1 hg'
      refine ⟨0, [], rfl, Nat.zero_le _, ⟨⟨_, HT1.out, fun k hk => by subst hk; exact ⟨by omega, by omega⟩⟩, range_keep (range_new w _ _) (Hb1.out.block _ (by simp)), ((Below.refl _ _).alloc (Nat.le_refl _) _).trans (Hb1.out.mono (by simp)), Nat.le_refl _, by omega, Psp.Few.nil, Nat.le_refl _⟩, fun r h => by simp [Psp.reqsOf] at h⟩
    case round =>
      obtain ⟨k, tl, rfl, hk, hI, hcl⟩ := hrel
      have HI := Lib.hid hI
      have Hcl := Lib.hid hcl
      have hlo := hI.bel.size
      clear hI hcl
      by_cases hlt : k < N
      · have hlt1 : k < len := by omega
        have h60 : k < 60 := by omega
        obtain ⟨b, o, hAe, hb, hlies⟩ := Hcell.out (by omega)
        subst hAe
        have hx0 : k < l.length := by have := Hlen.out; omega
        have hcs := req_cells (hlies.keep (HI.out.bel.block b hb)) hx0
        obtain ⟨r, hy⟩ : ∃ x, l[k] = x := ⟨_, rfl⟩
        obtain ⟨⟨hy1, hy2⟩, _⟩ := Hl.out r (by rw [← hy]; exact List.getElem_mem hx0)
        rw [hy] at hcs
        have e0 := hcs 0 _ rfl
        have e1 := hcs 1 _ rfl
        have e2 := hcs 2 _ rfl
        have e3 := hcs 3 _ rfl
        have e4 := hcs 4 _ rfl
        have e5 := hcs 5 _ rfl
        simp only [Nat.add_zero, iv] at e0 e1 e2 e3 e4 e5
        have y0 := Psp.within_lo r.c 2
        have y1 := Psp.within_hi r.c 2 (by omega)
        obtain ⟨rc, hrc⟩ : ∃ x, Psp.within r.c 2 = x := ⟨_, rfl⟩
        rw [hrc] at y0 y1
        have Hrc := Lib.hid hrc
        obtain ⟨S, hT, hS⟩ := HI.out.tab
        have HT := Lib.hid hT
        have HS := Lib.hid hS
        clear hlies hy hcs hrc hT hS
        go_wp2_with (first | (go_at_call 9; refine (within_any _ _ _ (by omega) (by omega) (by omega) (by omega)).mono ?_; rintro e w' ⟨rfl, rfl⟩; rw [Hrc.out]) | (go_at_call 12; refine (put_all ⟨rc, r.t, r.k, r.y, r.v, r.s⟩ _ _ S g f 3 tl _ (HT.out.below ((Below.refl _ _).alloc (Nat.le_refl _) _)) (by have := HI.out.len; omega)).mono ?_; rintro e w3 ⟨rfl, hT3, hF3⟩; have HT3 := Lib.hid hT3; have HF3 := Lib.hid hF3; clear hT3 hF3))
        go_roundw
        case rel =>
          refine ⟨k + 1, _, by go_num, by omega, HI.out.put ((Below.refl _ _).alloc (Nat.le_refl _) _) HS.out HF3.out _ _ _ HT3.out, fun x hx => ?_⟩
          rcases Psp.put_R f 3 tl ⟨rc, r.t, r.k, r.y, r.v, r.s⟩ ((k : Int) % 4) (k : Int) with ⟨_, e, _⟩ | ⟨_, e, _⟩ | ⟨_, _, e, _⟩ | ⟨_, _, e, _⟩
          · rw [e] at hx; exact Hcl.out x hx
          · rw [e] at hx; exact Hcl.out x hx
          · rw [e] at hx; exact Hcl.out x hx
          · rw [e] at hx
            rcases Psp.mem_ins.1 hx with rfl | hx
            · exact ⟨y0, y1⟩
            · exact Hcl.out x hx
        case measure => simp [intOf]; omega
      · obtain rfl : k = N := by omega
        by_cases hlt1 : k < len
        · have h60 : ¬ k < 60 := by have := HN.out; omega
          go_wp2_with fail
          go_meet
          exact ⟨_, ⟨HI.out.tab, HI.out.box, HI.out.bel, HI.out.bxlo, HI.out.bxlt, HI.out.few, by have := HI.out.len; omega⟩, Hcl.out⟩
        · go_wp2_with fail
          go_meet
          exact ⟨_, ⟨HI.out.tab, HI.out.box, HI.out.bel, HI.out.bxlo, HI.out.bxlt, HI.out.few, by have := HI.out.len; omega⟩, Hcl.out⟩
  case rest =>
  obtain ⟨tl, hI, hcl⟩ := hcut
  have h2c := Psp.two_clients (Psp.reqsOf tl) hcl
  have hf0 := hI.few 0
  have hf1 := hI.few 1
  have hrl : (Psp.reqsOf tl).length = tl.length := by unfold Psp.reqsOf; rw [List.length_map]
  obtain ⟨tn, htn⟩ : ∃ n, tl.length = n := ⟨_, rfl⟩
  have t8 : tn ≤ 8 := by omega
  have h2n : Psp.cntC (Psp.reqsOf tl) 2 = 0 := List.countP_eq_zero.2 fun r hr => by have := hcl r hr; simp; omega
  obtain ⟨S, hT, hS⟩ := hI.tab
  have HI := Lib.hid hI
  have Hcl := Lib.hid hcl
  have HT := Lib.hid hT
  have Htn := Lib.hid htn
  have H2n := Lib.hid h2n
  have d8 : decide (8 < (tn : Int)) = false := by simp; omega
  clear hI hcl h2c hf0 hf1 hrl hT hS htn h2n
  go_wp2_with (go_at_call 14; refine (len_tab S g f 3 _ _ HT.out).mono ?_; rintro e w6 ⟨rfl, rfl⟩; rw [Htn.out])
  go_loopw [11] (fun i wr => ∃ (k : Nat) (tl : List Psp.Told), i = .int .i64 (k : Int) ∧ 1 ≤ k ∧ k ≤ 6 ∧ TInv w wr f g w.heap.size op tl (60 + k) ∧ Psp.cntC (Psp.reqsOf tl) 2 = min (k - 1) 4 ∧ ∀ r ∈ Psp.reqsOf tl, r.c = 2 → r.t < k ∧ r.t ≤ 4) (fun i _ => 6 - (intOf i).toNat)
  case atStart =>
    exact ⟨1, tl, rfl, Nat.le_refl _, by omega, ⟨HI.out.tab, HI.out.box, HI.out.bel, HI.out.bxlo, HI.out.bxlt, HI.out.few, by have := HI.out.len; omega⟩, by rw [H2n.out]; rfl, fun r hr h => by have := Hcl.out r hr; omega⟩
  case round =>
    obtain ⟨k, tl2, rfl, hk1, hk6, hI2, hc2', ht2⟩ := hrel
    have HI2 := Lib.hid hI2
    have HC2 := Lib.hid hc2'
    have HT2 := Lib.hid ht2
    have b0 := hI2.box 0 _ rfl
    have b1 := hI2.box 1 _ rfl
    have b2 := hI2.box 2 _ rfl
    simp only [Nat.zero_add, iv] at b0 b1 b2
    obtain ⟨S2, hT, hS⟩ := hI2.tab
    have HTT := Lib.hid hT
    have HSS := Lib.hid hS
    clear hI2 hc2' ht2 hT hS
    by_cases h5 : k ≤ 5
    · obtain ⟨r, hr⟩ : ∃ r : Psp.Req, (⟨2, (k : Int), op.1, op.2.1, op.2.2, 0⟩ : Psp.Req) = r := ⟨_, rfl⟩
      have hna : Psp.isAt tl2 r = false := by
        cases h : Psp.isAt tl2 r with
        | false => rfl
        | true =>
          exfalso
          obtain ⟨t, ht, e⟩ := Psp.isAt_mem h
          have := HT2.out t.r (List.mem_map.2 ⟨t, ht, rfl⟩) (by rw [e, ← hr])
          rw [e, ← hr] at this
          exact absurd this.1 (Int.lt_irrefl _)
      have hpr := Psp.put_R f 3 tl2 r 0 0
      have hok : 0 ≤ r.c ∧ r.c < 3 ∧ (0 : Int) ≤ 0 ∧ 0 < Psp.nodes f := by rw [← hr, Hn.out]; exact ⟨by show (0 : Int) ≤ 2; omega, by show (2 : Int) < 3; omega, by omega, by omega⟩
      have hcr : Psp.cntOf tl2 r.c = min (k - 1) 4 := by rw [Psp.cntOf_C, ← hr]; exact HC2.out
      have Hr := Lib.hid hr
      by_cases h4 : k ≤ 4
      · have d1 : decide ((k : Int) ≤ 4) = true := by simp; omega
        have d2 : decide (4 < (k : Int)) = false := by simp; omega
        obtain ⟨rd, p1, p2⟩ : ∃ rd, (Psp.putP f 3 tl2 r 0 0).1 = (true, rd, 0) ∧ Psp.reqsOf (Psp.putP f 3 tl2 r 0 0).2 = (Psp.reqsOf tl2).take (Psp.pos tl2 r) ++ r :: (Psp.reqsOf tl2).drop (Psp.pos tl2 r) := by
          rcases hpr with ⟨_, _, e⟩ | ⟨_, _, _, e, _⟩ | ⟨_, _, _, e, _⟩ | ⟨rd, e1, e2, _⟩
          · exact absurd hok e
          · omega
          · rw [hna] at e; cases e
          · exact ⟨rd, e1, e2⟩
        have P1 := Lib.hid p1
        have P2 := Lib.hid p2
        clear hpr p1 p2 hna hr hcr hok
        go_wp2_with (go_at_call 12; rw [show (#[.int .i64 2, .int .i64 (k : Int), .int .i64 op.1, .int .i64 op.2.1, .int .i64 op.2.2, .int .i64 0] : Array Value) = #[.int .i64 r.c, .int .i64 r.t, .int .i64 r.k, .int .i64 r.y, .int .i64 r.v, .int .i64 r.s] by rw [← Hr.out]]; refine (put_all r 0 0 S2 g f 3 tl2 _ HTT.out (by have := HI2.out.len; omega)).mono ?_; rintro e w3 ⟨rfl, hT3, hF3⟩; rw [P1.out]; have HT3 := Lib.hid hT3; have HF3 := Lib.hid hF3; clear hT3 hF3)
        go_roundw
        case rel =>
          refine ⟨k + 1, _, by go_num, by omega, by omega, HI2.out.put (Below.refl _ _) HSS.out HF3.out _ _ _ HT3.out, ?_, fun x hx hxc => ?_⟩
          · rw [P2.out, Psp.cntC_ins, HC2.out, if_pos (by rw [← Hr.out])]; omega
          · rw [P2.out] at hx
            rcases Psp.mem_ins.1 hx with rfl | hx
            · rw [← Hr.out]; exact ⟨by show (k : Int) < _; omega, by show (k : Int) ≤ 4; omega⟩
            · have := HT2.out x hx hxc; omega
        case measure => simp [intOf]; omega
      · have d1 : decide ((k : Int) ≤ 4) = false := by simp; omega
        have d2 : decide (4 < (k : Int)) = true := by simp; omega
        obtain ⟨p1, p2⟩ : (Psp.putP f 3 tl2 r 0 0).1 = (false, false, 3) ∧ (Psp.putP f 3 tl2 r 0 0).2 = tl2 := by
          rcases hpr with ⟨_, _, e⟩ | ⟨e1, e2, _⟩ | ⟨_, _, _, e, _⟩ | ⟨_, _, _, _, e, _⟩
          · exact absurd hok e
          · exact ⟨e1, e2⟩
          · rw [hna] at e; cases e
          · omega
        have P1 := Lib.hid p1
        have P2 := Lib.hid p2
        clear hpr p1 p2 hna hr hcr hok
        go_wp2_with (go_at_call 12; rw [show (#[.int .i64 2, .int .i64 (k : Int), .int .i64 op.1, .int .i64 op.2.1, .int .i64 op.2.2, .int .i64 0] : Array Value) = #[.int .i64 r.c, .int .i64 r.t, .int .i64 r.k, .int .i64 r.y, .int .i64 r.v, .int .i64 r.s] by rw [← Hr.out]]; refine (put_all r 0 0 S2 g f 3 tl2 _ HTT.out (by have := HI2.out.len; omega)).mono ?_; rintro e w3 ⟨rfl, hT3, hF3⟩; rw [P1.out]; have HT3 := Lib.hid hT3; have HF3 := Lib.hid hF3; clear hT3 hF3)
        go_roundw
        case rel =>
          refine ⟨k + 1, _, by go_num, by omega, by omega, HI2.out.put (Below.refl _ _) HSS.out HF3.out _ _ _ HT3.out, ?_, fun x hx hxc => ?_⟩
          · rw [P2.out, HC2.out]; omega
          · rw [P2.out] at hx
            have := HT2.out x hx hxc; omega
        case measure => simp [intOf]; omega
    · obtain rfl : k = 6 := by omega
      have hdf := drop_four (l := tl2) HC2.out (fun r hr h => (HT2.out r hr h).2)
      have Hdf := Lib.hid hdf
      clear hdf
      go_wp2_with (first | (go_at_call 16; refine (drop_tab 2 4 S2 g f 3 tl2 _ HTT.out).mono ?_; rintro e w3 ⟨rfl, hT3, hF3⟩; rw [Hdf.out]; have HF3 := Lib.hid hF3; clear hT3 hF3) | (go_at_call 15; refine (wakes13 _).mono ?_; rintro e w' ⟨rfl, hb9⟩))
      go_ret
      have h1 := HI2.out.bel.trans (HF3.out.to_below HI2.out.bel.size fun k _ hk => (HSS.out k hk).1)
      exact ⟨rfl, h1.trans (hb9.mono h1.size)⟩
end Go.Proofs.Ytmbdailffhdonaa.propRooms
