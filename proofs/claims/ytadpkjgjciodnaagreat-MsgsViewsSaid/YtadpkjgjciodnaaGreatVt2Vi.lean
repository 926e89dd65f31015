/- Two.Votes for a certificate's closure, for a view change's. Printed by gen_vts2.py. -/
import Derived.Test.YtadpkjgjciodnaaGreatJ27Vi
import Derived.Test.YtadpkjgjciodnaaGreatJ14Vi
import Derived.Test.YtadpkjgjciodnaaGreatJ24Vi
namespace Go.Proofs.YtadpkjgjciodnaaGreat
open Go.RowKit
set_option linter.unusedVariables false
set_option linter.unusedSimpArgs false

set_option maxRecDepth 100000 in
set_option maxHeartbeats 1000000 in
theorem clo_pt (k view : Int) (b : Nat) (w : World) (hv : 1 ≤ view ∧ view ≤ 100) (hb : w.cell? ⟨b, 0, none⟩ = some (.int .i64 view)) :
    Calls Tryz.prog 65 #[.int .i64 k, .pointer (some ⟨b, 0, none⟩)] w fun e w' => e = .returned (.agg #[.int .i64 6, .int .i64 k, .int .i64 (view - 1), .int .i64 0, .int .i64 0, .int .i64 0, .slice none 0 0, .slice none 0 0, .slice none 0 0, .slice none 0 0]) ∧ Below w.heap.size w w' := by
  have hb2 : (w.alloc (.cells zs 41)).cell? ⟨b, 0, none⟩ = some (.int .i64 view) := by
    have h := World.block_lt_of_cell? w ⟨b, 0, none⟩ hb
    exact ((alloc_below w (.cells zs 41)).cell (p := ⟨b, 0, none⟩) h).trans hb
  go_enter Tryz.func65, Tryz.ntmps65
  go_wp2_with fail
  have hh := heap_alloc_new w (.cells #[.int .i64 6, .int .i64 k, .int .i64 (view - 1), .int .i64 0, .int .i64 0, .int .i64 0, .slice none 0 0, .slice none 0 0, .slice none 0 0, .slice none 0 0] 41)
  refine bodyPost_ret (v := .agg #[.int .i64 6, .int .i64 k, .int .i64 (view - 1), .int .i64 0, .int .i64 0, .int .i64 0, .slice none 0 0, .slice none 0 0, .slice none 0 0, .slice none 0 0]) ?_ rfl ?_
  · exact results_cell_row Tryz.results65 _ _ w.heap.size _ _ _ _ rfl hh Tryz.underlying41 rfl sizeM
  · exact ⟨rfl, alloc_below w _⟩

set_option maxRecDepth 100000 in
set_option maxHeartbeats 2000000 in
theorem clo_ce (k kind : Int) (c : Psp.Cert) (A1 A2 : Option Addr) (c1 c2 : Nat) (bk bc : Nat) (w : World) (P : Nat → Prop) (hx : CertOk w P ⟨c, .slice A1 c.b.length c1, .slice A2 c.o.length c2⟩) (hk : w.cell? ⟨bk, 0, none⟩ = some (.int .i64 kind)) (hc : w.heap[bc]? = some (.cells #[.int .i64 c.v, .int .i64 c.i, .int .i64 c.q, .slice A1 c.b.length c1, .slice A2 c.o.length c2] 25 (0, 0))) :
    Calls Tryz.prog 40 #[.int .i64 k, .pointer (some ⟨bk, 0, none⟩), .pointer (some ⟨bc, 0, none⟩)] w fun e w' => e = .returned (.agg #[.int .i64 kind, .int .i64 k, .int .i64 c.v, .int .i64 c.i, .int .i64 c.q, .int .i64 0, .slice A1 c.b.length c1, .slice none 0 0, .slice none 0 0, .slice none 0 0]) ∧ Below w.heap.size w w' := by
  have HX := Lib.hid hx
  have hbl := World.block_lt_of_cell? w ⟨bk, 0, none⟩ hk
  have hcl := (Array.getElem?_eq_some_iff.1 hc).1
  have ha := alloc_below w (.cells zs 41)
  have HC := Lib.hid (box_below hc ha (Nat.le_refl _))
  have HN := Lib.hid (heap_alloc_new w (.cells zs 41))
  have HA := Lib.hid ha
  have hb2 : (w.alloc (.cells zs 41)).cell? ⟨bk, 0, none⟩ = some (.int .i64 kind) := (ha.cell (p := ⟨bk, 0, none⟩) hbl).trans hk
  have x0 : (w.alloc (.cells zs 41)).cell? ⟨bc, 0, none⟩ = some (.int .i64 c.v) := by rw [cell_of_row _ _ 0 _ _ _ HC.out]; rfl
  have x1 : (w.alloc (.cells zs 41)).cell? ⟨bc, 1, none⟩ = some (.int .i64 c.i) := by rw [cell_of_row _ _ 1 _ _ _ HC.out]; rfl
  have x2 : (w.alloc (.cells zs 41)).cell? ⟨bc, 2, none⟩ = some (.int .i64 c.q) := by rw [cell_of_row _ _ 2 _ _ _ HC.out]; rfl
  have x3 : (w.alloc (.cells zs 41)).cell? ⟨bc, 3, none⟩ = some (.slice A1 c.b.length c1) := by rw [cell_of_row _ _ 3 _ _ _ HC.out]; rfl
  have x4 : (w.alloc (.cells zs 41)).cell? ⟨bc, 4, none⟩ = some (.slice A2 c.o.length c2) := by rw [cell_of_row _ _ 4 _ _ _ HC.out]; rfl
  clear hx hc ha
  go_enter Tryz.func40, Tryz.ntmps40
  go_wp2_with fail
  clear x0 x1 x2 x3 x4 hb2 hk
  refine (rballot_m kind k ⟨c, .slice A1 c.b.length c1, .slice A2 c.o.length c2⟩ _ P (HX.out.keeps (Keeps.below HA.out))).mono ?_
  rintro e w1 ⟨rfl, hb1⟩
  have hr1 : w1.heap[w.heap.size]? = _ := box_below HN.out hb1 (Nat.le_refl _)
  have Hth := Lib.hid (row_there hr1)
  obtain ⟨s1, s2⟩ := row_store hr1 [.int .i64 kind, .int .i64 k, .int .i64 c.v, .int .i64 c.i, .int .i64 c.q, .int .i64 0, .slice A1 c.b.length c1, .slice none 0 0, .slice none 0 0, .slice none 0 0] rfl
  have T1 := Lib.hid s1
  have T3 := Lib.hid (below_setCells (Below.then HA.out hb1 HA.out.size) w.heap.size (Nat.le_refl _) [.int .i64 kind, .int .i64 k, .int .i64 c.v, .int .i64 c.i, .int .i64 c.q, .int .i64 0, .slice A1 c.b.length c1, .slice none 0 0, .slice none 0 0, .slice none 0 0])
  clear hr1 s1 s2 hb1
  go_wp2_with (first | (refine wpList_store_mid rfl 41 (.tmp 4) (.tmp 8) rfl w.heap.size 0 #[.int .i64 kind, .int .i64 k, .int .i64 c.v, .int .i64 c.i, .int .i64 c.q, .int .i64 0, .slice A1 c.b.length c1, .slice none 0 0, .slice none 0 0, .slice none 0 0] rfl rfl Hth.out sizeM (by simp [Value.oneCell']) ?_))
  refine bodyPost_ret (v := .agg #[.int .i64 kind, .int .i64 k, .int .i64 c.v, .int .i64 c.i, .int .i64 c.q, .int .i64 0, .slice A1 c.b.length c1, .slice none 0 0, .slice none 0 0, .slice none 0 0]) ?_ rfl ?_
  · exact results_cell_row Tryz.results40 _ _ w.heap.size _ _ _ _ rfl T1.out Tryz.underlying41 rfl sizeM
  · exact ⟨rfl, T3.out⟩

set_option maxRecDepth 100000 in
set_option maxHeartbeats 8000000 in
theorem votes_ce (f skip : Int) (S : Nat → Prop) (g bm h : Nat) (K : List Key) (w : World) (hf : 1 ≤ f ∧ f ≤ 4) (hs : isI64 skip) (hT : Tw w S g bm h K) (hK : K.length < 1000000) (M : Int → Psp.Msg) (p1 p2 : Value) (hM : ∀ k, (M k).f = k) (hclo : ∀ (k : Int) (W : World), 0 ≤ k → k ≤ 100 → Fp (fun b => S b ∨ b = bm) w W → Calls Tryz.prog 40 #[.int .i64 k, p1, p2] W fun e w' => ∃ vb vo vc vp, e = .returned (.agg #[.int .i64 (M k).k, .int .i64 (M k).f, .int .i64 (M k).v, .int .i64 (M k).i, .int .i64 (M k).q, .int .i64 (M k).r, vb, vo, vc, vp]) ∧ MsgOk w' (fun b => b < w'.heap.size) ⟨M k, vb, vo, vc, vp⟩ ∧ Below W.heap.size W w') :
    Calls Tryz.prog 39 #[.agg #[.pointer (some ⟨g, 0, none⟩), .pointer (some ⟨h, 0, none⟩)], .int .i64 f, .int .i64 skip, .func (.func 40) #[] #[p1, p2]] w fun e w' =>
      ∃ A c S', e = .returned (.slice A (Psp.quorum f).toNat c) ∧ Vi w w' S g bm h (w.heap.size + 1) (vts f (Psp.within skip (f + 1)) M K (Psp.quorum f).toNat).2 (vts f (Psp.within skip (f + 1)) M K (Psp.quorum f).toNat).1 (.slice A (Psp.quorum f).toNat c) S' := by
  have HT := Lib.hid hT
  have HCl := Lib.hid hclo
  have HM := Lib.hid hM
  have HSl := Lib.hid hT.lt
  have hgl := hT.nt.lt
  obtain ⟨s, hsk⟩ : ∃ s, Psp.within skip (f + 1) = s := ⟨_, rfl⟩
  have s0 : 0 ≤ s := by rw [← hsk]; exact Psp.within_lo _ _
  have s1 : s < f + 1 := by rw [← hsk]; exact Psp.within_hi _ _ (by omega)
  obtain ⟨qn, hqn⟩ : ∃ qn, Psp.quorum f = qn := ⟨_, rfl⟩
  obtain ⟨nn, hnn⟩ : ∃ nn, Psp.nodes f = nn := ⟨_, rfl⟩
  have e1 : nn = 3 * f + 1 := by rw [← hnn]; unfold Psp.nodes; rw [if_pos hf]
  have e2 : qn = 2 * f + 1 := by rw [← hqn]; unfold Psp.quorum; rw [if_pos hf]
  have HWi : Hid (∀ W : World, Calls Tryz.prog 8 #[.int .i64 skip, .int .i64 (f + 1)] W fun e w' => e = .returned (.int .i64 s) ∧ W = w') := Lib.hid fun W => by rw [← hsk]; exact within_any skip (f + 1) W hs.1 hs.2 (by omega) (by omega)
  have HNn : Hid (∀ W : World, Calls Tryz.prog 30 #[.int .i64 f] W fun e w' => e = .returned (.int .i64 nn) ∧ W = w') := Lib.hid fun W => by rw [← hnn]; exact r_nodes_any f W
  have HQn : Hid (∀ W : World, Calls Tryz.prog 33 #[.int .i64 f] W fun e w' => e = .returned (.int .i64 qn) ∧ W = w') := Lib.hid fun W => by rw [← hqn]; exact r_quorum_any f W
  have HkI : Hid (∀ i : Nat, kI f s i = if s ≤ (i : Int) then (i : Int) + nn - qn else (i : Int)) := Lib.hid fun i => by unfold kI; rw [hnn, hqn]
  rw [hsk, hqn]
  obtain ⟨q, rfl⟩ : ∃ q : Nat, qn = (q : Int) := ⟨qn.toNat, by omega⟩
  rw [Int.toNat_natCast]
  have hb0 := alloc_below w (.cells #[.pointer (some ⟨g, 0, none⟩), .pointer (some ⟨h, 0, none⟩)] 30)
  have hc0 := heap_alloc_new w (.cells #[.pointer (some ⟨g, 0, none⟩), .pointer (some ⟨h, 0, none⟩)] 30)
  have q1 : (q : Int) ≤ 9 := by omega
  have q2 : 1 ≤ q := by omega
  have n1 : (q : Int) ≤ nn := by omega
  have n2 : nn ≤ 13 := by omega
  have E1 := Lib.hid e1
  have E2 := Lib.hid e2
  clear hT hclo hM hsk hqn hnn e1 e2
  go_enter Tryz.func39, Tryz.ntmps39
  go_wp2_with (go_at_call 30; refine (HNn.out _).mono ?_; rintro e w' ⟨rfl, rfl⟩)
  obtain ⟨W, hW⟩ : ∃ W, w.alloc (.cells #[.pointer (some ⟨g, 0, none⟩), .pointer (some ⟨h, 0, none⟩)] 30) = W := ⟨_, rfl⟩
  rw [hW] at hb0 hc0 ⊢
  clear hW
  have HC0 := Lib.hid hc0
  have HVi : Hid (Vi w W S g bm h (w.heap.size + 1) (vts f s M K 0).2 (vts f s M K 0).1 (.slice none 0 0) S) := Lib.hid ⟨HT.out.below hb0, fun b hb => .inl hb, World.ownsRow_nil _ _ _ _, fun b hb => (by cases hb), Fp.of_below hb0 _⟩
  have hNl := (Array.getElem?_eq_some_iff.1 hc0).1
  clear hb0 hc0
  go_loopw [9, 11] (fun out i wr => ∃ (k : Nat) (A : Option Addr) (c : Nat) (S' : Nat → Prop), i = .int .i64 (k : Int) ∧ k ≤ q ∧ out = .slice A k c ∧ Hid (wr.heap[w.heap.size]? = some (.cells #[.pointer (some ⟨g, 0, none⟩), .pointer (some ⟨h, 0, none⟩)] 30 (0, 0))) ∧ Hid (Vi w wr S g bm h (w.heap.size + 1) (vts f s M K k).2 (vts f s M K k).1 out S')) (fun _ i _ => q - (intOf i).toNat)
  case atStart => exact ⟨0, none, 0, S, rfl, Nat.zero_le _, rfl, HC0, HVi⟩
  case round =>
    obtain ⟨k, A, c, S', rfl, hk, rfl, HC, HI⟩ := hrel
    by_cases hlt : k < q
    · have hqk : decide ((k : Int) < (q : Int)) = true := by simp; omega
      have hzr := HI.out.fp.size
      have hNr := (Array.getElem?_eq_some_iff.1 HC.out).1
      have hglr := HI.out.tw.nt.lt
      have hkl := vts_keys f s M K k
      have hvl := vts_len f s M K k
      have hx0 : wr.drew.heap[w.heap.size]? = _ := HC.out
      have HRT : Hid (∀ w' : World, (∃ p : LaterF wr.drew (fun b => b ≠ w.heap.size), w' = p.W) → w'.rangeAt w.heap.size 0 [.pointer (some ⟨g, 0, none⟩), .pointer (some ⟨h, 0, none⟩)]) := Lib.hid (by rintro w' ⟨p, rfl⟩; exact range_of_row ((p.h.block _ (show w.heap.size < wr.heap.size from hNr) (fun hh => hh rfl)).trans HC.out))
      clear hx0
      by_cases hsk : s ≤ (k : Int)
      · have hds : decide ((k : Int) ≥ s) = true := by simp; omega
        have Hkv : Hid (kI f s k = ((k : Int) + nn - (q : Int))) := Lib.hid (by rw [HkI.out]; rw [if_pos hsk])
        go_wp2_with (first | (go_at_call 33; refine (HQn.out _).mono ?_; rintro e w' ⟨rfl, rfl⟩) | (go_at_call 8; refine (HWi.out _).mono ?_; rintro e w' ⟨rfl, rfl⟩))
        refine wp_region_phasesF (fun b => b ≠ w.heap.size) [(true, 0), (true, 1), (true, 2), (true, 3), (true, 4), (false, 5), (false, 6), (false, 7), (false, 8), (false, 9)] (by kernel_rfl) (by kernel_rfl) ?_
        simp only [phS, List.getElem?_cons_zero, List.getElem?_cons_succ, Option.toList, List.length_cons, List.length_nil, Nat.reduceAdd, List.drop_succ_cons, List.drop_zero]
        repeat (first | go_big_quiet_step (fail) | (refine quiet_load (by simp [Region.wanted, yielded]) 30 (.tmp 4) (by rfl) w.heap.size (0) (by rfl) [.pointer (some ⟨g, 0, none⟩), .pointer (some ⟨h, 0, none⟩)] _ HRT.out Tryz.underlying30 rfl sizeTwo ?_; intro K hK; go_simp; refine hK _ ?_; clear hK K) | quiet_step (fail) | refine wpQuiet_nil ?_)
        go_wp2_with fail
        refine (HCl.out ((k : Int) + nn - (q : Int)) wr.drew (by omega) (by omega) HI.out.fp.drew).mono ?_
        rintro e w1 ⟨vb, vo, vc, vp, rfl, hmo, hb1⟩
        have HMo := Lib.hid hmo
        clear hmo
        have hb1' : Below wr.heap.size wr w1 := (Below.refl wr.heap.size wr).drew.trans hb1
        have hz1 := hb1'.size
        have HB1 := Lib.hid hb1'
        have HT1 := Lib.hid (HI.out.tw.below hb1')
        have HC1 := Lib.hid (box_below HC.out hb1' (Nat.le_refl _))
        have F1 := Lib.hid (Fp.of_below hb1 (fun b => b ≠ w.heap.size))
        clear hb1 hb1'
        go_wp2_with fail
        refine And.intro ⟨⟨w1, F1.out⟩, rfl⟩ ?_
        go_wp2_with fail
        refine (two_msg S' g bm h (vts f s M K k).2 (M ((k : Int) + nn - (q : Int))) vb vo vc vp w1 HT1.out HMo.out (by rw [HM.out]; exact ⟨by omega, by omega⟩) (by omega)).mono ?_
        rintro e w2 ⟨rfl, S'', hT2, hS2, hF2⟩
        obtain ⟨sv, hsv⟩ : ∃ sv, sealM (vts f s M K k).2 (M ((k : Int) + nn - (q : Int))) = sv := ⟨_, rfl⟩
        rw [hsv]
        have Hsv := Lib.hid hsv
        have hz2 := hF2.size
        have hnN : ¬ (S' w.heap.size ∨ w.heap.size = bm) := by
          rintro (hh | hh)
          · rcases HI.out.new _ hh with h1 | h1
            · have := HSl.out _ h1; omega
            · omega
          · omega
        have hN2 := (hF2.block w.heap.size (by omega) hnN).trans HC1.out
        have hown1 := own_below HI.out.own HB1.out
        have hown2 : w2.ownsRow (w.heap.size + 1) 54 2 (.slice A k c) k ((vts f s M K k).1.flatMap vt) := by
          have h2 := own_keep hown1 (w' := w2) fun b hb => hF2.block b (hown1.lt b hb).2 (by rintro (hh | hh); exact (HI.out.sep b hb).1 hh; exact (HI.out.sep b hb).2.2 hh)
          rwa [hvl] at h2
        have F2 := Lib.hid (F1.out.trans hF2 (fun j hj => Or.inl (show j ≠ w.heap.size from fun hh => hnN (hh ▸ hj))))
        have HT2 := Lib.hid hT2
        have HS2 := Lib.hid hS2
        have HF2 := Lib.hid hF2
        have HC2 := Lib.hid hN2
        have Hown2 := Lib.hid hown2
        clear hsv hnN hN2 hown1 hown2 hT2 hS2 hF2
        go_wp2_with fail
        refine And.intro ⟨⟨w2, F2.out⟩, rfl⟩ ?_
        go_wp2_with fail
        refine And.intro ⟨⟨w2, F2.out⟩, rfl⟩ ?_
        go_wp2_with fail
        refine And.intro ⟨⟨_, F2.out.alloc _⟩, rfl⟩ ?_
        go_wp2_with (at_builtin; refine wpList_app1 votE rfl _ _ rfl (w.heap.size + 1) (.slice A k c) k _ rfl Hown2.out _ rfl rfl (by simp [Value.oneCell']) (by omega) (by decide) (by omega) ?_; intro v' w4 hown4 hg4 _ hv4; have Hown4 := Lib.hid hown4; have Hg4 := Lib.hid hg4; have Hv4 := Lib.hid hv4; clear hown4 hg4 hv4; obtain ⟨A4, c4, rfl, _, _, _⟩ := own_slice Hown4.out)
        have hw24 := Hg4.out.size
        have hrow : ∀ j, (Value.slice A k c).ownBlock = some j → w.heap.size + 1 ≤ j ∧ j < w2.heap.size := fun j hj => Hown2.out.lt j hj
        refine And.intro ⟨⟨w4, F2.out.grown Hg4.out (fun j hj => Or.inl (show j ≠ w.heap.size by have := (hrow j hj).1; omega))⟩, rfl⟩ ?_
        have hF24 : Fp (fun b => (Value.slice A k c).ownBlock = some b) w2 w4 := (Fp.refl _ w2).grown Hg4.out (fun j hj => Or.inl hj)
        have hS2' : ∀ b, S'' b → S b ∨ w.heap.size + 1 ≤ b := fun b hb => by
          rcases HS2.out b hb with h1 | h1
          · exact HI.out.new b h1
          · right; omega
        have hsepA : ∀ b, (Value.slice A k c).ownBlock = some b → ¬ S'' b ∧ b ≠ g ∧ b ≠ bm := fun b hb => by
          obtain ⟨q1, q2, q3⟩ := HI.out.sep b hb
          refine ⟨fun hh => ?_, q2, q3⟩
          rcases HS2.out b hh with h1 | h1
          · exact q1 h1
          · have := (HI.out.own.lt b hb).2; omega
        have htw4 : Tw w4 S'' g bm h (sealK (vts f s M K k).2 (M ((k : Int) + nn - (q : Int)))) := HT2.out.fp hF24 (fun hh => (hsepA g hh).2.1 rfl) (fun hh => (hsepA bm hh).2.2 rfl) (fun b hb hh => (hsepA b hh).1 hb)
        have HVn : Hid (Vi w w4 S g bm h (w.heap.size + 1) (vts f s M K (k + 1)).2 (vts f s M K (k + 1)).1 (.slice A4 (k + 1) c4) S'') := Lib.hid (by
          have hv1 : (vts f s M K (k + 1)).1 = (vts f s M K k).1 ++ [⟨((k : Int) + nn - (q : Int)), sv⟩] := by
            show _ ++ [_] = _
            rw [Hkv.out, Hsv.out]
          have hv2 : (vts f s M K (k + 1)).2 = sealK (vts f s M K k).2 (M ((k : Int) + nn - (q : Int))) := by
            show sealK _ _ = _
            rw [Hkv.out]
          rw [hv1, hv2]
          clear hv1 hv2
          refine ⟨htw4, hS2', ?_, fun b hb => ?_, ?_⟩
          · have h4 := Hown4.out
            rw [List.length_append, hvl, List.flatMap_append]
            simpa [vt, iv] using h4
          · rcases Hv4.out with hv | hv
            · rw [hv] at hb; exact hsepA b hb
            · rw [hv] at hb
              injection hb with hb
              subst hb
              refine ⟨fun hh => ?_, by omega, by omega⟩
              have := HT2.out.lt _ hh
              omega
          · exact ((HI.out.fp.trans (Fp.of_below HB1.out (fun _ => False)) (fun _ hh => hh.elim)).trans HF2.out (fun j hj => by
              rcases hj with hj | hj
              · rcases HI.out.new j hj with h1 | h1
                · exact .inl (.inl h1)
                · right; omega
              · exact .inl (.inr hj))).grown Hg4.out (fun j hj => Or.inr (by have := (hrow j hj).1; omega)))
        have HCn : Hid (w4.heap[w.heap.size]? = some (.cells #[.pointer (some ⟨g, 0, none⟩), .pointer (some ⟨h, 0, none⟩)] 30 (0, 0))) := Lib.hid ((hF24.block w.heap.size (by omega) (fun hh => by have := (hrow _ hh).1; omega)).trans HC2.out)
        clear hrow hF24 hS2' hsepA htw4
        go_wp2_with fail
        refine ⟨⟨k + 1, A4, c4, S'', by go_num, by omega, rfl, HCn, HVn⟩, ?_⟩
        simp [intOf]; omega
      · have hds : decide ((k : Int) ≥ s) = false := by simp; omega
        have Hkv : Hid (kI f s k = (k : Int)) := Lib.hid (by rw [HkI.out]; rw [if_neg hsk])
        go_wp2_with (first | (go_at_call 33; refine (HQn.out _).mono ?_; rintro e w' ⟨rfl, rfl⟩) | (go_at_call 8; refine (HWi.out _).mono ?_; rintro e w' ⟨rfl, rfl⟩))
        refine wp_region_phasesF (fun b => b ≠ w.heap.size) [(true, 0), (true, 1), (true, 2), (true, 3), (true, 4), (false, 5), (false, 6), (false, 7), (false, 8), (false, 9)] (by kernel_rfl) (by kernel_rfl) ?_
        simp only [phS, List.getElem?_cons_zero, List.getElem?_cons_succ, Option.toList, List.length_cons, List.length_nil, Nat.reduceAdd, List.drop_succ_cons, List.drop_zero]
        repeat (first | go_big_quiet_step (fail) | (refine quiet_load (by simp [Region.wanted, yielded]) 30 (.tmp 4) (by rfl) w.heap.size (0) (by rfl) [.pointer (some ⟨g, 0, none⟩), .pointer (some ⟨h, 0, none⟩)] _ HRT.out Tryz.underlying30 rfl sizeTwo ?_; intro K hK; go_simp; refine hK _ ?_; clear hK K) | quiet_step (fail) | refine wpQuiet_nil ?_)
        go_wp2_with fail
        refine (HCl.out (k : Int) wr.drew (by omega) (by omega) HI.out.fp.drew).mono ?_
        rintro e w1 ⟨vb, vo, vc, vp, rfl, hmo, hb1⟩
        have HMo := Lib.hid hmo
        clear hmo
        have hb1' : Below wr.heap.size wr w1 := (Below.refl wr.heap.size wr).drew.trans hb1
        have hz1 := hb1'.size
        have HB1 := Lib.hid hb1'
        have HT1 := Lib.hid (HI.out.tw.below hb1')
        have HC1 := Lib.hid (box_below HC.out hb1' (Nat.le_refl _))
        have F1 := Lib.hid (Fp.of_below hb1 (fun b => b ≠ w.heap.size))
        clear hb1 hb1'
        go_wp2_with fail
        refine And.intro ⟨⟨w1, F1.out⟩, rfl⟩ ?_
        go_wp2_with fail
        refine (two_msg S' g bm h (vts f s M K k).2 (M (k : Int)) vb vo vc vp w1 HT1.out HMo.out (by rw [HM.out]; exact ⟨by omega, by omega⟩) (by omega)).mono ?_
        rintro e w2 ⟨rfl, S'', hT2, hS2, hF2⟩
        obtain ⟨sv, hsv⟩ : ∃ sv, sealM (vts f s M K k).2 (M (k : Int)) = sv := ⟨_, rfl⟩
        rw [hsv]
        have Hsv := Lib.hid hsv
        have hz2 := hF2.size
        have hnN : ¬ (S' w.heap.size ∨ w.heap.size = bm) := by
          rintro (hh | hh)
          · rcases HI.out.new _ hh with h1 | h1
            · have := HSl.out _ h1; omega
            · omega
          · omega
        have hN2 := (hF2.block w.heap.size (by omega) hnN).trans HC1.out
        have hown1 := own_below HI.out.own HB1.out
        have hown2 : w2.ownsRow (w.heap.size + 1) 54 2 (.slice A k c) k ((vts f s M K k).1.flatMap vt) := by
          have h2 := own_keep hown1 (w' := w2) fun b hb => hF2.block b (hown1.lt b hb).2 (by rintro (hh | hh); exact (HI.out.sep b hb).1 hh; exact (HI.out.sep b hb).2.2 hh)
          rwa [hvl] at h2
        have F2 := Lib.hid (F1.out.trans hF2 (fun j hj => Or.inl (show j ≠ w.heap.size from fun hh => hnN (hh ▸ hj))))
        have HT2 := Lib.hid hT2
        have HS2 := Lib.hid hS2
        have HF2 := Lib.hid hF2
        have HC2 := Lib.hid hN2
        have Hown2 := Lib.hid hown2
        clear hsv hnN hN2 hown1 hown2 hT2 hS2 hF2
        go_wp2_with fail
        refine And.intro ⟨⟨w2, F2.out⟩, rfl⟩ ?_
        go_wp2_with fail
        refine And.intro ⟨⟨w2, F2.out⟩, rfl⟩ ?_
        go_wp2_with fail
        refine And.intro ⟨⟨_, F2.out.alloc _⟩, rfl⟩ ?_
        go_wp2_with (at_builtin; refine wpList_app1 votE rfl _ _ rfl (w.heap.size + 1) (.slice A k c) k _ rfl Hown2.out _ rfl rfl (by simp [Value.oneCell']) (by omega) (by decide) (by omega) ?_; intro v' w4 hown4 hg4 _ hv4; have Hown4 := Lib.hid hown4; have Hg4 := Lib.hid hg4; have Hv4 := Lib.hid hv4; clear hown4 hg4 hv4; obtain ⟨A4, c4, rfl, _, _, _⟩ := own_slice Hown4.out)
        have hw24 := Hg4.out.size
        have hrow : ∀ j, (Value.slice A k c).ownBlock = some j → w.heap.size + 1 ≤ j ∧ j < w2.heap.size := fun j hj => Hown2.out.lt j hj
        refine And.intro ⟨⟨w4, F2.out.grown Hg4.out (fun j hj => Or.inl (show j ≠ w.heap.size by have := (hrow j hj).1; omega))⟩, rfl⟩ ?_
        have hF24 : Fp (fun b => (Value.slice A k c).ownBlock = some b) w2 w4 := (Fp.refl _ w2).grown Hg4.out (fun j hj => Or.inl hj)
        have hS2' : ∀ b, S'' b → S b ∨ w.heap.size + 1 ≤ b := fun b hb => by
          rcases HS2.out b hb with h1 | h1
          · exact HI.out.new b h1
          · right; omega
        have hsepA : ∀ b, (Value.slice A k c).ownBlock = some b → ¬ S'' b ∧ b ≠ g ∧ b ≠ bm := fun b hb => by
          obtain ⟨q1, q2, q3⟩ := HI.out.sep b hb
          refine ⟨fun hh => ?_, q2, q3⟩
          rcases HS2.out b hh with h1 | h1
          · exact q1 h1
          · have := (HI.out.own.lt b hb).2; omega
        have htw4 : Tw w4 S'' g bm h (sealK (vts f s M K k).2 (M (k : Int))) := HT2.out.fp hF24 (fun hh => (hsepA g hh).2.1 rfl) (fun hh => (hsepA bm hh).2.2 rfl) (fun b hb hh => (hsepA b hh).1 hb)
        have HVn : Hid (Vi w w4 S g bm h (w.heap.size + 1) (vts f s M K (k + 1)).2 (vts f s M K (k + 1)).1 (.slice A4 (k + 1) c4) S'') := Lib.hid (by
          have hv1 : (vts f s M K (k + 1)).1 = (vts f s M K k).1 ++ [⟨(k : Int), sv⟩] := by
            show _ ++ [_] = _
            rw [Hkv.out, Hsv.out]
          have hv2 : (vts f s M K (k + 1)).2 = sealK (vts f s M K k).2 (M (k : Int)) := by
            show sealK _ _ = _
            rw [Hkv.out]
          rw [hv1, hv2]
          clear hv1 hv2
          refine ⟨htw4, hS2', ?_, fun b hb => ?_, ?_⟩
          · have h4 := Hown4.out
            rw [List.length_append, hvl, List.flatMap_append]
            simpa [vt, iv] using h4
          · rcases Hv4.out with hv | hv
            · rw [hv] at hb; exact hsepA b hb
            · rw [hv] at hb
              injection hb with hb
              subst hb
              refine ⟨fun hh => ?_, by omega, by omega⟩
              have := HT2.out.lt _ hh
              omega
          · exact ((HI.out.fp.trans (Fp.of_below HB1.out (fun _ => False)) (fun _ hh => hh.elim)).trans HF2.out (fun j hj => by
              rcases hj with hj | hj
              · rcases HI.out.new j hj with h1 | h1
                · exact .inl (.inl h1)
                · right; omega
              · exact .inl (.inr hj))).grown Hg4.out (fun j hj => Or.inr (by have := (hrow j hj).1; omega)))
        have HCn : Hid (w4.heap[w.heap.size]? = some (.cells #[.pointer (some ⟨g, 0, none⟩), .pointer (some ⟨h, 0, none⟩)] 30 (0, 0))) := Lib.hid ((hF24.block w.heap.size (by omega) (fun hh => by have := (hrow _ hh).1; omega)).trans HC2.out)
        clear hrow hF24 hS2' hsepA htw4
        go_wp2_with fail
        refine ⟨⟨k + 1, A4, c4, S'', by go_num, by omega, rfl, HCn, HVn⟩, ?_⟩
        simp [intOf]; omega
    · have hkq : k = q := by omega
      subst hkq
      have hqk : decide ((k : Int) < (k : Int)) = false := by simp
      go_wp2_with (go_at_call 33; refine (HQn.out _).mono ?_; rintro e w' ⟨rfl, rfl⟩)
      go_ret
      exact ⟨A, c, S', rfl, HI.out⟩

set_option maxRecDepth 100000 in
set_option maxHeartbeats 8000000 in
theorem votes_pt (f skip : Int) (S : Nat → Prop) (g bm h : Nat) (K : List Key) (w : World) (hf : 1 ≤ f ∧ f ≤ 4) (hs : isI64 skip) (hT : Tw w S g bm h K) (hK : K.length < 1000000) (M : Int → Psp.Msg) (p1 : Value) (hM : ∀ k, (M k).f = k) (hclo : ∀ (k : Int) (W : World), 0 ≤ k → k ≤ 100 → Fp (fun b => S b ∨ b = bm) w W → Calls Tryz.prog 65 #[.int .i64 k, p1] W fun e w' => ∃ vb vo vc vp, e = .returned (.agg #[.int .i64 (M k).k, .int .i64 (M k).f, .int .i64 (M k).v, .int .i64 (M k).i, .int .i64 (M k).q, .int .i64 (M k).r, vb, vo, vc, vp]) ∧ MsgOk w' (fun b => b < w'.heap.size) ⟨M k, vb, vo, vc, vp⟩ ∧ Below W.heap.size W w') :
    Calls Tryz.prog 39 #[.agg #[.pointer (some ⟨g, 0, none⟩), .pointer (some ⟨h, 0, none⟩)], .int .i64 f, .int .i64 skip, .func (.func 65) #[] #[p1]] w fun e w' =>
      ∃ A c S', e = .returned (.slice A (Psp.quorum f).toNat c) ∧ Vi w w' S g bm h (w.heap.size + 1) (vts f (Psp.within skip (f + 1)) M K (Psp.quorum f).toNat).2 (vts f (Psp.within skip (f + 1)) M K (Psp.quorum f).toNat).1 (.slice A (Psp.quorum f).toNat c) S' := by
  have HT := Lib.hid hT
  have HCl := Lib.hid hclo
  have HM := Lib.hid hM
  have HSl := Lib.hid hT.lt
  have hgl := hT.nt.lt
  obtain ⟨s, hsk⟩ : ∃ s, Psp.within skip (f + 1) = s := ⟨_, rfl⟩
  have s0 : 0 ≤ s := by rw [← hsk]; exact Psp.within_lo _ _
  have s1 : s < f + 1 := by rw [← hsk]; exact Psp.within_hi _ _ (by omega)
  obtain ⟨qn, hqn⟩ : ∃ qn, Psp.quorum f = qn := ⟨_, rfl⟩
  obtain ⟨nn, hnn⟩ : ∃ nn, Psp.nodes f = nn := ⟨_, rfl⟩
  have e1 : nn = 3 * f + 1 := by rw [← hnn]; unfold Psp.nodes; rw [if_pos hf]
  have e2 : qn = 2 * f + 1 := by rw [← hqn]; unfold Psp.quorum; rw [if_pos hf]
  have HWi : Hid (∀ W : World, Calls Tryz.prog 8 #[.int .i64 skip, .int .i64 (f + 1)] W fun e w' => e = .returned (.int .i64 s) ∧ W = w') := Lib.hid fun W => by rw [← hsk]; exact within_any skip (f + 1) W hs.1 hs.2 (by omega) (by omega)
  have HNn : Hid (∀ W : World, Calls Tryz.prog 30 #[.int .i64 f] W fun e w' => e = .returned (.int .i64 nn) ∧ W = w') := Lib.hid fun W => by rw [← hnn]; exact r_nodes_any f W
  have HQn : Hid (∀ W : World, Calls Tryz.prog 33 #[.int .i64 f] W fun e w' => e = .returned (.int .i64 qn) ∧ W = w') := Lib.hid fun W => by rw [← hqn]; exact r_quorum_any f W
  have HkI : Hid (∀ i : Nat, kI f s i = if s ≤ (i : Int) then (i : Int) + nn - qn else (i : Int)) := Lib.hid fun i => by unfold kI; rw [hnn, hqn]
  rw [hsk, hqn]
  obtain ⟨q, rfl⟩ : ∃ q : Nat, qn = (q : Int) := ⟨qn.toNat, by omega⟩
  rw [Int.toNat_natCast]
  have hb0 := alloc_below w (.cells #[.pointer (some ⟨g, 0, none⟩), .pointer (some ⟨h, 0, none⟩)] 30)
  have hc0 := heap_alloc_new w (.cells #[.pointer (some ⟨g, 0, none⟩), .pointer (some ⟨h, 0, none⟩)] 30)
  have q1 : (q : Int) ≤ 9 := by omega
  have q2 : 1 ≤ q := by omega
  have n1 : (q : Int) ≤ nn := by omega
  have n2 : nn ≤ 13 := by omega
  have E1 := Lib.hid e1
  have E2 := Lib.hid e2
  clear hT hclo hM hsk hqn hnn e1 e2
  go_enter Tryz.func39, Tryz.ntmps39
  go_wp2_with (go_at_call 30; refine (HNn.out _).mono ?_; rintro e w' ⟨rfl, rfl⟩)
  obtain ⟨W, hW⟩ : ∃ W, w.alloc (.cells #[.pointer (some ⟨g, 0, none⟩), .pointer (some ⟨h, 0, none⟩)] 30) = W := ⟨_, rfl⟩
  rw [hW] at hb0 hc0 ⊢
  clear hW
  have HC0 := Lib.hid hc0
  have HVi : Hid (Vi w W S g bm h (w.heap.size + 1) (vts f s M K 0).2 (vts f s M K 0).1 (.slice none 0 0) S) := Lib.hid ⟨HT.out.below hb0, fun b hb => .inl hb, World.ownsRow_nil _ _ _ _, fun b hb => (by cases hb), Fp.of_below hb0 _⟩
  have hNl := (Array.getElem?_eq_some_iff.1 hc0).1
  clear hb0 hc0
  go_loopw [9, 11] (fun out i wr => ∃ (k : Nat) (A : Option Addr) (c : Nat) (S' : Nat → Prop), i = .int .i64 (k : Int) ∧ k ≤ q ∧ out = .slice A k c ∧ Hid (wr.heap[w.heap.size]? = some (.cells #[.pointer (some ⟨g, 0, none⟩), .pointer (some ⟨h, 0, none⟩)] 30 (0, 0))) ∧ Hid (Vi w wr S g bm h (w.heap.size + 1) (vts f s M K k).2 (vts f s M K k).1 out S')) (fun _ i _ => q - (intOf i).toNat)
  case atStart => exact ⟨0, none, 0, S, rfl, Nat.zero_le _, rfl, HC0, HVi⟩
  case round =>
    obtain ⟨k, A, c, S', rfl, hk, rfl, HC, HI⟩ := hrel
    by_cases hlt : k < q
    · have hqk : decide ((k : Int) < (q : Int)) = true := by simp; omega
      have hzr := HI.out.fp.size
      have hNr := (Array.getElem?_eq_some_iff.1 HC.out).1
      have hglr := HI.out.tw.nt.lt
      have hkl := vts_keys f s M K k
      have hvl := vts_len f s M K k
      have hx0 : wr.drew.heap[w.heap.size]? = _ := HC.out
      have HRT : Hid (∀ w' : World, (∃ p : LaterF wr.drew (fun b => b ≠ w.heap.size), w' = p.W) → w'.rangeAt w.heap.size 0 [.pointer (some ⟨g, 0, none⟩), .pointer (some ⟨h, 0, none⟩)]) := Lib.hid (by rintro w' ⟨p, rfl⟩; exact range_of_row ((p.h.block _ (show w.heap.size < wr.heap.size from hNr) (fun hh => hh rfl)).trans HC.out))
      clear hx0
      by_cases hsk : s ≤ (k : Int)
      · have hds : decide ((k : Int) ≥ s) = true := by simp; omega
        have Hkv : Hid (kI f s k = ((k : Int) + nn - (q : Int))) := Lib.hid (by rw [HkI.out]; rw [if_pos hsk])
        go_wp2_with (first | (go_at_call 33; refine (HQn.out _).mono ?_; rintro e w' ⟨rfl, rfl⟩) | (go_at_call 8; refine (HWi.out _).mono ?_; rintro e w' ⟨rfl, rfl⟩))
        refine wp_region_phasesF (fun b => b ≠ w.heap.size) [(true, 0), (true, 1), (true, 2), (true, 3), (true, 4), (false, 5), (false, 6), (false, 7), (false, 8), (false, 9)] (by kernel_rfl) (by kernel_rfl) ?_
        simp only [phS, List.getElem?_cons_zero, List.getElem?_cons_succ, Option.toList, List.length_cons, List.length_nil, Nat.reduceAdd, List.drop_succ_cons, List.drop_zero]
        repeat (first | go_big_quiet_step (fail) | (refine quiet_load (by simp [Region.wanted, yielded]) 30 (.tmp 4) (by rfl) w.heap.size (0) (by rfl) [.pointer (some ⟨g, 0, none⟩), .pointer (some ⟨h, 0, none⟩)] _ HRT.out Tryz.underlying30 rfl sizeTwo ?_; intro K hK; go_simp; refine hK _ ?_; clear hK K) | quiet_step (fail) | refine wpQuiet_nil ?_)
        go_wp2_with fail
        refine (HCl.out ((k : Int) + nn - (q : Int)) wr.drew (by omega) (by omega) HI.out.fp.drew).mono ?_
        rintro e w1 ⟨vb, vo, vc, vp, rfl, hmo, hb1⟩
        have HMo := Lib.hid hmo
        clear hmo
        have hb1' : Below wr.heap.size wr w1 := (Below.refl wr.heap.size wr).drew.trans hb1
        have hz1 := hb1'.size
        have HB1 := Lib.hid hb1'
        have HT1 := Lib.hid (HI.out.tw.below hb1')
        have HC1 := Lib.hid (box_below HC.out hb1' (Nat.le_refl _))
        have F1 := Lib.hid (Fp.of_below hb1 (fun b => b ≠ w.heap.size))
        clear hb1 hb1'
        go_wp2_with fail
        refine And.intro ⟨⟨w1, F1.out⟩, rfl⟩ ?_
        go_wp2_with fail
        refine (two_msg S' g bm h (vts f s M K k).2 (M ((k : Int) + nn - (q : Int))) vb vo vc vp w1 HT1.out HMo.out (by rw [HM.out]; exact ⟨by omega, by omega⟩) (by omega)).mono ?_
        rintro e w2 ⟨rfl, S'', hT2, hS2, hF2⟩
        obtain ⟨sv, hsv⟩ : ∃ sv, sealM (vts f s M K k).2 (M ((k : Int) + nn - (q : Int))) = sv := ⟨_, rfl⟩
        rw [hsv]
        have Hsv := Lib.hid hsv
        have hz2 := hF2.size
        have hnN : ¬ (S' w.heap.size ∨ w.heap.size = bm) := by
          rintro (hh | hh)
          · rcases HI.out.new _ hh with h1 | h1
            · have := HSl.out _ h1; omega
            · omega
          · omega
        have hN2 := (hF2.block w.heap.size (by omega) hnN).trans HC1.out
        have hown1 := own_below HI.out.own HB1.out
        have hown2 : w2.ownsRow (w.heap.size + 1) 54 2 (.slice A k c) k ((vts f s M K k).1.flatMap vt) := by
          have h2 := own_keep hown1 (w' := w2) fun b hb => hF2.block b (hown1.lt b hb).2 (by rintro (hh | hh); exact (HI.out.sep b hb).1 hh; exact (HI.out.sep b hb).2.2 hh)
          rwa [hvl] at h2
        have F2 := Lib.hid (F1.out.trans hF2 (fun j hj => Or.inl (show j ≠ w.heap.size from fun hh => hnN (hh ▸ hj))))
        have HT2 := Lib.hid hT2
        have HS2 := Lib.hid hS2
        have HF2 := Lib.hid hF2
        have HC2 := Lib.hid hN2
        have Hown2 := Lib.hid hown2
        clear hsv hnN hN2 hown1 hown2 hT2 hS2 hF2
        go_wp2_with fail
        refine And.intro ⟨⟨w2, F2.out⟩, rfl⟩ ?_
        go_wp2_with fail
        refine And.intro ⟨⟨w2, F2.out⟩, rfl⟩ ?_
        go_wp2_with fail
        refine And.intro ⟨⟨_, F2.out.alloc _⟩, rfl⟩ ?_
        go_wp2_with (at_builtin; refine wpList_app1 votE rfl _ _ rfl (w.heap.size + 1) (.slice A k c) k _ rfl Hown2.out _ rfl rfl (by simp [Value.oneCell']) (by omega) (by decide) (by omega) ?_; intro v' w4 hown4 hg4 _ hv4; have Hown4 := Lib.hid hown4; have Hg4 := Lib.hid hg4; have Hv4 := Lib.hid hv4; clear hown4 hg4 hv4; obtain ⟨A4, c4, rfl, _, _, _⟩ := own_slice Hown4.out)
        have hw24 := Hg4.out.size
        have hrow : ∀ j, (Value.slice A k c).ownBlock = some j → w.heap.size + 1 ≤ j ∧ j < w2.heap.size := fun j hj => Hown2.out.lt j hj
        refine And.intro ⟨⟨w4, F2.out.grown Hg4.out (fun j hj => Or.inl (show j ≠ w.heap.size by have := (hrow j hj).1; omega))⟩, rfl⟩ ?_
        have hF24 : Fp (fun b => (Value.slice A k c).ownBlock = some b) w2 w4 := (Fp.refl _ w2).grown Hg4.out (fun j hj => Or.inl hj)
        have hS2' : ∀ b, S'' b → S b ∨ w.heap.size + 1 ≤ b := fun b hb => by
          rcases HS2.out b hb with h1 | h1
          · exact HI.out.new b h1
          · right; omega
        have hsepA : ∀ b, (Value.slice A k c).ownBlock = some b → ¬ S'' b ∧ b ≠ g ∧ b ≠ bm := fun b hb => by
          obtain ⟨q1, q2, q3⟩ := HI.out.sep b hb
          refine ⟨fun hh => ?_, q2, q3⟩
          rcases HS2.out b hh with h1 | h1
          · exact q1 h1
          · have := (HI.out.own.lt b hb).2; omega
        have htw4 : Tw w4 S'' g bm h (sealK (vts f s M K k).2 (M ((k : Int) + nn - (q : Int)))) := HT2.out.fp hF24 (fun hh => (hsepA g hh).2.1 rfl) (fun hh => (hsepA bm hh).2.2 rfl) (fun b hb hh => (hsepA b hh).1 hb)
        have HVn : Hid (Vi w w4 S g bm h (w.heap.size + 1) (vts f s M K (k + 1)).2 (vts f s M K (k + 1)).1 (.slice A4 (k + 1) c4) S'') := Lib.hid (by
          have hv1 : (vts f s M K (k + 1)).1 = (vts f s M K k).1 ++ [⟨((k : Int) + nn - (q : Int)), sv⟩] := by
            show _ ++ [_] = _
            rw [Hkv.out, Hsv.out]
          have hv2 : (vts f s M K (k + 1)).2 = sealK (vts f s M K k).2 (M ((k : Int) + nn - (q : Int))) := by
            show sealK _ _ = _
            rw [Hkv.out]
          rw [hv1, hv2]
          clear hv1 hv2
          refine ⟨htw4, hS2', ?_, fun b hb => ?_, ?_⟩
          · have h4 := Hown4.out
            rw [List.length_append, hvl, List.flatMap_append]
            simpa [vt, iv] using h4
          · rcases Hv4.out with hv | hv
            · rw [hv] at hb; exact hsepA b hb
            · rw [hv] at hb
              injection hb with hb
              subst hb
              refine ⟨fun hh => ?_, by omega, by omega⟩
              have := HT2.out.lt _ hh
              omega
          · exact ((HI.out.fp.trans (Fp.of_below HB1.out (fun _ => False)) (fun _ hh => hh.elim)).trans HF2.out (fun j hj => by
              rcases hj with hj | hj
              · rcases HI.out.new j hj with h1 | h1
                · exact .inl (.inl h1)
                · right; omega
              · exact .inl (.inr hj))).grown Hg4.out (fun j hj => Or.inr (by have := (hrow j hj).1; omega)))
        have HCn : Hid (w4.heap[w.heap.size]? = some (.cells #[.pointer (some ⟨g, 0, none⟩), .pointer (some ⟨h, 0, none⟩)] 30 (0, 0))) := Lib.hid ((hF24.block w.heap.size (by omega) (fun hh => by have := (hrow _ hh).1; omega)).trans HC2.out)
        clear hrow hF24 hS2' hsepA htw4
        go_wp2_with fail
        refine ⟨⟨k + 1, A4, c4, S'', by go_num, by omega, rfl, HCn, HVn⟩, ?_⟩
        simp [intOf]; omega
      · have hds : decide ((k : Int) ≥ s) = false := by simp; omega
        have Hkv : Hid (kI f s k = (k : Int)) := Lib.hid (by rw [HkI.out]; rw [if_neg hsk])
        go_wp2_with (first | (go_at_call 33; refine (HQn.out _).mono ?_; rintro e w' ⟨rfl, rfl⟩) | (go_at_call 8; refine (HWi.out _).mono ?_; rintro e w' ⟨rfl, rfl⟩))
        refine wp_region_phasesF (fun b => b ≠ w.heap.size) [(true, 0), (true, 1), (true, 2), (true, 3), (true, 4), (false, 5), (false, 6), (false, 7), (false, 8), (false, 9)] (by kernel_rfl) (by kernel_rfl) ?_
        simp only [phS, List.getElem?_cons_zero, List.getElem?_cons_succ, Option.toList, List.length_cons, List.length_nil, Nat.reduceAdd, List.drop_succ_cons, List.drop_zero]
        repeat (first | go_big_quiet_step (fail) | (refine quiet_load (by simp [Region.wanted, yielded]) 30 (.tmp 4) (by rfl) w.heap.size (0) (by rfl) [.pointer (some ⟨g, 0, none⟩), .pointer (some ⟨h, 0, none⟩)] _ HRT.out Tryz.underlying30 rfl sizeTwo ?_; intro K hK; go_simp; refine hK _ ?_; clear hK K) | quiet_step (fail) | refine wpQuiet_nil ?_)
        go_wp2_with fail
        refine (HCl.out (k : Int) wr.drew (by omega) (by omega) HI.out.fp.drew).mono ?_
        rintro e w1 ⟨vb, vo, vc, vp, rfl, hmo, hb1⟩
        have HMo := Lib.hid hmo
        clear hmo
        have hb1' : Below wr.heap.size wr w1 := (Below.refl wr.heap.size wr).drew.trans hb1
        have hz1 := hb1'.size
        have HB1 := Lib.hid hb1'
        have HT1 := Lib.hid (HI.out.tw.below hb1')
        have HC1 := Lib.hid (box_below HC.out hb1' (Nat.le_refl _))
        have F1 := Lib.hid (Fp.of_below hb1 (fun b => b ≠ w.heap.size))
        clear hb1 hb1'
        go_wp2_with fail
        refine And.intro ⟨⟨w1, F1.out⟩, rfl⟩ ?_
        go_wp2_with fail
        refine (two_msg S' g bm h (vts f s M K k).2 (M (k : Int)) vb vo vc vp w1 HT1.out HMo.out (by rw [HM.out]; exact ⟨by omega, by omega⟩) (by omega)).mono ?_
        rintro e w2 ⟨rfl, S'', hT2, hS2, hF2⟩
        obtain ⟨sv, hsv⟩ : ∃ sv, sealM (vts f s M K k).2 (M (k : Int)) = sv := ⟨_, rfl⟩
        rw [hsv]
        have Hsv := Lib.hid hsv
        have hz2 := hF2.size
        have hnN : ¬ (S' w.heap.size ∨ w.heap.size = bm) := by
          rintro (hh | hh)
          · rcases HI.out.new _ hh with h1 | h1
            · have := HSl.out _ h1; omega
            · omega
          · omega
        have hN2 := (hF2.block w.heap.size (by omega) hnN).trans HC1.out
        have hown1 := own_below HI.out.own HB1.out
        have hown2 : w2.ownsRow (w.heap.size + 1) 54 2 (.slice A k c) k ((vts f s M K k).1.flatMap vt) := by
          have h2 := own_keep hown1 (w' := w2) fun b hb => hF2.block b (hown1.lt b hb).2 (by rintro (hh | hh); exact (HI.out.sep b hb).1 hh; exact (HI.out.sep b hb).2.2 hh)
          rwa [hvl] at h2
        have F2 := Lib.hid (F1.out.trans hF2 (fun j hj => Or.inl (show j ≠ w.heap.size from fun hh => hnN (hh ▸ hj))))
        have HT2 := Lib.hid hT2
        have HS2 := Lib.hid hS2
        have HF2 := Lib.hid hF2
        have HC2 := Lib.hid hN2
        have Hown2 := Lib.hid hown2
        clear hsv hnN hN2 hown1 hown2 hT2 hS2 hF2
        go_wp2_with fail
        refine And.intro ⟨⟨w2, F2.out⟩, rfl⟩ ?_
        go_wp2_with fail
        refine And.intro ⟨⟨w2, F2.out⟩, rfl⟩ ?_
        go_wp2_with fail
        refine And.intro ⟨⟨_, F2.out.alloc _⟩, rfl⟩ ?_
        go_wp2_with (at_builtin; refine wpList_app1 votE rfl _ _ rfl (w.heap.size + 1) (.slice A k c) k _ rfl Hown2.out _ rfl rfl (by simp [Value.oneCell']) (by omega) (by decide) (by omega) ?_; intro v' w4 hown4 hg4 _ hv4; have Hown4 := Lib.hid hown4; have Hg4 := Lib.hid hg4; have Hv4 := Lib.hid hv4; clear hown4 hg4 hv4; obtain ⟨A4, c4, rfl, _, _, _⟩ := own_slice Hown4.out)
        have hw24 := Hg4.out.size
        have hrow : ∀ j, (Value.slice A k c).ownBlock = some j → w.heap.size + 1 ≤ j ∧ j < w2.heap.size := fun j hj => Hown2.out.lt j hj
        refine And.intro ⟨⟨w4, F2.out.grown Hg4.out (fun j hj => Or.inl (show j ≠ w.heap.size by have := (hrow j hj).1; omega))⟩, rfl⟩ ?_
        have hF24 : Fp (fun b => (Value.slice A k c).ownBlock = some b) w2 w4 := (Fp.refl _ w2).grown Hg4.out (fun j hj => Or.inl hj)
        have hS2' : ∀ b, S'' b → S b ∨ w.heap.size + 1 ≤ b := fun b hb => by
          rcases HS2.out b hb with h1 | h1
          · exact HI.out.new b h1
          · right; omega
        have hsepA : ∀ b, (Value.slice A k c).ownBlock = some b → ¬ S'' b ∧ b ≠ g ∧ b ≠ bm := fun b hb => by
          obtain ⟨q1, q2, q3⟩ := HI.out.sep b hb
          refine ⟨fun hh => ?_, q2, q3⟩
          rcases HS2.out b hh with h1 | h1
          · exact q1 h1
          · have := (HI.out.own.lt b hb).2; omega
        have htw4 : Tw w4 S'' g bm h (sealK (vts f s M K k).2 (M (k : Int))) := HT2.out.fp hF24 (fun hh => (hsepA g hh).2.1 rfl) (fun hh => (hsepA bm hh).2.2 rfl) (fun b hb hh => (hsepA b hh).1 hb)
        have HVn : Hid (Vi w w4 S g bm h (w.heap.size + 1) (vts f s M K (k + 1)).2 (vts f s M K (k + 1)).1 (.slice A4 (k + 1) c4) S'') := Lib.hid (by
          have hv1 : (vts f s M K (k + 1)).1 = (vts f s M K k).1 ++ [⟨(k : Int), sv⟩] := by
            show _ ++ [_] = _
            rw [Hkv.out, Hsv.out]
          have hv2 : (vts f s M K (k + 1)).2 = sealK (vts f s M K k).2 (M (k : Int)) := by
            show sealK _ _ = _
            rw [Hkv.out]
          rw [hv1, hv2]
          clear hv1 hv2
          refine ⟨htw4, hS2', ?_, fun b hb => ?_, ?_⟩
          · have h4 := Hown4.out
            rw [List.length_append, hvl, List.flatMap_append]
            simpa [vt, iv] using h4
          · rcases Hv4.out with hv | hv
            · rw [hv] at hb; exact hsepA b hb
            · rw [hv] at hb
              injection hb with hb
              subst hb
              refine ⟨fun hh => ?_, by omega, by omega⟩
              have := HT2.out.lt _ hh
              omega
          · exact ((HI.out.fp.trans (Fp.of_below HB1.out (fun _ => False)) (fun _ hh => hh.elim)).trans HF2.out (fun j hj => by
              rcases hj with hj | hj
              · rcases HI.out.new j hj with h1 | h1
                · exact .inl (.inl h1)
                · right; omega
              · exact .inl (.inr hj))).grown Hg4.out (fun j hj => Or.inr (by have := (hrow j hj).1; omega)))
        have HCn : Hid (w4.heap[w.heap.size]? = some (.cells #[.pointer (some ⟨g, 0, none⟩), .pointer (some ⟨h, 0, none⟩)] 30 (0, 0))) := Lib.hid ((hF24.block w.heap.size (by omega) (fun hh => by have := (hrow _ hh).1; omega)).trans HC2.out)
        clear hrow hF24 hS2' hsepA htw4
        go_wp2_with fail
        refine ⟨⟨k + 1, A4, c4, S'', by go_num, by omega, rfl, HCn, HVn⟩, ?_⟩
        simp [intOf]; omega
    · have hkq : k = q := by omega
      subst hkq
      have hqk : decide ((k : Int) < (k : Int)) = false := by simp
      go_wp2_with (go_at_call 33; refine (HQn.out _).mono ?_; rintro e w' ⟨rfl, rfl⟩)
      go_ret
      exact ⟨A, c, S', rfl, HI.out⟩
end Go.Proofs.YtadpkjgjciodnaaGreat
