/- Two.Votes: a quorum's votes. Printed by gen_vts.py. -/
import Derived.Test.YtljfoajhobambaaSd
import Derived.Test.YtljfoajhobambaaPhS
namespace Go.Proofs.Ytljfoajhobambaa
open Go.RowKit
set_option linter.unusedVariables false
set_option linter.unusedSimpArgs false

/-- The i-th voter, where those from s on are others. -/
def kI (f s : Int) (i : Nat) : Int := if s ≤ (i : Int) then (i : Int) + Psp.nodes f - Psp.quorum f else (i : Int)
/-- The first votes, and what has been sealed. -/
def vts (f s : Int) (M : Int → Psp.Msg) (K : List Key) : Nat → List Psp.Vote × List Key
  | 0 => ([], K)
  | i + 1 => ((vts f s M K i).1 ++ [⟨kI f s i, sealM (vts f s M K i).2 (M (kI f s i))⟩], sealK (vts f s M K i).2 (M (kI f s i)))
theorem vts_len (f s : Int) (M : Int → Psp.Msg) (K : List Key) : ∀ i, (vts f s M K i).1.length = i
  | 0 => rfl
  | i + 1 => by simp [vts, vts_len f s M K i]
theorem sealK_len (K : List Key) (m : Psp.Msg) : (sealK K m).length ≤ K.length + 1 := by
  unfold sealK sealL
  split
  · split
    · omega
    · simp
  · omega
theorem vts_keys (f s : Int) (M : Int → Psp.Msg) (K : List Key) : ∀ i, (vts f s M K i).2.length ≤ K.length + i
  | 0 => Nat.le_refl _
  | i + 1 => by
    have h1 := vts_keys f s M K i
    have h2 := sealK_len (vts f s M K i).2 (M (kI f s i))
    show (sealK _ _).length ≤ _
    omega

set_option maxRecDepth 100000 in
set_option maxHeartbeats 1000000 in
theorem clo_ch (k view : Int) (b : Nat) (w : World) (hb : w.cell? ⟨b, 0, none⟩ = some (.int .i64 view)) :
    Calls Try.prog 37 #[.int .i64 k, .pointer (some ⟨b, 0, none⟩)] w fun e w' => e = .returned (.agg #[.int .i64 6, .int .i64 k, .int .i64 view, .int .i64 0, .int .i64 0, .int .i64 0, .slice none 0 0, .slice none 0 0, .slice none 0 0, .slice none 0 0]) ∧ Below w.heap.size w w' := by
  have hb2 : (w.alloc (.cells zs 27)).cell? ⟨b, 0, none⟩ = some (.int .i64 view) := by
    have h := World.block_lt_of_cell? w ⟨b, 0, none⟩ hb
    exact ((alloc_below w (.cells zs 27)).cell (p := ⟨b, 0, none⟩) h).trans hb
  go_enter Try.func37, Try.ntmps37
  go_wp2_with fail
  have hh := heap_alloc_new w (.cells #[.int .i64 6, .int .i64 k, .int .i64 view, .int .i64 0, .int .i64 0, .int .i64 0, .slice none 0 0, .slice none 0 0, .slice none 0 0, .slice none 0 0] 27)
  refine bodyPost_ret (v := .agg #[.int .i64 6, .int .i64 k, .int .i64 view, .int .i64 0, .int .i64 0, .int .i64 0, .slice none 0 0, .slice none 0 0, .slice none 0 0, .slice none 0 0]) ?_ rfl ?_
  · exact results_cell_row Try.results37 _ _ w.heap.size _ _ _ _ rfl hh Try.underlying27 rfl sizeM
  · exact ⟨rfl, alloc_below w _⟩

/-- What the loop keeps. -/
structure Vi (w0 wr : World) (S : Nat → Prop) (g bm h : Nat) (B : Nat) (K : List Key) (l : List Psp.Vote) (out : Value) (S' : Nat → Prop) : Prop where
  tw : Tw wr S' g bm h K
  new : ∀ b, S' b → S b ∨ B ≤ b
  own : wr.ownsRow B 52 2 out l.length (l.flatMap vt)
  sep : ∀ b, out.ownBlock = some b → ¬ S' b ∧ b ≠ g ∧ b ≠ bm
  fp : Fp (fun b => S b ∨ b = bm) w0 wr

set_option maxRecDepth 100000 in
set_option maxHeartbeats 8000000 in
theorem votes_ch (f skip view : Int) (S : Nat → Prop) (g bm h bv : Nat) (K : List Key) (w : World) (hf : 1 ≤ f ∧ f ≤ 4) (hs : isI64 skip) (hT : Tw w S g bm h K) (hK : K.length < 1000000) (hv : w.cell? ⟨bv, 0, none⟩ = some (.int .i64 view)) (hbv : ¬ S bv ∧ bv ≠ bm) :
    Calls Try.prog 36 #[.agg #[.pointer (some ⟨g, 0, none⟩), .pointer (some ⟨h, 0, none⟩)], .int .i64 f, .int .i64 skip, .func (.func 37) #[] #[.pointer (some ⟨bv, 0, none⟩)]] w fun e w' =>
      ∃ A c S', e = .returned (.slice A (Psp.quorum f).toNat c) ∧ Vi w w' S g bm h (w.heap.size + 1) (vts f (Psp.within skip (f + 1)) (fun k => chM k view) K (Psp.quorum f).toNat).2 (vts f (Psp.within skip (f + 1)) (fun k => chM k view) K (Psp.quorum f).toNat).1 (.slice A (Psp.quorum f).toNat c) S' := by
  have HT := Lib.hid hT
  have HV := Lib.hid hv
  have HSl := Lib.hid hT.lt
  have hgl := hT.nt.lt
  obtain ⟨s, hsk⟩ : ∃ s, Psp.within skip (f + 1) = s := ⟨_, rfl⟩
  have s0 : 0 ≤ s := by rw [← hsk]; exact Psp.within_lo _ _
  have s1 : s < f + 1 := by rw [← hsk]; exact Psp.within_hi _ _ (by omega)
  obtain ⟨qn, hqn⟩ : ∃ qn, Psp.quorum f = qn := ⟨_, rfl⟩
  obtain ⟨nn, hnn⟩ : ∃ nn, Psp.nodes f = nn := ⟨_, rfl⟩
  have e1 : nn = 3 * f + 1 := by rw [← hnn]; unfold Psp.nodes; rw [if_pos hf]
  have e2 : qn = 2 * f + 1 := by rw [← hqn]; unfold Psp.quorum; rw [if_pos hf]
  have HWi : Hid (∀ W : World, Calls Try.prog 17 #[.int .i64 skip, .int .i64 (f + 1)] W fun e w' => e = .returned (.int .i64 s) ∧ W = w') := Lib.hid fun W => by rw [← hsk]; exact within_any skip (f + 1) W hs.1 hs.2 (by omega) (by omega)
  have HNn : Hid (∀ W : World, Calls Try.prog 64 #[.int .i64 f] W fun e w' => e = .returned (.int .i64 nn) ∧ W = w') := Lib.hid fun W => by rw [← hnn]; exact r_nodes_any f W
  have HQn : Hid (∀ W : World, Calls Try.prog 94 #[.int .i64 f] W fun e w' => e = .returned (.int .i64 qn) ∧ W = w') := Lib.hid fun W => by rw [← hqn]; exact r_quorum_any f W
  have HkI : Hid (∀ i : Nat, kI f s i = if s ≤ (i : Int) then (i : Int) + nn - qn else (i : Int)) := Lib.hid fun i => by unfold kI; rw [hnn, hqn]
  rw [hsk, hqn]
  obtain ⟨q, rfl⟩ : ∃ q : Nat, qn = (q : Int) := ⟨qn.toNat, by omega⟩
  rw [Int.toNat_natCast]
  have hb0 := alloc_below w (.cells #[.pointer (some ⟨g, 0, none⟩), .pointer (some ⟨h, 0, none⟩)] 59)
  have hc0 := heap_alloc_new w (.cells #[.pointer (some ⟨g, 0, none⟩), .pointer (some ⟨h, 0, none⟩)] 59)
  have q1 : (q : Int) ≤ 9 := by omega
  have q2 : 1 ≤ q := by omega
  have n1 : (q : Int) ≤ nn := by omega
  have n2 : nn ≤ 13 := by omega
  have E1 := Lib.hid e1
  have E2 := Lib.hid e2
  clear hT hv hsk hqn hnn e1 e2
  go_enter Try.func36, Try.ntmps36
  go_wp2_with (go_at_call 64; refine (HNn.out _).mono ?_; rintro e w' ⟨rfl, rfl⟩)
  obtain ⟨W, hW⟩ : ∃ W, w.alloc (.cells #[.pointer (some ⟨g, 0, none⟩), .pointer (some ⟨h, 0, none⟩)] 59) = W := ⟨_, rfl⟩
  rw [hW] at hb0 hc0 ⊢
  clear hW
  have HC0 := Lib.hid hc0
  have HVi : Hid (Vi w W S g bm h (w.heap.size + 1) (vts f s (fun k => chM k view) K 0).2 (vts f s (fun k => chM k view) K 0).1 (.slice none 0 0) S) := Lib.hid ⟨HT.out.below hb0, fun b hb => .inl hb, World.ownsRow_nil _ _ _ _, fun b hb => (by cases hb), Fp.of_below hb0 _⟩
  have hNl := (Array.getElem?_eq_some_iff.1 hc0).1
  clear hb0 hc0
  go_loopw [9, 11] (fun out i wr => ∃ (k : Nat) (A : Option Addr) (c : Nat) (S' : Nat → Prop), i = .int .i64 (k : Int) ∧ k ≤ q ∧ out = .slice A k c ∧ Hid (wr.heap[w.heap.size]? = some (.cells #[.pointer (some ⟨g, 0, none⟩), .pointer (some ⟨h, 0, none⟩)] 59 (0, 0))) ∧ Hid (Vi w wr S g bm h (w.heap.size + 1) (vts f s (fun k => chM k view) K k).2 (vts f s (fun k => chM k view) K k).1 out S')) (fun _ i _ => q - (intOf i).toNat)
  case atStart => exact ⟨0, none, 0, S, rfl, Nat.zero_le _, rfl, HC0, HVi⟩
  case round =>
    obtain ⟨k, A, c, S', rfl, hk, rfl, HC, HI⟩ := hrel
    by_cases hlt : k < q
    · have hqk : decide ((k : Int) < (q : Int)) = true := by simp; omega
      have hzr := HI.out.fp.size
      have hNr := (Array.getElem?_eq_some_iff.1 HC.out).1
      have hglr := HI.out.tw.nt.lt
      have hkl := vts_keys f s (fun k => chM k view) K k
      have hvl := vts_len f s (fun k => chM k view) K k
      have hbl : bv < w.heap.size := World.block_lt_of_cell? w ⟨bv, 0, none⟩ HV.out
      have hcv : wr.cell? ⟨bv, 0, none⟩ = some (.int .i64 view) := (HI.out.fp.cell hbl (by rintro (h1 | h1); exact hbv.1 h1; exact hbv.2 h1)).trans HV.out
      have HCV := Lib.hid hcv
      have hx0 : wr.drew.heap[w.heap.size]? = _ := HC.out
      have HRT : Hid (∀ w' : World, (∃ p : LaterF wr.drew (fun b => b ≠ w.heap.size), w' = p.W) → w'.rangeAt w.heap.size 0 [.pointer (some ⟨g, 0, none⟩), .pointer (some ⟨h, 0, none⟩)]) := Lib.hid (by rintro w' ⟨p, rfl⟩; exact range_of_row ((p.h.block _ (show w.heap.size < wr.heap.size from hNr) (fun hh => hh rfl)).trans HC.out))
      clear hcv hx0
      by_cases hsk : s ≤ (k : Int)
      · have hds : decide ((k : Int) ≥ s) = true := by simp; omega
        have Hkv : Hid (kI f s k = ((k : Int) + nn - (q : Int))) := Lib.hid (by rw [HkI.out]; rw [if_pos hsk])
        go_wp2_with (first | (go_at_call 94; refine (HQn.out _).mono ?_; rintro e w' ⟨rfl, rfl⟩) | (go_at_call 17; refine (HWi.out _).mono ?_; rintro e w' ⟨rfl, rfl⟩))
        refine wp_region_phasesF (fun b => b ≠ w.heap.size) [(true, 0), (true, 1), (true, 2), (true, 3), (true, 4), (false, 5), (false, 6), (false, 7), (false, 8), (false, 9)] (by kernel_rfl) (by kernel_rfl) ?_
        simp only [phS, List.getElem?_cons_zero, List.getElem?_cons_succ, Option.toList, List.length_cons, List.length_nil, Nat.reduceAdd, List.drop_succ_cons, List.drop_zero]
        repeat (first | go_big_quiet_step (fail) | (refine quiet_load (by simp [Region.wanted, yielded]) 59 (.tmp 4) (by rfl) w.heap.size (0) (by rfl) [.pointer (some ⟨g, 0, none⟩), .pointer (some ⟨h, 0, none⟩)] _ HRT.out Try.underlying59 rfl sizeTwo ?_; intro K hK; go_simp; refine hK _ ?_; clear hK K) | quiet_step (fail) | refine wpQuiet_nil ?_)
        go_wp2_with fail
        refine (clo_ch ((k : Int) + nn - (q : Int)) view bv wr.drew HCV.out).mono ?_
        rintro e w1 ⟨rfl, hb1⟩
        have hb1' : Below wr.heap.size wr w1 := (Below.refl wr.heap.size wr).drew.trans hb1
        have hz1 := hb1'.size
        have HB1 := Lib.hid hb1'
        have HT1 := Lib.hid (HI.out.tw.below hb1')
        have HC1 := Lib.hid (box_below HC.out hb1' (Nat.le_refl _))
        have F1 := Lib.hid (Fp.of_below hb1 (fun b => b ≠ w.heap.size))
        clear hb1 hb1'
        go_wp2_with fail
        refine And.intro ⟨⟨w1, F1.out⟩, rfl⟩ ?_
        go_wp2_with fail
        refine (two_msg S' g bm h (vts f s (fun k => chM k view) K k).2 (chM ((k : Int) + nn - (q : Int)) view) (.slice none 0 0) (.slice none 0 0) (.slice none 0 0) (.slice none 0 0) w1 HT1.out ⟨RdP.none_, RdP.none_, RdC.nil, RdA.nil⟩ ⟨by show _ ≤ ((k : Int) + nn - (q : Int)); omega, by show ((k : Int) + nn - (q : Int)) ≤ _; omega⟩ (by omega)).mono ?_
        rintro e w2 ⟨rfl, S'', hT2, hS2, hF2⟩
        obtain ⟨sv, hsv⟩ : ∃ sv, sealM (vts f s (fun k => chM k view) K k).2 (chM ((k : Int) + nn - (q : Int)) view) = sv := ⟨_, rfl⟩
        rw [hsv]
        have Hsv := Lib.hid hsv
        have hz2 := hF2.size
        have hnN : ¬ (S' w.heap.size ∨ w.heap.size = bm) := by
          rintro (hh | hh)
          · rcases HI.out.new _ hh with h1 | h1
            · have := HSl.out _ h1; omega
            · omega
          · omega
        have hN2 := (hF2.block w.heap.size (by omega) hnN).trans HC1.out
        have hown1 := own_below HI.out.own HB1.out
        have hown2 : w2.ownsRow (w.heap.size + 1) 52 2 (.slice A k c) k ((vts f s (fun k => chM k view) K k).1.flatMap vt) := by
          have h2 := own_keep hown1 (w' := w2) fun b hb => hF2.block b (hown1.lt b hb).2 (by rintro (hh | hh); exact (HI.out.sep b hb).1 hh; exact (HI.out.sep b hb).2.2 hh)
          rwa [hvl] at h2
        have F2 := Lib.hid (F1.out.trans hF2 (fun j hj => Or.inl (show j ≠ w.heap.size from fun hh => hnN (hh ▸ hj))))
        have HT2 := Lib.hid hT2
        have HS2 := Lib.hid hS2
        have HF2 := Lib.hid hF2
        have HC2 := Lib.hid hN2
        have Hown2 := Lib.hid hown2
        clear hsv hnN hN2 hown1 hown2 hT2 hS2 hF2
        go_wp2_with fail
        refine And.intro ⟨⟨w2, F2.out⟩, rfl⟩ ?_
        go_wp2_with fail
        refine And.intro ⟨⟨w2, F2.out⟩, rfl⟩ ?_
        go_wp2_with fail
        refine And.intro ⟨⟨_, F2.out.alloc _⟩, rfl⟩ ?_
        go_wp2_with (at_builtin; refine wpList_app1 votE rfl _ _ rfl (w.heap.size + 1) (.slice A k c) k _ rfl Hown2.out _ rfl rfl (by simp [Value.oneCell']) (by omega) (by decide) (by omega) ?_; intro v' w4 hown4 hg4 _ hv4; have Hown4 := Lib.hid hown4; have Hg4 := Lib.hid hg4; have Hv4 := Lib.hid hv4; clear hown4 hg4 hv4; obtain ⟨A4, c4, rfl, _, _, _⟩ := own_slice Hown4.out)
        have hw24 := Hg4.out.size
        have hrow : ∀ j, (Value.slice A k c).ownBlock = some j → w.heap.size + 1 ≤ j ∧ j < w2.heap.size := fun j hj => Hown2.out.lt j hj
        refine And.intro ⟨⟨w4, F2.out.grown Hg4.out (fun j hj => Or.inl (show j ≠ w.heap.size by have := (hrow j hj).1; omega))⟩, rfl⟩ ?_
        have hF24 : Fp (fun b => (Value.slice A k c).ownBlock = some b) w2 w4 := (Fp.refl _ w2).grown Hg4.out (fun j hj => Or.inl hj)
        have hS2' : ∀ b, S'' b → S b ∨ w.heap.size + 1 ≤ b := fun b hb => by
          rcases HS2.out b hb with h1 | h1
          · exact HI.out.new b h1
          · right; omega
        have hsepA : ∀ b, (Value.slice A k c).ownBlock = some b → ¬ S'' b ∧ b ≠ g ∧ b ≠ bm := fun b hb => by
          obtain ⟨q1, q2, q3⟩ := HI.out.sep b hb
          refine ⟨fun hh => ?_, q2, q3⟩
          rcases HS2.out b hh with h1 | h1
          · exact q1 h1
          · have := (HI.out.own.lt b hb).2; omega
        have htw4 : Tw w4 S'' g bm h (sealK (vts f s (fun k => chM k view) K k).2 (chM ((k : Int) + nn - (q : Int)) view)) := HT2.out.fp hF24 (fun hh => (hsepA g hh).2.1 rfl) (fun hh => (hsepA bm hh).2.2 rfl) (fun b hb hh => (hsepA b hh).1 hb)
        have HVn : Hid (Vi w w4 S g bm h (w.heap.size + 1) (vts f s (fun k => chM k view) K (k + 1)).2 (vts f s (fun k => chM k view) K (k + 1)).1 (.slice A4 (k + 1) c4) S'') := Lib.hid (by
          have hv1 : (vts f s (fun k => chM k view) K (k + 1)).1 = (vts f s (fun k => chM k view) K k).1 ++ [⟨((k : Int) + nn - (q : Int)), sv⟩] := by
            show _ ++ [_] = _
            rw [Hkv.out, Hsv.out]
          have hv2 : (vts f s (fun k => chM k view) K (k + 1)).2 = sealK (vts f s (fun k => chM k view) K k).2 (chM ((k : Int) + nn - (q : Int)) view) := by
            show sealK _ _ = _
            rw [Hkv.out]
          rw [hv1, hv2]
          clear hv1 hv2
          refine ⟨htw4, hS2', ?_, fun b hb => ?_, ?_⟩
          · have h4 := Hown4.out
            rw [List.length_append, hvl, List.flatMap_append]
            simpa [vt, iv] using h4
          · rcases Hv4.out with hv | hv
            · rw [hv] at hb; exact hsepA b hb
            · rw [hv] at hb
              injection hb with hb
              subst hb
              refine ⟨fun hh => ?_, by omega, by omega⟩
              have := HT2.out.lt _ hh
              omega
          · exact ((HI.out.fp.trans (Fp.of_below HB1.out (fun _ => False)) (fun _ hh => hh.elim)).trans HF2.out (fun j hj => by
              rcases hj with hj | hj
              · rcases HI.out.new j hj with h1 | h1
                · exact .inl (.inl h1)
                · right; omega
              · exact .inl (.inr hj))).grown Hg4.out (fun j hj => Or.inr (by have := (hrow j hj).1; omega)))
        have HCn : Hid (w4.heap[w.heap.size]? = some (.cells #[.pointer (some ⟨g, 0, none⟩), .pointer (some ⟨h, 0, none⟩)] 59 (0, 0))) := Lib.hid ((hF24.block w.heap.size (by omega) (fun hh => by have := (hrow _ hh).1; omega)).trans HC2.out)
        clear hrow hF24 hS2' hsepA htw4
        go_wp2_with fail
        refine ⟨⟨k + 1, A4, c4, S'', by go_num, by omega, rfl, HCn, HVn⟩, ?_⟩
        simp [intOf]; omega
      · have hds : decide ((k : Int) ≥ s) = false := by simp; omega
        have Hkv : Hid (kI f s k = (k : Int)) := Lib.hid (by rw [HkI.out]; rw [if_neg hsk])
        go_wp2_with (first | (go_at_call 94; refine (HQn.out _).mono ?_; rintro e w' ⟨rfl, rfl⟩) | (go_at_call 17; refine (HWi.out _).mono ?_; rintro e w' ⟨rfl, rfl⟩))
        refine wp_region_phasesF (fun b => b ≠ w.heap.size) [(true, 0), (true, 1), (true, 2), (true, 3), (true, 4), (false, 5), (false, 6), (false, 7), (false, 8), (false, 9)] (by kernel_rfl) (by kernel_rfl) ?_
        simp only [phS, List.getElem?_cons_zero, List.getElem?_cons_succ, Option.toList, List.length_cons, List.length_nil, Nat.reduceAdd, List.drop_succ_cons, List.drop_zero]
        repeat (first | go_big_quiet_step (fail) | (refine quiet_load (by simp [Region.wanted, yielded]) 59 (.tmp 4) (by rfl) w.heap.size (0) (by rfl) [.pointer (some ⟨g, 0, none⟩), .pointer (some ⟨h, 0, none⟩)] _ HRT.out Try.underlying59 rfl sizeTwo ?_; intro K hK; go_simp; refine hK _ ?_; clear hK K) | quiet_step (fail) | refine wpQuiet_nil ?_)
        go_wp2_with fail
        refine (clo_ch (k : Int) view bv wr.drew HCV.out).mono ?_
        rintro e w1 ⟨rfl, hb1⟩
        have hb1' : Below wr.heap.size wr w1 := (Below.refl wr.heap.size wr).drew.trans hb1
        have hz1 := hb1'.size
        have HB1 := Lib.hid hb1'
        have HT1 := Lib.hid (HI.out.tw.below hb1')
        have HC1 := Lib.hid (box_below HC.out hb1' (Nat.le_refl _))
        have F1 := Lib.hid (Fp.of_below hb1 (fun b => b ≠ w.heap.size))
        clear hb1 hb1'
        go_wp2_with fail
        refine And.intro ⟨⟨w1, F1.out⟩, rfl⟩ ?_
        go_wp2_with fail
        refine (two_msg S' g bm h (vts f s (fun k => chM k view) K k).2 (chM (k : Int) view) (.slice none 0 0) (.slice none 0 0) (.slice none 0 0) (.slice none 0 0) w1 HT1.out ⟨RdP.none_, RdP.none_, RdC.nil, RdA.nil⟩ ⟨by show _ ≤ (k : Int); omega, by show (k : Int) ≤ _; omega⟩ (by omega)).mono ?_
        rintro e w2 ⟨rfl, S'', hT2, hS2, hF2⟩
        obtain ⟨sv, hsv⟩ : ∃ sv, sealM (vts f s (fun k => chM k view) K k).2 (chM (k : Int) view) = sv := ⟨_, rfl⟩
        rw [hsv]
        have Hsv := Lib.hid hsv
        have hz2 := hF2.size
        have hnN : ¬ (S' w.heap.size ∨ w.heap.size = bm) := by
          rintro (hh | hh)
          · rcases HI.out.new _ hh with h1 | h1
            · have := HSl.out _ h1; omega
            · omega
          · omega
        have hN2 := (hF2.block w.heap.size (by omega) hnN).trans HC1.out
        have hown1 := own_below HI.out.own HB1.out
        have hown2 : w2.ownsRow (w.heap.size + 1) 52 2 (.slice A k c) k ((vts f s (fun k => chM k view) K k).1.flatMap vt) := by
          have h2 := own_keep hown1 (w' := w2) fun b hb => hF2.block b (hown1.lt b hb).2 (by rintro (hh | hh); exact (HI.out.sep b hb).1 hh; exact (HI.out.sep b hb).2.2 hh)
          rwa [hvl] at h2
        have F2 := Lib.hid (F1.out.trans hF2 (fun j hj => Or.inl (show j ≠ w.heap.size from fun hh => hnN (hh ▸ hj))))
        have HT2 := Lib.hid hT2
        have HS2 := Lib.hid hS2
        have HF2 := Lib.hid hF2
        have HC2 := Lib.hid hN2
        have Hown2 := Lib.hid hown2
        clear hsv hnN hN2 hown1 hown2 hT2 hS2 hF2
        go_wp2_with fail
        refine And.intro ⟨⟨w2, F2.out⟩, rfl⟩ ?_
        go_wp2_with fail
        refine And.intro ⟨⟨w2, F2.out⟩, rfl⟩ ?_
        go_wp2_with fail
        refine And.intro ⟨⟨_, F2.out.alloc _⟩, rfl⟩ ?_
        go_wp2_with (at_builtin; refine wpList_app1 votE rfl _ _ rfl (w.heap.size + 1) (.slice A k c) k _ rfl Hown2.out _ rfl rfl (by simp [Value.oneCell']) (by omega) (by decide) (by omega) ?_; intro v' w4 hown4 hg4 _ hv4; have Hown4 := Lib.hid hown4; have Hg4 := Lib.hid hg4; have Hv4 := Lib.hid hv4; clear hown4 hg4 hv4; obtain ⟨A4, c4, rfl, _, _, _⟩ := own_slice Hown4.out)
        have hw24 := Hg4.out.size
        have hrow : ∀ j, (Value.slice A k c).ownBlock = some j → w.heap.size + 1 ≤ j ∧ j < w2.heap.size := fun j hj => Hown2.out.lt j hj
        refine And.intro ⟨⟨w4, F2.out.grown Hg4.out (fun j hj => Or.inl (show j ≠ w.heap.size by have := (hrow j hj).1; omega))⟩, rfl⟩ ?_
        have hF24 : Fp (fun b => (Value.slice A k c).ownBlock = some b) w2 w4 := (Fp.refl _ w2).grown Hg4.out (fun j hj => Or.inl hj)
        have hS2' : ∀ b, S'' b → S b ∨ w.heap.size + 1 ≤ b := fun b hb => by
          rcases HS2.out b hb with h1 | h1
          · exact HI.out.new b h1
          · right; omega
        have hsepA : ∀ b, (Value.slice A k c).ownBlock = some b → ¬ S'' b ∧ b ≠ g ∧ b ≠ bm := fun b hb => by
          obtain ⟨q1, q2, q3⟩ := HI.out.sep b hb
          refine ⟨fun hh => ?_, q2, q3⟩
          rcases HS2.out b hh with h1 | h1
          · exact q1 h1
          · have := (HI.out.own.lt b hb).2; omega
        have htw4 : Tw w4 S'' g bm h (sealK (vts f s (fun k => chM k view) K k).2 (chM (k : Int) view)) := HT2.out.fp hF24 (fun hh => (hsepA g hh).2.1 rfl) (fun hh => (hsepA bm hh).2.2 rfl) (fun b hb hh => (hsepA b hh).1 hb)
        have HVn : Hid (Vi w w4 S g bm h (w.heap.size + 1) (vts f s (fun k => chM k view) K (k + 1)).2 (vts f s (fun k => chM k view) K (k + 1)).1 (.slice A4 (k + 1) c4) S'') := Lib.hid (by
          have hv1 : (vts f s (fun k => chM k view) K (k + 1)).1 = (vts f s (fun k => chM k view) K k).1 ++ [⟨(k : Int), sv⟩] := by
            show _ ++ [_] = _
            rw [Hkv.out, Hsv.out]
          have hv2 : (vts f s (fun k => chM k view) K (k + 1)).2 = sealK (vts f s (fun k => chM k view) K k).2 (chM (k : Int) view) := by
            show sealK _ _ = _
            rw [Hkv.out]
          rw [hv1, hv2]
          clear hv1 hv2
          refine ⟨htw4, hS2', ?_, fun b hb => ?_, ?_⟩
          · have h4 := Hown4.out
            rw [List.length_append, hvl, List.flatMap_append]
            simpa [vt, iv] using h4
          · rcases Hv4.out with hv | hv
            · rw [hv] at hb; exact hsepA b hb
            · rw [hv] at hb
              injection hb with hb
              subst hb
              refine ⟨fun hh => ?_, by omega, by omega⟩
              have := HT2.out.lt _ hh
              omega
          · exact ((HI.out.fp.trans (Fp.of_below HB1.out (fun _ => False)) (fun _ hh => hh.elim)).trans HF2.out (fun j hj => by
              rcases hj with hj | hj
              · rcases HI.out.new j hj with h1 | h1
                · exact .inl (.inl h1)
                · right; omega
              · exact .inl (.inr hj))).grown Hg4.out (fun j hj => Or.inr (by have := (hrow j hj).1; omega)))
        have HCn : Hid (w4.heap[w.heap.size]? = some (.cells #[.pointer (some ⟨g, 0, none⟩), .pointer (some ⟨h, 0, none⟩)] 59 (0, 0))) := Lib.hid ((hF24.block w.heap.size (by omega) (fun hh => by have := (hrow _ hh).1; omega)).trans HC2.out)
        clear hrow hF24 hS2' hsepA htw4
        go_wp2_with fail
        refine ⟨⟨k + 1, A4, c4, S'', by go_num, by omega, rfl, HCn, HVn⟩, ?_⟩
        simp [intOf]; omega
    · have hkq : k = q := by omega
      subst hkq
      have hqk : decide ((k : Int) < (k : Int)) = false := by simp
      go_wp2_with (go_at_call 94; refine (HQn.out _).mono ?_; rintro e w' ⟨rfl, rfl⟩)
      go_ret
      exact ⟨A, c, S', rfl, HI.out⟩
end Go.Proofs.Ytljfoajhobambaa

