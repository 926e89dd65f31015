/- The walk of Table.Put, where its arguments are in order. -/
import Derived.Test.YtmbdailffhdonaaTab7
namespace Go.Proofs.Ytmbdailffhdonaa
open Go.RowKit
set_option linter.unusedVariables false

/-- What the first part of Put leaves. -/
structure Mid (S : Nat → Prop) (g : Nat) (f cl : Int) (l : List Psp.Told) (r : Psp.Req) (is : Bool) (w wx : World) : Prop where
  is_ : Psp.isAt l r = is
  few : Psp.isAt l r = true ∨ Psp.cntOf l r.c < 4
  tab : Tab wx (fun k => S k ∨ (w.heap.size ≤ k ∧ k < wx.heap.size)) g f cl (Psp.insT l r)
  fp : Fp S w wx

set_option maxRecDepth 100000 in
set_option maxHeartbeats 8000000 in
theorem put_tab (r : Psp.Req) (n clock : Int) (S : Nat → Prop) (g : Nat) (f cl : Int) (l : List Psp.Told) (w : World) (hT : Tab w S g f cl l) (hok : Psp.putOk f cl r n) (hl5 : l.length + 1 ≤ 100000) :
    Calls Try.prog 12 #[.pointer (some ⟨g, 0, none⟩), .agg #[.int .i64 r.c, .int .i64 r.t, .int .i64 r.k, .int .i64 r.y, .int .i64 r.v, .int .i64 r.s], .int .i64 n, .int .i64 clock] w fun e w' =>
      e = .returned (.tuple #[.bool (Psp.putR f l r n clock).1.1, .bool (Psp.putR f l r n clock).1.2.1, .int .i64 (Psp.putR f l r n clock).1.2.2]) ∧ Tab w' (fun k => S k ∨ (w.heap.size ≤ k ∧ k < w'.heap.size)) g f cl (Psp.putR f l r n clock).2 ∧ Fp S w w' := by
  obtain ⟨hok1, hok2, hok3, hok4⟩ := hok
  have hn12 := Psp.nodes_bd f
  obtain ⟨A, c, hc1, hc2, hc0, hcl, hcv, hrow⟩ := hT.cells
  have hglt := hT.lt g hT.own
  have HT := Lib.hid hT
  have hpl := Psp.pos_le l r
  obtain ⟨n0, hn0⟩ : ∃ n, l.length = n := ⟨_, rfl⟩
  obtain ⟨q, hq⟩ : ∃ q, Psp.pos l r = q := ⟨_, rfl⟩
  obtain ⟨is, his⟩ : ∃ is, Psp.isAt l r = is := ⟨_, rfl⟩
  obtain ⟨PR, hPR⟩ : ∃ PR, Psp.putR f l r n clock = PR := ⟨_, rfl⟩
  rw [hPR]
  rw [hn0] at hc1 hcv hrow hpl hl5
  rw [hq] at hpl
  have HPR := Lib.hid hPR
  have Hn0 := Lib.hid hn0
  have Hq := Lib.hid hq
  have His := Lib.hid his
  have Hrow := Lib.hid hrow
  have d1 : decide (r.c < 0) = false := by simp; omega
  have d2 : decide (cl ≤ r.c) = false := by simp; omega
  have d3 : decide (n < 0) = false := by simp; omega
  have d4 : decide (Psp.nodes f ≤ n) = false := by simp; omega
  have hb0 : Below w.heap.size w (w.alloc (.cells #[.int .i64 r.c, .int .i64 r.t, .int .i64 r.k, .int .i64 r.y, .int .i64 r.v, .int .i64 r.s] 25)) := (Below.refl _ _).alloc (Nat.le_refl _) _
  have hr0 : (w.alloc (.cells #[.int .i64 r.c, .int .i64 r.t, .int .i64 r.k, .int .i64 r.y, .int .i64 r.v, .int .i64 r.s] 25)).rangeAt w.heap.size 0 (rq r) := range_new w _ _
  have Hb0 := Lib.hid hb0
  have Hr0 := Lib.hid hr0
  clear hrow hT hPR hn0 hq his hb0 hr0
  go_enter Try.func12, Try.ntmps12
  go_wp2_with fail
  go_quiet ((go_at_call 25; exact Calls.quiet_of_same ((b_nodes_any _ _).mono fun _ _ h => ⟨h.1, h.2.symm⟩)))
  have HB1 := Lib.hid (below_drewN Hb0.out nq)
  have HT1 := Lib.hid (HT.out.below HB1.out)
  clear d1 d2 d3 d4
  go_wp2_with fail
  refine (at_any r S g f cl l _ HT1.out).mono ?_
  rintro e w1 ⟨rfl, hb1⟩
  rw [Hq.out, His.out]
  have hsz1 : w.heap.size + 1 ≤ w1.heap.size := by have := hb1.size; simpa using this
  have HB2 := Lib.hid (HB1.out.trans (hb1.mono (by simp)))
  have HR2 : Hid (w1.rangeAt w.heap.size 0 (rq r)) := Lib.hid (range_keep (w := w.alloc (.cells #[.int .i64 r.c, .int .i64 r.t, .int .i64 r.k, .int .i64 r.y, .int .i64 r.v, .int .i64 r.s] 25)) Hr0.out (hb1.block _ (by simp)))
  have HT2 := Lib.hid (HT.out.below HB2.out)
  clear hb1
  have Dn : (!is) = !is := rfl
  clear Dn
  go_upto_if 49 with (fail)
  go_cut [] from 50 to 101 (fun wx => Mid S g f cl l r is w wx)
  case first =>
    cases is with
    | true =>
      go_wp2_with fail
      go_meet
      refine ⟨His.out, Or.inl His.out, ?_, Fp.of_below HB2.out S⟩
      rw [show Psp.insT l r = l by unfold Psp.insT; rw [His.out]; rfl]
      refine HT2.out.wider (fun k hk => Or.inl hk) fun k hk => ?_
      rcases hk with hk | hk
      · exact HT2.out.lt k hk
      · exact hk.2
    | false =>
      simp only [Bool.not_false]
      have k0 := HR2.out 0 _ rfl
      simp only [Nat.zero_add, iv] at k0
      have kv := (HB2.out.cell (p := ⟨g, 2, none⟩) hglt).trans hcv
      go_wp2_with fail
      go_loopw [13, 55] (fun cn i wr => ∃ k : Nat, i = .int .i64 (k : Int) ∧ k ≤ n0 ∧ cn = .int .i64 (Psp.cntOf (l.take k) r.c : Nat) ∧ Below w1.heap.size w1 wr) (fun _ i _ => n0 - (intOf i).toNat)
      case atStart => exact ⟨0, rfl, by omega, rfl, Below.refl _ _⟩
      case round =>
        obtain ⟨k, rfl, hk, rfl, hbel⟩ := hrel
        have hsz := hbel.size
        have hcb : Psp.cntOf (l.take k) r.c ≤ k := by have := Psp.cnt_le_len (l.take k) r.c; rw [List.length_take] at this; omega
        by_cases hlt : k < n0
        · obtain ⟨b, hAe, hb, hlies⟩ := Hrow.out (by omega)
          subst hAe
          have hkl : k < l.length := by have := Hn0.out; omega
          have hst := Psp.cnt_step (c := r.c) hkl
          obtain ⟨t, ht⟩ : ∃ t, l[k] = t := ⟨_, rfl⟩
          have hrg := range_keep (range_keep (told_range hlies hkl) (HB2.out.block b hb)) (hbel.block b (by omega))
          rw [ht] at hrg hst
          have kb := (hbel.cell (p := ⟨w.heap.size, 0, none⟩) (by simp; omega)).trans k0
          obtain ⟨m, hm⟩ : ∃ m, Psp.cntOf (l.take k) r.c = m := ⟨_, rfl⟩
          rw [hm] at hst hcb ⊢
          have Hrg := Lib.hid hrg
          have Hst := Lib.hid hst
          have Hbel := Lib.hid hbel
          have Kb := Lib.hid kb
          clear hlies ht hrg hst hbel hm kb
          by_cases h1 : t.r.c = r.c
          · have d1 : (t.r.c == r.c) = true := by simpa using h1
            have e := Hst.out
            rw [if_pos h1] at e
            have E := Lib.hid e
            clear e Hst h1
            go_wp2_with (first | (refine list_load rfl 68 (.tmp 57) rfl b (k * 21) rfl (tc t) _ ?_ Try.underlying68 rfl (told_size' t) ?_; exact Hrg.out) | (refine list_store_new rfl 68 (.tmp 15) (.tmp 58) rfl _ _ (tc t) rfl rfl (by rw [tc_len]; rfl) (told_size' t) (told_one t) ?_; intro w2 hb2 hr2 hs2; have kc := (told_req hr2) 0 _ rfl; simp only [iv, Nat.zero_add] at kc; have kd := (hb2.cell (p := ⟨w.heap.size, 0, none⟩) (by simp; omega)).trans Kb.out; have Hbel2 := Lib.hid (Hbel.out.trans (hb2.mono hsz)); clear hb2 hr2 hs2))
            go_roundw
            case rel => exact ⟨k + 1, by go_num, by omega, by rw [E.out]; go_num, Hbel2.out⟩
            case measure => simp [intOf]; omega
          · have d1 : (t.r.c == r.c) = false := by simpa using h1
            have e := Hst.out
            rw [if_neg h1, Nat.add_zero] at e
            have E := Lib.hid e
            clear e Hst h1
            go_wp2_with (first | (refine list_load rfl 68 (.tmp 57) rfl b (k * 21) rfl (tc t) _ ?_ Try.underlying68 rfl (told_size' t) ?_; exact Hrg.out) | (refine list_store_new rfl 68 (.tmp 15) (.tmp 58) rfl _ _ (tc t) rfl rfl (by rw [tc_len]; rfl) (told_size' t) (told_one t) ?_; intro w2 hb2 hr2 hs2; have kc := (told_req hr2) 0 _ rfl; simp only [iv, Nat.zero_add] at kc; have kd := (hb2.cell (p := ⟨w.heap.size, 0, none⟩) (by simp; omega)).trans Kb.out; have Hbel2 := Lib.hid (Hbel.out.trans (hb2.mono hsz)); clear hb2 hr2 hs2))
            go_roundw
            case rel => exact ⟨k + 1, by go_num, by omega, by rw [E.out, Nat.add_zero], Hbel2.out⟩
            case measure => simp [intOf]; omega
        · obtain rfl : k = n0 := by omega
          rw [List.take_of_length_le (by rw [Hn0.out]; exact Nat.le_refl _)] at hcb ⊢
          obtain ⟨m, hm⟩ : ∃ m, Psp.cntOf l r.c = m := ⟨_, rfl⟩
          rw [hm] at hcb ⊢
          have Hm := Lib.hid hm
          have HB3 := Lib.hid (HB2.out.trans (hbel.mono (by omega)))
          have HT3 := Lib.hid (HT.out.below HB3.out)
          have HR3 := Lib.hid (range_keep HR2.out (hbel.block _ (by omega)))
          have kv3 := (HB3.out.cell (p := ⟨g, 2, none⟩) hglt).trans hcv
          have hf3 : wr.frozen? ⟨g, 2, none⟩ = false := by
            obtain ⟨v, h1, _, _⟩ := HT3.out.ex
            exact frozen_of_row wr g 2 _ _ h1
          clear hm hbel k0 kv
          by_cases h4 : 4 ≤ m
          · have d : decide (4 ≤ (m : Int)) = true := by simp; omega
            have hres : PR = ((false, false, 3), l) := by rw [← HPR.out]; unfold Psp.putR; rw [His.out, Hm.out, if_pos (by simpa using h4)]
            subst hres
            go_wp2_with fail
            go_ret3
            refine ⟨rfl, HT3.out.wider (fun k hk => Or.inl hk) (fun k hk => ?_), Fp.of_below HB3.out S⟩
            rcases hk with hk | hk
            · exact HT3.out.lt k hk
            · exact hk.2
          · have d : decide (4 ≤ (m : Int)) = false := by simp; omega
            have Hown3 : Hid (wr.ownsRow 0 68 21 (.slice A k c) k (l.flatMap tc)) := Lib.hid (by
              obtain ⟨v, h1, h2, _⟩ := HT3.out.ex
              have hv := kv3
              rw [cell_of_row wr g 2 _ _ _ h1] at hv
              have e : v = .slice A k c := by simpa using hv
              subst e
              rw [Hn0.out] at h2
              exact h2)
            go_wp2_with (first | (refine list_build1 rfl _ (.tmp 75) rfl 68 (tc Psp.toldZ) rfl Try.underlying62 (told_zero Psp.toldZ) (by rw [tc_len]; omega) (by rw [tc_len]; omega) ?_) | (at_builtin; refine wpList_app1 toldE rfl _ _ rfl 0 _ _ _ rfl Hown3.out (tc Psp.toldZ).toArray rfl (tc_len _) (told_one _) (by omega) (by omega) (by omega) ?_; intro v' w4 hown4 hg4 _ hb4; obtain ⟨A4, c4, rfl, hc41, hc42, hx4⟩ := own_slice hown4; obtain ⟨b4, rfl, _, hb4lt, _⟩ := hx4 (by omega); clear hx4; have Hown4 := Lib.hid hown4; have Hg4 : Hid (wr.grownBy w4 (Value.slice A k c).ownBlock) := Lib.hid hg4; have Hb4 : Hid ((Value.slice (some ⟨b4, 0, none⟩) (k + 1) c4).ownBlock = (Value.slice A k c).ownBlock ∨ (Value.slice (some ⟨b4, 0, none⟩) (k + 1) c4).ownBlock = some (wr.heap.size + 1)) := Lib.hid hb4; have hgs := HT3.out.append (A := A) (c := c) (z := Psp.toldZ) (w3 := w4) (v' := .slice (some ⟨b4, 0, none⟩) (k + 1) c4) (by rw [Hn0.out]; exact kv3) (by rw [Hn0.out]; exact hown4) (by rw [Hn0.out]; exact Hg4.out) (by rw [Hn0.out]; exact Hb4.out) rfl (by rw [Hn0.out]; omega); have Hgs := Lib.hid hgs; have kv4 := (World.cell?_of_block (a := ⟨g, 2, none⟩) hgs.1).trans kv3; have hf4 : w4.frozen? ⟨g, 2, none⟩ = false := (World.frozen?_of_block (a := ⟨g, 2, none⟩) hgs.1).trans hf3; clear hown4 hg4 hb4 hgs))
            obtain ⟨w5, hw5⟩ : ∃ w5, w4.setCell ⟨g, 2, none⟩ (.slice (some ⟨b4, 0, none⟩) (k + 1) c4) = w5 := ⟨_, rfl⟩
            rw [hw5]
            have kv5 : w5.cell? ⟨g, 2, none⟩ = some (.slice (some ⟨b4, 0, none⟩) (k + 1) c4) := by
              rw [← hw5]
              obtain ⟨v, h1, _, _⟩ := HT3.out.ex
              rw [cell_of_row _ g 2 _ _ _ (heap_setCell_same w4 g 2 _ _ _ (Hgs.out.1.trans h1))]
              rfl
            have HT5 : Hid (Tab w5 (fun k => S k ∨ (wr.heap.size ≤ k ∧ k < w4.heap.size)) g f cl (l ++ [Psp.toldZ])) := Lib.hid (by rw [← hw5]; exact Hgs.out.2.1)
            have HF5 : Hid (Fp S wr w5) := Lib.hid (by rw [← hw5]; exact Hgs.out.2.2)
            have e1 : (q : Int) + 1 ≤ c4 := by omega
            have e2 : (c4 : Int) ≤ 9223372036854775807 := by omega
            have e3 : (0 : Int) ≤ q := by omega
            have e4 : (q : Int) ≤ k := by omega
            clear hw5 kv4 hf4 kv3 hf3 d hcb
            have w1' : IntKind.i64.wrap ((q : Int) + 1) = (q : Int) + 1 := IntWalk.i64_in _ (by omega)
            have w2' : (0 : Int) ≤ (q : Int) + 1 := by omega
            have w3' : ((q : Int) + 1).toNat = q + 1 := by omega
            have e5 : (q : Int) ≤ (k : Int) + 1 := by omega
            refine wp_region_still_tail_drew 13 (by kernel_rfl) (by kernel_rfl) ?_
            simp only [List.take_succ_cons, List.take_zero, List.drop_succ_cons, List.drop_zero]
            repeat still_step
            refine wpStill_nil ?_
            have hqk : q ≤ k := by omega
            have hlk := Hn0.out
            have hdl : (l.drop q).length = k - q := by rw [List.length_drop, hlk]
            have hcs : ((l.drop q).flatMap tc).length = (k - q) * 21 := by rw [flat_tc_len, hdl]
            have Hcs := Lib.hid hcs
            have HOne : Hid (∀ v ∈ (l.drop q).flatMap tc, v.oneCell' = true) := Lib.hid fun v hv => by
              obtain ⟨t, _, ht⟩ := List.mem_flatMap.1 hv
              exact told_one t v ht
            have hrs := (HT5.out.below ((Below.refl _ _).drew)).rows (k := q + 1) (ts := l.drop q) kv5 (by rw [List.length_append, hdl, hlk]; simp; omega) (fun t ht => HT.out.who t (List.mem_of_mem_drop ht))
            have Hrs := Lib.hid hrs
            have Hth : Hid (w5.drew.there b4 ((q + 1) * 21) ((l.drop q).flatMap tc).length) := Lib.hid (HT5.out.there kv5 (by rw [hcs, List.length_append, hlk]; simp; omega))
            have HL5 : Hid (∀ j v, ((l.drop q).flatMap tc)[j]? = some v → w5.drew.cell? ⟨b4, q * 21 + j, none⟩ = some v) := Lib.hid fun j v hv => by
              obtain ⟨_, ho5, _, _, _⟩ := HT5.out.slice kv5
              have hj : j < (k - q) * 21 := by have := (List.getElem?_eq_some_iff.1 hv).1; omega
              have h7 := ho5.cellAt (q * 21 + j) (by rw [List.length_append, hlk]; simp; omega)
              rw [← flat_drop, List.getElem?_drop] at hv
              rw [List.flatMap_append, List.getElem?_append_left (by rw [flat_tc_len, hlk]; omega), hv] at h7
              exact h7
            have HF6 : Hid (Fp S wr (w5.drew.setCells b4 ((q + 1) * 21) ((l.drop q).flatMap tc))) := Lib.hid (HF5.out.drew.setCells (by
              obtain ⟨_, _, h3, _, _⟩ := HT5.out.slice kv5
              exact h3.imp id fun h => h.1) _)
            clear hcs hdl hlk hrs
            refine list_copy rfl (.tmp 86) (.tmp 92) _ _ rfl 68 21 Try.underlying62 told_size (by omega) _ _ _ _ _ _ b4 ((q + 1) * 21) ((l.drop q).flatMap tc) rfl rfl ?_ ?_ Hth.out HOne.out ?_
            · rw [Hcs.out]; show _ = min _ _ * 21; rw [Nat.min_eq_right (by omega)]; try omega
            · intro h0
              have h := Hcs.out
              rw [if_neg (by omega), if_neg (by omega)]
              exact ⟨rfl, ⟨b4, q * 21, none⟩, rfl, fun j v hv => by rw [Addr.add_mid]; exact HL5.out j v hv⟩
            obtain ⟨w6, hw6⟩ : ∃ w6, w5.drew.setCells b4 ((q + 1) * 21) ((l.drop q).flatMap tc) = w6 := ⟨_, rfl⟩
            have HT6 := Hrs.out.1
            have kv6 := Hrs.out.2
            have HF6' := HF6.out
            rw [hw6] at HT6 kv6 HF6' ⊢
            have HT6 := Lib.hid HT6
            have HR6 : Hid (w6.rangeAt w.heap.size 0 (rq r)) := Lib.hid (range_keep HR3.out (HF6'.block _ (by omega) (fun h => by have := HT.out.lt _ h; omega)))
            have HF6' := Lib.hid HF6'
            have b0 := HR6.out 0 _ rfl
            have b1 := HR6.out 1 _ rfl
            have b2 := HR6.out 2 _ rfl
            have b3 := HR6.out 3 _ rfl
            have b4' := HR6.out 4 _ rfl
            have b5 := HR6.out 5 _ rfl
            simp only [Nat.zero_add, iv] at b0 b1 b2 b3 b4' b5
            have e6 : (q : Int) < (k : Int) + 1 := by omega
            clear hw6 kv5 w1' w2' w3' e1 e2 e5
            generalize (if c4 = q + 1 then some (⟨b4, 0, none⟩ : Addr) else some ⟨b4, (q + 1) * 21, none⟩) = X1
            generalize (if c4 = q then some (⟨b4, 0, none⟩ : Addr) else some ⟨b4, q * 21, none⟩) = X2
            go_wp2_with fail
            refine wp_region_still_tail_drew 8 (by kernel_rfl) (by kernel_rfl) ?_
            simp only [List.take_succ_cons, List.take_zero, List.drop_succ_cons, List.drop_zero]
            repeat still_step
            refine wpStill_nil ?_
            have hk6 := Hn0.out
            have hL6 : ((l ++ [Psp.toldZ]).take (q + 1) ++ (l.drop q ++ (l ++ [Psp.toldZ]).drop (q + 1 + (l.drop q).length))).length = k + 1 := by
              simp only [List.length_append, List.length_take, List.length_drop, List.length_singleton, hk6]; omega
            have HT6d := HT6.out.below ((Below.refl _ _).drew)
            have hrs7 := HT6d.rows (k := q) (ts := [Psp.told0 r]) kv6 (by rw [hL6]; simp; omega) (fun t ht => by simp at ht; subst ht; rfl)
            have hth7 := HT6d.there (off := q * 21) (m := (tc (Psp.told0 r)).toArray.size) kv6 (by rw [hL6, List.size_toArray, tc_len]; omega)
            have e7 : [Psp.told0 r].flatMap tc = tc (Psp.told0 r) := by simp
            rw [e7] at hrs7
            have hins : Psp.insT l r = l.take q ++ Psp.told0 r :: l.drop q := by unfold Psp.insT; rw [His.out, if_neg (by simp), Hq.out]
            rw [List.length_singleton, Psp.ins_list l r q (by omega), ← hins] at hrs7
            refine wpList_store_mid rfl 68 (.tmp 101) (.tmp 100) rfl b4 (q * 21) (tc (Psp.told0 r)).toArray rfl rfl hth7 (by rw [List.size_toArray]; exact told_size' _) (all_oneCell_toArray (told_one _)) ?_
            obtain ⟨w7, hw7⟩ : ∃ w7, w6.drew.setCells b4 (q * 21) (tc (Psp.told0 r)) = w7 := ⟨_, rfl⟩
            have HF7 : Fp S wr (w6.drew.setCells b4 (q * 21) (tc (Psp.told0 r))) := HF6'.out.drew.setCells ((HT6.out.slice kv6).2.2.1.imp id fun h => h.1) _
            rw [hw7] at hrs7 HF7
            show wpList _ _ _ _ _ (w6.drew.setCells b4 (q * 21) (tc (Psp.told0 r)))
            rw [hw7]
            have HRS7 := Lib.hid hrs7
            have HF7' := Lib.hid HF7
            clear hrs7 HF7 hw7 hth7 hins e7 HT6d hL6 hk6
            go_wp2_with fail
            go_meet
            refine ⟨His.out, Or.inr (by rw [Hm.out]; omega), HRS7.out.1.wider (fun j hj => ?_) (fun j hj => ?_), (Fp.of_below HB3.out S).trans HF7'.out fun j hj => Or.inl hj⟩
            · rcases hj with hj | hj
              · exact Or.inl hj
              · exact Or.inr ⟨by omega, HRS7.out.1.lt j (Or.inr hj)⟩
            · rcases hj with hj | hj
              · exact HRS7.out.1.lt j (Or.inl hj)
              · exact hj.2
  case rest =>
  have hM := Lib.hid hcut
  clear hcut
  obtain ⟨t, ht1, _, _⟩ := Psp.insT_at l r
  rw [Hq.out] at ht1
  obtain ⟨hq1, ht1'⟩ := List.getElem?_eq_some_iff.1 ht1
  have hwho : t.who.length = 13 := hM.out.tab.who t (List.mem_of_getElem? ht1)
  have hres : PR = ((!is, (Psp.putAt f t n clock).2, 0), (Psp.insT l r).set q (Psp.putAt f t n clock).1) := by
    rw [← HPR.out]
    unfold Psp.putR
    have hc : (!Psp.isAt l r && decide (4 ≤ Psp.cntOf l r.c)) = false := by
      rcases hM.out.few with h | h
      · rw [h]; rfl
      · rw [decide_eq_false (by omega)]; simp
    rw [hc, if_neg (by simp), Hq.out, ht1, hM.out.is_]
  obtain ⟨b, c1, kx, hc11, hc12, hb, hrg⟩ := hM.out.tab.row hq1
  rw [ht1'] at hrg
  have hfz := hM.out.tab.frozen kx
  have HBA : Hid (BoolsAt wc b (q * 21 + 6) t.who) := Lib.hid ⟨told_who hrg hwho, fun j _ => hfz _⟩
  have hlen1 := hM.out.tab.len
  obtain ⟨n1, hn1⟩ : ∃ n1, (Psp.insT l r).length = n1 := ⟨_, rfl⟩
  rw [hn1] at kx hq1 hc11 hlen1
  have Hn1 := Lib.hid hn1
  have Ht1 := Lib.hid ht1
  have Hwho := Lib.hid hwho
  have Hres := Lib.hid hres
  have Kx := Lib.hid kx
  have hsM := hM.out.fp.size
  have hS1 := hM.out.tab.lt
  clear hrg hfz hn1 ht1 ht1' hwho hres hS1
  go_wp2_with (go_at_call 27; refine (set_put_at t.who n b (q * 21 + 6) _ (by omega) (by omega) Hwho.out HBA.out).mono ?_; rintro e w9 ⟨rfl, hw9⟩; have Hw9 := Lib.hid hw9; clear hw9)
  have hp9 := hM.out.tab.putW Kx.out Ht1.out n Hwho.out
  rw [Hw9.out] at hp9
  obtain ⟨hT9, kv9, hF9⟩ := hp9
  obtain ⟨t1, ht1⟩ : ∃ t1 : Psp.Told, (⟨t.r, Psp.put t.who n, t.ready, t.since⟩ : Psp.Told) = t1 := ⟨_, rfl⟩
  have tr1 : t1.ready = t.ready := by rw [← ht1]
  have tw1 : t1.who = Psp.put t.who n := by rw [← ht1]
  have tb1 : t1.r = t.r := by rw [← ht1]
  have ts1 : t1.since = t.since := by rw [← ht1]
  rw [ht1] at hT9
  have hq9 : q < ((Psp.insT l r).set q t1).length := by rw [List.length_set, Hn1.out]; exact hq1
  obtain ⟨_, _, kv9', _, _, hb9, hrg9⟩ := hT9.row hq9
  have hsl := hT9.slice kv9
  rw [kv9] at kv9'
  injection kv9' with kv9'
  injection kv9' with e1 e2 e3
  injection e1 with e1
  injection e1 with e1 _ _
  subst e1
  rw [List.getElem_set_self] at hrg9
  have k19 := told_ready hrg9
  rw [tr1] at k19
  have hw13 : t1.who.length = 13 := by rw [tw1, Psp.put_len]; exact Hwho.out
  have hBA9 : BoolsAt w9 b (q * 21 + 6) t1.who := ⟨told_who hrg9 hw13, fun j _ => hT9.frozen kv9 _⟩
  have k09 : w9.cell? ⟨g, 0, none⟩ = some (.int .i64 f) := hT9.cells.choose_spec.choose_spec.2.2.1
  have CR := later_cell k19
  have CF := later_cell k09
  obtain ⟨cn, hcn⟩ : ∃ cn : Nat, (Psp.put t.who n).countP id = cn := ⟨_, rfl⟩
  obtain ⟨wk, hwk⟩ : ∃ wk, Psp.weak f = wk := ⟨_, rfl⟩
  have HLen : Hid (∀ p : Later w9, Calls Try.prog 28 #[.pointer (some ⟨b, q * 21 + 6, none⟩)] p.W fun e w' => e = .returned (.int .i64 (cn : Nat)) ∧ Below p.W.heap.size p.W w') := Lib.hid fun p => by
    have h := set_len_at t1.who b (q * 21 + 6) p.W hw13 ⟨range_keep hBA9.1 (p.h.block b hb9), fun j hj => (p.h.frozen (p := ⟨b, q * 21 + 6 + j, none⟩) hb9).trans (hBA9.2 j hj)⟩
    rw [tw1, hcn] at h
    exact h
  have HWk : Hid (∀ p : Later w9, Calls Try.prog 29 #[.int .i64 f] p.W fun e w' => e = .returned (.int .i64 wk) ∧ p.W = w') := Lib.hid fun p => by rw [← hwk]; exact b_weak_any f p.W
  have HT9 := Lib.hid hT9
  have HF9 := Lib.hid hF9
  have Hkv9 := Lib.hid kv9
  have Hrg9 := Lib.hid hrg9
  have Hcn := Lib.hid hcn
  have Hwk := Lib.hid hwk
  have Htr := Lib.hid tr1
  have Htw := Lib.hid tw1
  have Htb := Lib.hid tb1
  have Hts := Lib.hid ts1
  have Hsb := Lib.hid hsl.2.2.1
  have hg9 := HT9.out.lt g HT9.out.own
  have hs9 := hF9.size
  clear hT9 hF9 kv9 hrg9 hcn hwk tr1 tw1 tb1 ts1 ht1 hBA9 k09 k19 hq9 hsl e2 e3 hw13
  have hFin : ∀ (w11 : World) (tt : Psp.Told), Tab w11 (fun k => S k ∨ (w.heap.size ≤ k ∧ k < wc.heap.size)) g f cl (((Psp.insT l r).set q t1).set q tt) → Fp S w w11 → wc.heap.size ≤ w11.heap.size → Tab w11 (fun k => S k ∨ (w.heap.size ≤ k ∧ k < w11.heap.size)) g f cl ((Psp.insT l r).set q tt) ∧ Fp S w w11 := fun w11 tt h1 h2 h3 => by
    rw [List.set_set] at h1
    exact ⟨h1.wider (fun k hk => hk.imp id fun h => ⟨h.1, by omega⟩) (fun k hk => by
      rcases hk with hk | hk
      · exact h1.lt k (Or.inl hk)
      · exact hk.2), h2⟩
  have HFin := Lib.hid hFin
  clear hFin
  cases hre : t.ready with
  | true =>
    have hpa : Psp.putAt f t n clock = (t1, false) := by
      unfold Psp.putAt
      rw [hre]
      rw [Bool.not_true, Bool.false_and, if_neg (by simp)]
      refine Prod.ext ?_ rfl
      cases t1; simp at *
      exact ⟨Htb.out.symm, Htw.out.symm, hre ▸ Htr.out, Hts.out.symm⟩
    rw [hre] at CR
    refine wp_region_later (by kernel_rfl) (by kernel_rfl) ?_
    repeat (go_big_quiet_step (fail))
    refine wpQuiet_nil ?_
    intro w10 hw'
    have hb10 := later_out hw'
    clear hw'
    go_wp2_with fail
    go_ret3
    have hres := Hres.out
    rw [hpa] at hres
    rw [hres]
    refine ⟨rfl, ?_⟩
    have h1 := HT9.out.below hb10
    have h2 : ((Psp.insT l r).set q t1) = ((Psp.insT l r).set q t1).set q t1 := by rw [List.set_set]
    rw [h2] at h1
    refine HFin.out w10 t1 h1 ((hM.out.fp.trans HF9.out fun k hk => ?_).below hb10) (by have := hb10.size; omega)
    exact hk.imp id fun h => h.1
  | false =>
    rw [hre] at CR
    by_cases hwe : wk ≤ (cn : Int)
    · have d : decide (wk ≤ (cn : Int)) = true := decide_eq_true hwe
      refine wp_region_later (by kernel_rfl) (by kernel_rfl) ?_
      repeat (go_big_quiet_step (first | (go_at_call 28; exact later_call _ (HLen.out _)) | (go_at_call 29; exact later_same _ (HWk.out _))))
      refine wpQuiet_nil ?_
      intro w10 hw'
      have hb10 := later_out hw'
      clear hw'
      have hT10 := HT9.out.below hb10
      have kv10 := (hb10.cell (p := ⟨g, 2, none⟩) hg9).trans Hkv9.out
      have hrg10 := range_keep Hrg9.out (hb10.block b hb9)
      have k19 := told_ready hrg10
      have k20 := told_since hrg10
      have z19 := hT10.frozen kv10 (q * 21 + 19)
      have z20 := hT10.frozen kv10 (q * 21 + 20)
      have HT10 := Lib.hid hT10
      have Hkv10 := Lib.hid kv10
      have Hb10 := Lib.hid hb10
      clear hT10 kv10 hrg10 hb10
      go_wp2_with fail
      go_ret3
      have hpa : Psp.putAt f t n clock = (⟨t.r, Psp.put t.who n, true, clock⟩, true) := by
        unfold Psp.putAt
        rw [hre, Hcn.out, Hwk.out, d]
        rfl
      have hres := Hres.out
      rw [hpa] at hres
      rw [hres]
      refine ⟨rfl, ?_⟩
      have hq10 : ((Psp.insT l r).set q t1)[q]? = some t1 := by rw [List.getElem?_set_self (by rw [Hn1.out]; exact hq1)]
      have hw13 : t1.who.length = 13 := by rw [Htw.out, Psp.put_len]; exact Hwho.out
      have s1 := HT10.out.store1 (j := 19) (t' := ⟨t1.r, t1.who, true, t1.since⟩) Hkv10.out (.bool true) hq10 (by omega) (by
        unfold tc; rw [List.set_append_right _ _ (by rw [rq_len]; omega), List.set_append_right _ _ (by rw [rq_len, bools13_len]; omega), rq_len, bools13_len]; rfl) hw13
      have s2 := s1.1.store1 (j := 20) (t' := ⟨t1.r, t1.who, true, clock⟩) s1.2 (.int .i64 clock) (by rw [List.getElem?_set_self (by rw [List.length_set, Hn1.out]; exact hq1)]) (by omega) (by
        unfold tc; rw [List.set_append_right _ _ (by rw [rq_len]; omega), List.set_append_right _ _ (by rw [rq_len, bools13_len]; omega), rq_len, bools13_len]; rfl) hw13
      have s3 := s2.1
      rw [List.set_set, Htb.out, Htw.out] at s3
      refine HFin.out _ _ s3 ((((hM.out.fp.trans HF9.out fun k hk => hk.imp id fun h => h.1).below Hb10.out).setCell (p := ⟨b, _, none⟩) (Hsb.out.imp id fun h => h.1) _).setCell (p := ⟨b, _, none⟩) (Hsb.out.imp id fun h => h.1) _) ?_
      have := Hb10.out.size
      simp [World.setCell]; omega
    · have d : decide (wk ≤ (cn : Int)) = false := decide_eq_false hwe
      have hpa : Psp.putAt f t n clock = (t1, false) := by
        unfold Psp.putAt
        rw [hre, Hcn.out, Hwk.out, d]
        rw [Bool.and_false, if_neg (by simp)]
        refine Prod.ext ?_ rfl
        cases t1; simp at *
        exact ⟨Htb.out.symm, Htw.out.symm, hre ▸ Htr.out, Hts.out.symm⟩
      refine wp_region_later (by kernel_rfl) (by kernel_rfl) ?_
      repeat (go_big_quiet_step (first | (go_at_call 28; exact later_call _ (HLen.out _)) | (go_at_call 29; exact later_same _ (HWk.out _))))
      refine wpQuiet_nil ?_
      intro w10 hw'
      have hb10 := later_out hw'
      clear hw'
      go_wp2_with fail
      go_ret3
      have hres := Hres.out
      rw [hpa] at hres
      rw [hres]
      refine ⟨rfl, ?_⟩
      have h1 := HT9.out.below hb10
      have h2 : ((Psp.insT l r).set q t1) = ((Psp.insT l r).set q t1).set q t1 := by rw [List.set_set]
      rw [h2] at h1
      refine HFin.out w10 t1 h1 ((hM.out.fp.trans HF9.out fun k hk => ?_).below hb10) (by have := hb10.size; omega)
      exact hk.imp id fun h => h.1
end Go.Proofs.Ytmbdailffhdonaa
