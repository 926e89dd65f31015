/- The walk of PropDrops. -/
import Derived.Test.YtmbdailffhdonaaPutR
import Derived.Test.YtmbdailffhdonaaOpenAct
import Derived.Test.YtmbdailffhdonaaOpen
namespace Go.Proofs.Ytmbdailffhdonaa.propDrops
open Go.RowKit
set_option linter.unusedVariables false

def kept (c tm : Int) (r : Psp.Req) : Bool := decide (r.c ≠ c) || decide (r.t > tm)
theorem drop_reqs (c tm : Int) (l : List Psp.Told) : Psp.reqsOf (dropOf c tm l) = (Psp.reqsOf l).filter (kept c tm) := by
  unfold dropOf Psp.reqsOf
  rw [List.filter_map]; rfl
theorem drop_twice (c tm : Int) (l : List Psp.Told) : dropOf c tm (dropOf c tm l) = dropOf c tm l := by
  unfold dropOf
  rw [List.filter_filter]
  congr 1
  funext t
  simp
theorem filt_at {p : Psp.Req → Bool} : ∀ {rs : List Psp.Req} {k : Nat} (hk : k < rs.length), p rs[k] = true → (rs.filter p)[((rs.take k).filter p).length]? = some rs[k]
  | x :: rs, 0, hk, h => by rw [List.filter_cons_of_pos (by simpa using h)]; rfl
  | x :: rs, k + 1, hk, h => by
    have ih := filt_at (p := p) (rs := rs) (k := k) (by simpa using hk) h
    rw [List.take_succ_cons]
    by_cases hx : p x = true
    · rw [List.filter_cons_of_pos hx, List.filter_cons_of_pos hx, List.length_cons, List.getElem?_cons_succ]; exact ih
    · rw [List.filter_cons_of_neg hx, List.filter_cons_of_neg hx]; exact ih
theorem filt_step {p : Psp.Req → Bool} {rs : List Psp.Req} {k : Nat} (hk : k < rs.length) : ((rs.take (k + 1)).filter p).length = ((rs.take k).filter p).length + (if p rs[k] = true then 1 else 0) := by
  rw [List.take_succ_eq_append_getElem hk, List.filter_append, List.length_append]
  congr 1
  by_cases h : p rs[k] = true
  · rw [List.filter_cons_of_pos h, if_pos h]; rfl
  · rw [List.filter_cons_of_neg h, if_neg h]; rfl

structure DInv (w0 wr : World) (g : Nat) (l : List Psp.Told) (n : Nat) : Prop where
  tab : ∃ S, Tab wr S g 1 3 l ∧ ∀ k, S k → w0.heap.size ≤ k
  bel : Below w0.heap.size w0 wr
  len : l.length ≤ n

set_option maxRecDepth 100000 in
set_option maxHeartbeats 4000000 in
theorem walk (v : Value) (l : List Psp.Act) (cc tm : Int) (w : World) (hr : Rd w w.heap.size 11 v l.length (l.flatMap ac)) (hl : ∀ a ∈ l, wfAct a) (b1 : isI64 cc) (b2 : isI64 tm) :
    Calls Try.prog 6 #[v, .int .i64 cc, .int .i64 tm] w fun e w' => e = .returned (.bool true) ∧ Below w.heap.size w w' := by
  obtain ⟨hrl, A, cp, rfl, hc1, hc2, hcell⟩ := hr
  obtain ⟨len, hlen⟩ : ∃ len, l.length = len := ⟨_, rfl⟩
  rw [hlen] at hcell hc1 ⊢
  unfold maxLen at hc2
  have Hlen := Lib.hid hlen
  have Hl := Lib.hid hl
  have Hcell := Lib.hid hcell
  obtain ⟨N, hN⟩ : ∃ N, min len 60 = N := ⟨_, rfl⟩
  have N1 : N ≤ len := by omega
  have N2 : N ≤ 60 := by omega
  have HN := Lib.hid hN
  clear hlen hl hrl hcell hN b1 b2
  go_enter Try.func6, Try.ntmps6
  go_upto_block 0 with (go_at_call 10; refine (new_any 1 3 _ (by omega) (by omega) (by omega) (by omega)).mono ?_; rintro e w1 ⟨g, rfl, hT, hg, hb1⟩; have HT1 := Lib.hid hT; have Hb1 := Lib.hid hb1; have hgl := hT.lt g rfl; clear hT hb1)
  go_cut [9] from 26 to 52 (fun i wx => ∃ tl, DInv w wx g tl 60)
  case first =>
    go_wp2_with fail
    go_loopw [9] (fun i wr => ∃ (k : Nat) (tl : List Psp.Told), i = .int .i64 (k : Int) ∧ k ≤ N ∧ DInv w wr g tl k) (fun i _ => 60 - (intOf i).toNat)
    case atStart => exact ⟨0, [], rfl, Nat.zero_le _, ⟨_, HT1.out, fun k hk => by subst hk; exact hg⟩, Hb1.out, Nat.le_refl _⟩
    case round =>
      obtain ⟨k, tl, rfl, hk, hI⟩ := hrel
      have HI := Lib.hid hI
      have hlo := hI.bel.size
      clear hI
      by_cases hlt : k < N
      · have hlt1 : k < len := by omega
        have h60 : k < 60 := by omega
        obtain ⟨b, o, hAe, hb, hlies⟩ := Hcell.out (by omega)
        subst hAe
        have hx0 : k < l.length := by have := Hlen.out; omega
        have hcs := act_cells (hlies.keep (HI.out.bel.block b hb)) hx0
        obtain ⟨a, hy⟩ : ∃ x, l[k] = x := ⟨_, rfl⟩
        rw [hy] at hcs
        have e1 := hcs 1 _ rfl
        have e2 := hcs 2 _ rfl
        have e5 := hcs 5 _ rfl
        have e6 := hcs 6 _ rfl
        have e7 := hcs 7 _ rfl
        have e8 := hcs 8 _ rfl
        have e9 := hcs 9 _ rfl
        have e10 := hcs 10 _ rfl
        simp only [iv] at e1 e2 e5 e6 e7 e8 e9 e10
        have i0 : (0 : Int) ≤ (k : Int) := by omega
        have i1 : (k : Int) < (len : Int) := by omega
        obtain ⟨S, hT, hS⟩ := HI.out.tab
        have HT := Lib.hid hT
        have HS := Lib.hid hS
        clear hlies hy hcs hT hS
        go_wp2_with fail
        refine wp_region_still_tail_drew 16 (by kernel_rfl) (by kernel_rfl) ?_
        simp only [List.take_succ_cons, List.take_zero, List.drop_succ_cons, List.drop_zero]
        repeat still_step
        refine wpStill_nil ?_
        clear e1 e2 e5 e6 e7 e8 e9 e10
        go_wp2_with (go_at_call 12; refine (put_all a.r _ _ S g 1 3 tl _ (HT.out.below (Below.refl _ _).drew) (by have := HI.out.len; omega)).mono ?_; rintro e w3 ⟨rfl, hT3, hF3⟩; have HT3 := Lib.hid hT3; have HF3 := Lib.hid hF3; clear hT3 hF3)
        go_roundw
        case rel =>
          have h3 := HF3.out.size
          refine ⟨k + 1, _, by go_num, by omega, ⟨_, HT3.out, fun j hj => ?_⟩, (HI.out.bel.trans ((Below.refl _ _).drew)).trans (HF3.out.to_below hlo fun j _ hj => HS.out j hj), ?_⟩
          · rcases hj with hj | hj
            · exact HS.out j hj
            · have : wr.heap.size ≤ j := hj.1
              omega
          · have := Psp.put_len_le 1 3 tl a.r a.node a.clock; have := HI.out.len; omega
        case measure => simp [intOf]; omega
      · obtain rfl : k = N := by omega
        by_cases hlt1 : k < len
        · have h60 : ¬ k < 60 := by have := HN.out; omega
          go_wp2_with fail
          go_meet
          exact ⟨_, HI.out.tab, HI.out.bel, by have := HI.out.len; omega⟩
        · go_wp2_with fail
          go_meet
          exact ⟨_, HI.out.tab, HI.out.bel, by have := HI.out.len; omega⟩
  case rest =>
  obtain ⟨tl, hI⟩ := hcut
  obtain ⟨S, hT, hS⟩ := hI.tab
  have HI := Lib.hid hI
  have HT := Lib.hid hT
  have HS := Lib.hid hS
  have hs0 := hI.bel.size
  clear hI hT hS
  go_wp2_with fail
  refine (all_tab S g 1 3 tl _ HT.out).mono ?_
  rintro e w2 ⟨v1, rfl, hown1, hb2⟩
  obtain ⟨n1, hn1⟩ : ∃ n, tl.length = n := ⟨_, rfl⟩
  rw [hn1] at hown1
  obtain ⟨A1, c1, rfl, hc11, hc12, hx1⟩ := own_slice hown1
  have n60 : n1 ≤ 60 := by have := HI.out.len; omega
  have hs2 := hb2.size
  have Hx1 := Lib.hid hx1
  have Hb2 := Lib.hid hb2
  have HT2 := Lib.hid (HT.out.below hb2)
  have Hn1 := Lib.hid hn1
  clear hown1 hx1 hb2 hn1
  go_wp2_with fail
  refine (drop_tab cc tm S g 1 3 tl _ HT2.out).mono ?_
  rintro e w3 ⟨rfl, hT3, hF3⟩
  obtain ⟨n2, hn2⟩ : ∃ n, (dropOf cc tm tl).length = n := ⟨_, rfl⟩
  have n21 : n2 ≤ n1 := by have := dropOf_len cc tm tl; have := Hn1.out; omega
  rw [Hn1.out, hn2]
  have HT3 := Lib.hid hT3
  have HF3 := Lib.hid hF3
  have Hn2 := Lib.hid hn2
  have hs3 := hF3.size
  clear hT3 hF3 hn2
  go_wp2_with fail
  refine (all_tab _ g 1 3 _ _ HT3.out).mono ?_
  rintro e w4 ⟨v2, rfl, hown2, hb4⟩
  rw [Hn2.out] at hown2
  obtain ⟨A2, c2, rfl, hc21, hc22, hx2⟩ := own_slice hown2
  have hs4 := hb4.size
  have HB4 := Lib.hid ((HI.out.bel.trans (Hb2.out.mono hs0)).trans ((HF3.out.to_below (by omega) fun j _ hj => HS.out j hj).trans (hb4.mono (by omega))))
  have HT4 := Lib.hid (HT3.out.below hb4)
  have HL1 : Hid (0 < n1 → ∃ b, A1 = some ⟨b, 0, none⟩ ∧ Lies w4 b 0 ((Psp.reqsOf tl).flatMap rq)) := Lib.hid fun h => by
    obtain ⟨b, e, hb1, hb3, hli⟩ := Hx1.out h
    exact ⟨b, e, (hli.keep (HF3.out.block b hb3 fun hk => by have := HT.out.lt b hk; omega)).keep (hb4.block b (by omega))⟩
  have HL2 : Hid (0 < n2 → ∃ b, A2 = some ⟨b, 0, none⟩ ∧ Lies w4 b 0 ((Psp.reqsOf (dropOf cc tm tl)).flatMap rq)) := Lib.hid fun h => by
    obtain ⟨b, e, _, _, hli⟩ := hx2 h
    exact ⟨b, e, hli⟩
  clear hown2 hx2 hb4
  obtain ⟨rs, hrs⟩ : ∃ rs, Psp.reqsOf tl = rs := ⟨_, rfl⟩
  have hds := drop_reqs cc tm tl
  rw [hrs] at HL1 hds
  rw [hds] at HL2
  have hrn : rs.length = n1 := by rw [← hrs]; unfold Psp.reqsOf; rw [List.length_map]; exact Hn1.out
  have hdn : (rs.filter (kept cc tm)).length = n2 := by rw [← hds]; unfold Psp.reqsOf; rw [List.length_map]; exact Hn2.out
  have Hrn := Lib.hid hrn
  have Hdn := Lib.hid hdn
  have hHidL1 := HL1
  clear hrs hds hrn hdn
  go_wp2_with fail
  go_loopw [13, 14, 63] (fun kk gn i wr => ∃ (p : Nat), i = .int .i64 (p : Int) ∧ p ≤ n1 ∧ kk = .int .i64 (((rs.take p).filter (kept cc tm)).length : Nat) ∧ gn = .int .i64 ((p - ((rs.take p).filter (kept cc tm)).length : Nat) : Int) ∧ ∃ q, wr = w4.drewN q) (fun _ _ i _ => n1 - (intOf i).toNat)
  case atStart => exact ⟨0, rfl, Nat.zero_le _, rfl, rfl, 0, rfl⟩
  case round =>
    obtain ⟨p, rfl, hp, rfl, rfl, q, rfl⟩ := hrel
    have hfl : ((rs.take p).filter (kept cc tm)).length ≤ p := by have := List.length_filter_le (kept cc tm) (rs.take p); rw [List.length_take] at this; omega
    obtain ⟨m, hm⟩ : ∃ m, ((rs.take p).filter (kept cc tm)).length = m := ⟨_, rfl⟩
    rw [hm] at hfl ⊢
    have Hm := Lib.hid hm
    clear hm
    obtain ⟨gn, hgn⟩ : ∃ gn, p - m = gn := ⟨_, rfl⟩
    rw [hgn]
    have gn1 : gn ≤ p := by omega
    have Hgn := Lib.hid hgn
    clear hgn
    by_cases hlt : p < n1
    · obtain ⟨b, hAe, hli⟩ := HL1.out (by omega)
      subst hAe
      have hpr : p < rs.length := by have := Hrn.out; omega
      obtain ⟨r, hr⟩ : ∃ r, rs[p] = r := ⟨_, rfl⟩
      have hrg := reqs_range hli hpr
      rw [hr, Nat.zero_add] at hrg
      have hst := filt_step (p := kept cc tm) hpr
      rw [hr, Hm.out] at hst
      have e0 := hrg 0 _ rfl
      have e1 := hrg 1 _ rfl
      simp only [iv, Nat.add_zero] at e0 e1
      have Hrg := Lib.hid hrg
      have Hr := Lib.hid hr
      have Hst := Lib.hid hst
      clear hli hrg hr hst
      by_cases hk : kept cc tm r = true
      · have hat := filt_at (p := kept cc tm) hpr (by rw [Hr.out]; exact hk)
        rw [Hm.out, Hr.out] at hat
        obtain ⟨hm2, hat2⟩ := List.getElem?_eq_some_iff.1 hat
        have hmn : m < n2 := by have := Hdn.out; omega
        obtain ⟨b2, hAe2, hli2⟩ := HL2.out (by omega)
        subst hAe2
        have hrg2 := reqs_range hli2 hm2
        rw [hat2, Nat.zero_add] at hrg2
        have Hrg2 := Lib.hid hrg2
        have e := Hst.out
        rw [if_pos hk] at e
        have E := Lib.hid e
        have dge : decide ((n2 : Int) ≤ (m : Int)) = false := by simp; omega
        have dge2 : decide (n2 ≤ m) = false := by simp; omega
        have hkk := hk
        unfold kept at hkk
        clear hli2 hrg2 hat hat2 hm2 e Hst hk
        have HQ1 : Hid (∀ w' : World, (∃ n, w' = (w4.drewN q).drewN n) → w'.rangeAt b (p * 6) (rq r)) := Lib.hid (by rintro w' ⟨n, rfl⟩; exact Hrg.out)
        have HQ2 : Hid (∀ w' : World, (∃ n, w' = (w4.drewN q).drewN n) → w'.rangeAt b2 (m * 6) (rq r)) := Lib.hid (by rintro w' ⟨n, rfl⟩; exact Hrg2.out)
        by_cases hc : r.c = cc
        · have dc : (r.c == cc) = true := by simpa using hc
          have ht : tm < r.t := by simpa [hc] using hkk
          have dt : decide (r.t ≤ tm) = false := by simp; omega
          clear hkk hc
          go_wp2_with fail
          refine wp_region_quiet_lit (by kernel_rfl) (by kernel_rfl) ?_
          repeat (first | (refine quiet_load rfl 25 (.tmp 91) rfl b2 (m * 6) rfl (rq r) _ HQ2.out Try.underlying25 rfl req_size ?_; intro K hK; go_simp; refine hK _ ?_; clear hK K) | (refine quiet_load rfl 25 (.tmp 95) rfl b (p * 6) rfl (rq r) _ HQ1.out Try.underlying25 rfl req_size ?_; intro K hK; go_simp; refine hK _ ?_; clear hK K) | (refine quiet_val rfl (.bool false) (fun w hC => (exec_neq_req (.tmp 92) (.tmp 96) _ rfl r r rfl rfl).trans (by simp)) ?_; intro K hK; go_simp; refine hK _ ?_; clear hK K) | go_big_quiet_step (fail))
          refine wpQuiet_nil ?_
          intro _ hw'
          obtain ⟨nq, hw''⟩ := hw'
          subst hw''
          go_wp2_with fail
          go_roundw
          case rel => exact ⟨p + 1, by go_num, by omega, by rw [E.out]; go_num, by rw [E.out, show p + 1 - (m + 1) = gn by have := Hgn.out; omega], _, rfl⟩
          case measure => simp [intOf]; omega
        · have dc : (r.c == cc) = false := by simpa using hc
          clear hkk hc
          go_wp2_with fail
          refine wp_region_quiet_lit (by kernel_rfl) (by kernel_rfl) ?_
          repeat (first | (refine quiet_load rfl 25 (.tmp 91) rfl b2 (m * 6) rfl (rq r) _ HQ2.out Try.underlying25 rfl req_size ?_; intro K hK; go_simp; refine hK _ ?_; clear hK K) | (refine quiet_load rfl 25 (.tmp 95) rfl b (p * 6) rfl (rq r) _ HQ1.out Try.underlying25 rfl req_size ?_; intro K hK; go_simp; refine hK _ ?_; clear hK K) | (refine quiet_val rfl (.bool false) (fun w hC => (exec_neq_req (.tmp 92) (.tmp 96) _ rfl r r rfl rfl).trans (by simp)) ?_; intro K hK; go_simp; refine hK _ ?_; clear hK K) | go_big_quiet_step (fail))
          refine wpQuiet_nil ?_
          intro _ hw'
          obtain ⟨nq, hw''⟩ := hw'
          subst hw''
          go_wp2_with fail
          go_roundw
          case rel => exact ⟨p + 1, by go_num, by omega, by rw [E.out]; go_num, by rw [E.out, show p + 1 - (m + 1) = gn by have := Hgn.out; omega], _, rfl⟩
          case measure => simp [intOf]; omega
      · have hc : r.c = cc := by unfold kept at hk; simp at hk; exact hk.1
        have ht : r.t ≤ tm := by unfold kept at hk; simp at hk; exact hk.2
        have dc : (r.c == cc) = true := by simpa using hc
        have dt : decide (r.t ≤ tm) = true := by simp; omega
        have e := Hst.out
        rw [if_neg hk, Nat.add_zero] at e
        have E := Lib.hid e
        clear hk hc ht e Hst
        go_wp2_with fail
        go_roundw
        case rel => exact ⟨p + 1, by go_num, by omega, by rw [E.out, Nat.add_zero], by rw [E.out, show p + 1 - (m + 0) = gn + 1 by have := Hgn.out; omega]; go_num, _, rfl⟩
        case measure => simp [intOf]; omega
    · obtain rfl : p = n1 := by omega
      have hmn : m = n2 := by
        have h1 := Hm.out
        rw [List.take_of_length_le (by rw [Hrn.out]; exact Nat.le_refl _), Hdn.out] at h1
        exact h1.symm
      subst hmn
      have hgn : gn = p - m := Hgn.out.symm
      subst hgn
      have hd2 : (dropOf cc tm (dropOf cc tm tl)).length = m := by rw [drop_twice]; exact Hn2.out
      have Hd2 := Lib.hid hd2
      have HT5 := Lib.hid (HT4.out.below (below_drewN (Below.refl w4.heap.size w4) q))
      clear hd2
      go_wp2_with (first | (go_at_call 16; refine (drop_tab cc tm _ g 1 3 _ _ HT5.out).mono ?_; rintro e w5 ⟨rfl, hT6, hF6⟩; rw [Hn2.out, Hd2.out, Nat.sub_self]; have HT6 := Lib.hid hT6; have HF6 := Lib.hid hF6; clear hT6 hF6) | (go_at_call 14; refine (len_tab _ g 1 3 _ _ HT6.out).mono ?_; rintro e w6 ⟨rfl, rfl⟩; rw [Hd2.out]) | (go_at_call 15; refine (wakes13 _).mono ?_; rintro e w' ⟨rfl, hb9⟩))
      go_ret
      have h1 := (below_drewN HB4.out q).trans (HF6.out.to_below HB4.out.size fun j hj hk => by
        rcases hk with hk | hk
        · exact HS.out j hk
        · omega)
      exact ⟨rfl, h1.trans (hb9.mono h1.size)⟩
end Go.Proofs.Ytmbdailffhdonaa.propDrops
