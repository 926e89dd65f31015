/- The reference: Order. -/
import Derived.Test.YtadpkjgjciodnaaGreatRhasVi
import Derived.Deep.CutBlock
import Derived.Deep.LoopGhost
import Derived.Deep.AppendLies
import Derived.Deep.RegionHeld3
import Derived.Deep.RegionLaw
import Derived.OwnWalk
namespace Go.Proofs.YtadpkjgjciodnaaGreat
open Go.RowKit
set_option linter.unusedVariables false

theorem req_info : (Tryz.prog.info? 58).map (fun i => (i.zero, i.size, i.bytes)) = some (some (.agg #[.int .i64 0, .int .i64 0, .int .i64 0, .int .i64 0, .int .i64 0, .int .i64 0]), 6, 48) := by kernel_rfl

theorem od_take : ∀ (l : List Psp.Req) (j : Nat), (l.flatMap rq).take (j * 6) = (l.take j).flatMap rq
  | [], j => by simp
  | x :: l, 0 => by simp
  | x :: l, j + 1 => by
    rw [List.take_succ_cons, List.flatMap_cons, List.flatMap_cons, ← od_take l j, Nat.succ_mul, Nat.add_comm, List.take_append]
    have : (rq x).length = 6 := rfl
    rw [List.take_of_length_le (by rw [this]; omega), this, Nat.add_sub_cancel_left]
theorem od_drop : ∀ (l : List Psp.Req) (j : Nat), (l.flatMap rq).drop (j * 6) = (l.drop j).flatMap rq
  | [], j => by simp
  | x :: l, 0 => by simp
  | x :: l, j + 1 => by
    rw [List.drop_succ_cons, List.flatMap_cons, ← od_drop l j, Nat.succ_mul, Nat.add_comm, List.drop_append]
    have : (rq x).length = 6 := rfl
    rw [List.drop_of_length_le (by rw [this]; omega), this, Nat.add_sub_cancel_left, List.nil_append]
theorem od_len (l : List Psp.Req) : (l.flatMap rq).length = l.length * 6 := by
  induction l with
  | nil => rfl
  | cons x l ih => rw [List.flatMap_cons, List.length_append, ih, List.length_cons, Nat.succ_mul, Nat.add_comm]; rfl
theorem od_one (l : List Psp.Req) : ∀ u ∈ l.flatMap rq, u.oneCell' = true := by
  intro u hu
  obtain ⟨x, _, hx⟩ := List.mem_flatMap.1 hu
  exact rq_one x u hx
theorem od_ownx (w : World) (x : Psp.Req) : (w.alloc (.cells #[.int .i64 x.c, .int .i64 x.t, .int .i64 x.k, .int .i64 x.y, .int .i64 x.v, .int .i64 x.s] 58)).ownsRow w.heap.size 58 6 (.slice (some ⟨w.heap.size, 0, none⟩) 1 1) 1 (rq x) :=
  ⟨rfl, Or.inr ⟨w.heap.size, 1, _, rfl, Nat.le_refl _, heap_alloc_new w _, Nat.le_refl _, by unfold maxLen; omega, rfl, rfl⟩⟩
theorem od_pre {w : World} {base b m c j : Nat} {xs : List Psp.Req} (h : w.ownsRow base 58 6 (.slice (some ⟨b, 0, none⟩) m c) m (xs.flatMap rq)) (hj : j ≤ m) : w.ownsRow base 58 6 (.slice (some ⟨b, 0, none⟩) j c) j ((xs.take j).flatMap rq) := by
  rcases h.2 with ⟨h1, _⟩ | ⟨g, cap, cur, h1, h2, h3, h4, h5, h6, h7⟩
  · cases h1
  · injection h1 with e1 _ e3
    injection e1 with e1
    injection e1 with e1
    subst e1 e3
    have hl := h.1
    refine ⟨by rw [← od_take, List.length_take, hl]; have := Nat.mul_le_mul_right 6 hj; omega, Or.inr ⟨b, c, cur, rfl, h2, h3, by omega, h5, h6, ?_⟩⟩
    rw [← od_take, ← h7, List.take_take]
    congr 1
    have := Nat.mul_le_mul_right 6 hj
    omega
theorem od_add (b o j : Nat) : ((⟨b, o, none⟩ : Addr).add j) = ⟨b, o + j, none⟩ := by
  unfold Addr.add; by_cases h0 : j = 0
  · subst h0; rfl
  · simp [h0]
theorem od_news {w : World} {base b m c j : Nat} {xs : List Psp.Req} (h : w.ownsRow base 58 6 (.slice (some ⟨b, 0, none⟩) m c) m (xs.flatMap rq)) (hm : 0 < m) : ∀ i u, ((xs.drop j).flatMap rq)[i]? = some u → w.cell? ((⟨b, j * 6, none⟩ : Addr).add i) = some u := by
  intro i u hu
  obtain ⟨_, A', c', e, _, _, hl⟩ := Rd.of_own h
  obtain ⟨b', o', e2, _, hl⟩ := hl hm
  injection e with e _ _
  subst e
  rw [od_add]
  rcases h.2 with ⟨h1, _⟩ | ⟨g, cap, cur, h1, h2, h3, h4, h5, h6, h7⟩
  · cases h1
  · injection h1 with e1 _ e3
    injection e1 with e1
    injection e1 with e1
    subst e1 e3
    rw [cell_of_row w b _ _ _ _ h3, ← Array.getElem?_toList]
    rw [← od_drop, List.getElem?_drop] at hu
    have h8 : (cur.toList.take (m * 6))[j * 6 + i]? = some u := by rw [h7]; exact hu
    rw [List.getElem?_take] at h8
    split at h8
    · exact h8
    · cases h8
theorem od_news0 {w : World} {base b m c : Nat} {us : List Value} (h : w.ownsRow base 58 6 (.slice (some ⟨b, 0, none⟩) m c) m us) : ∀ i u, us[i]? = some u → w.cell? ((⟨b, 0, none⟩ : Addr).add i) = some u := by
  intro i u hu
  rw [od_add, Nat.zero_add]
  rcases h.2 with ⟨h1, _⟩ | ⟨g, cap, cur, h1, h2, h3, h4, h5, h6, h7⟩
  · cases h1
  · injection h1 with e1 _ e3
    injection e1 with e1
    injection e1 with e1
    subst e1 e3
    rw [cell_of_row w b _ _ _ _ h3, ← Array.getElem?_toList]
    rw [← h7, List.getElem?_take] at hu
    split at hu
    · exact hu
    · cases hu

set_option maxRecDepth 100000 in
set_option maxHeartbeats 8000000 in
theorem order_any (l : List Psp.Req) (n : Nat) (v : Value) (w : World) (P : Nat → Prop) (hx : RdP w P 6 v n (l.flatMap rq)) (hn : l.length = n) (hbig : n ≤ 1099511627776) :
    Calls Tryz.prog 76 #[v] w fun e w' => ∃ A c, e = .returned (.slice A (Psp.ordR l).length c) ∧ w'.ownsRow w.heap.size 58 6 (.slice A (Psp.ordR l).length c) (Psp.ordR l).length ((Psp.ordR l).flatMap rq) ∧ Below w.heap.size w w' := by
  obtain ⟨_, A, c, rfl, hc1, hc2, _⟩ := hx.parts
  have HX := Lib.hid hx
  have Hn := Lib.hid hn
  clear hx hn
  go_enter Tryz.func76, Tryz.ntmps76
  go_wp2_with fail
  go_loopw [3, 4, 5] (fun out i kk wr => ∃ (k : Nat) (xs : List Psp.Req) (A1 : Option Addr) (m c1 : Nat), out = .slice A1 m c1 ∧ i = .int .i64 (k : Int) ∧ k ≤ n ∧ m = xs.length ∧ Hid (Psp.ordR (l.take k) = xs) ∧ Hid (wr.ownsRow w.heap.size 58 6 (.slice A1 m c1) m (xs.flatMap rq)) ∧ Hid (Below w.heap.size w wr)) (fun _ i _ _ => n - (intOf i).toNat)
  case atStart => exact ⟨0, [], none, 0, 0, rfl, rfl, Nat.zero_le _, rfl, Lib.hid rfl, Lib.hid ⟨by simp, Or.inl ⟨rfl, rfl⟩⟩, Lib.hid (Below.refl _ _)⟩
  case round =>
    obtain ⟨k, xs, A1, m, c1, rfl, rfl, hk, hm, Hxs, HO, HB⟩ := hrel
    have Hm := Lib.hid hm
    clear hm
    by_cases hlt : k < n
    · have d1 : decide ((k : Int) < (n : Int)) = true := by simp; omega
      obtain ⟨b0, o0, c0, he, hb0, _, _, hel⟩ := ri_elem HX.out Hn.out (by omega)
      injection he with he1 _ he2
      subst he1 he2
      obtain ⟨x, hx⟩ : ∃ x, l[k]? = some x := ⟨l[k]'(by rw [Hn.out]; omega), List.getElem?_eq_getElem (by rw [Hn.out]; omega)⟩
      have HQ := Lib.hid (hel k x hx wr (HB.out.block b0 hb0))
      have Hel := Lib.hid (hel k x hx)
      have Hx := Lib.hid hx
      have hmk : m ≤ k := by
        have h1 := Psp.ord_len (l.take k) []
        have h2 := Hxs.out
        unfold Psp.ordR at h2
        rw [h2, List.length_take] at h1
        have := Hm.out
        simp at h1; omega
      clear hx hel
      go_wp2_with (refine list_load rfl 58 (.tmp 15) rfl b0 (o0 + k * 6) rfl (rq x) _ HQ.out Tryz.underlying58 rfl rst_sizeR ?_)
      refine (rhas_any xs m _ x wr (fun b => w.heap.size ≤ b) ((RdP.of_own HO.out).mono (fun b _ h => h.2)) Hm.out.symm).mono ?_
      rintro e w1 ⟨rfl, hb1⟩
      have HB1 := Lib.hid (HB.out.trans (hb1.mono HB.out.size))
      have HO1 := Lib.hid (own_below HO.out hb1)
      clear hb1
      by_cases hmem : x ∈ xs
      · have Hins := Lib.hid (show Psp.insR xs x = xs by unfold Psp.insR; rw [if_pos hmem])
        rw [decide_eq_true hmem]
        clear hmem
        go_wp2_with fail
        go_roundw
        case rel => exact ⟨k + 1, xs, A1, m, c1, rfl, by go_num, by omega, Hm.out, Lib.hid (by rw [Psp.ord_step Hx.out, Hxs.out, Hins.out]), HO1, HB1⟩
        case measure => simp [intOf]; omega
      · have Hins := Lib.hid (show Psp.insR xs x = xs.take (Psp.posR x xs xs.length) ++ (x :: xs.drop (Psp.posR x xs xs.length)) by unfold Psp.insR; rw [if_neg hmem])
        rw [decide_eq_false hmem]
        clear hmem
        go_upto_block 2 with fail
        go_cut [5] from 20 to 36 (fun kk wx => kk = .int .i64 ((Psp.posR x xs xs.length : Nat) : Int) ∧ Below w1.heap.size w1 wx)
        case first =>
          go_wp2_with fail
          go_loopw [5] (fun kk wr2 => ∃ j : Nat, kk = .int .i64 (j : Int) ∧ j ≤ m ∧ Hid (Psp.posR x xs xs.length = Psp.posR x xs j) ∧ Hid (Below w1.heap.size w1 wr2)) (fun kk _ => (intOf kk).toNat)
          case atStart => exact ⟨m, rfl, Nat.le_refl _, Lib.hid (by rw [← Hm.out]), Lib.hid (Below.refl _ _)⟩
          case round =>
            obtain ⟨j, rfl, hj, Hp, HB2⟩ := hrel
            by_cases hj0 : j = 0
            · subst hj0
              have d2 : decide ((0 : Int) < ((0 : Nat) : Int)) = false := by simp
              go_wp2_with fail
              refine wp_region_later (by kernel_rfl) (by kernel_rfl) ?_
              repeat (first | go_big_quiet_step (fail) | quiet_step (fail))
              refine wpQuiet_nil ?_
              intro w3 hw'
              obtain ⟨⟨wq, hbq⟩, hw'⟩ := hw'
              have hb3 : Below wr.heap.size wr w3 := by rw [hw']; exact hbq
              clear hw' hbq
              have HB3 := Lib.hid (Below.then HB2.out hb3 HB2.out.size)
              clear hb3
              go_wp2_with fail
              go_meet
              exact ⟨by rw [Hp.out]; rfl, HB3.out⟩
            · obtain ⟨p, rfl⟩ : ∃ p, j = p + 1 := ⟨j - 1, by omega⟩
              have d2 : decide ((0 : Int) < ((p + 1 : Nat) : Int)) = true := by rw [decide_eq_true_eq]; omega
              have z1 : ((p + 1 : Nat) : Int) - 1 = (p : Int) := by omega
              obtain ⟨b1, o1, c2, he, hb1, _, _, hel⟩ := ri_elem (RdP.of_own HO1.out) Hm.out.symm (by omega)
              injection he with he1 _ he2
              subst he1 he2
              obtain ⟨y, hy⟩ : ∃ y, xs[p]? = some y := ⟨xs[p]'(by rw [← Hm.out]; omega), List.getElem?_eq_getElem (by rw [← Hm.out]; omega)⟩
              have Hy := Lib.hid hy
              have HQ1 : Hid (∀ w' : World, (∃ p : Later wr, w' = p.W) → w'.rangeAt b0 (o0 + k * 6) (rq x)) := Lib.hid (by rintro w' ⟨q, rfl⟩; exact Hel.out _ ((q.h.block b0 (Nat.lt_of_lt_of_le hb0 (Nat.le_trans HB1.out.size HB2.out.size))).trans ((HB2.out.block b0 (Nat.lt_of_lt_of_le hb0 HB1.out.size)).trans (HB1.out.block b0 hb0))))
              have HQ2 : Hid (∀ w' : World, (∃ p : Later wr, w' = p.W) → w'.rangeAt b1 (o1 + p * 6) (rq y)) := Lib.hid (by rintro w' ⟨q, rfl⟩; exact hel p y hy _ ((q.h.block b1 (Nat.lt_of_lt_of_le hb1 HB2.out.size)).trans (HB2.out.block b1 hb1)))
              obtain ⟨cv, hcv⟩ : ∃ cv, Psp.cmpR x y = cv := ⟨_, rfl⟩
              have Hcv := Lib.hid hcv
              have HC : Hid (∀ p : Later wr, Calls Tryz.prog 119 #[.agg (rq x).toArray, .agg (rq y).toArray] p.W fun e w' => e = .returned (.int .i64 cv) ∧ Below p.W.heap.size p.W w') := Lib.hid fun p => by rw [← hcv]; exact rcompare_any x y p.W
              clear hy hcv hel
              by_cases hc : cv < 0
              · have d3 : decide (cv < 0) = true := decide_eq_true hc
                have Hgo := Lib.hid (Psp.posR_go Hy.out (by rw [Hcv.out]; exact hc))
                clear hc
                go_wp2_with fail
                refine wp_region_later (by kernel_rfl) (by kernel_rfl) ?_
                repeat (first | go_big_quiet_step (first | (go_at_call 119; exact later_call _ (HC.out _))) | (refine quiet_load (by simp [Region.wanted, yielded]) 58 (.tmp 25) (by rfl) b0 (o0 + k * 6) (by rfl) (rq x) _ HQ1.out Tryz.underlying58 rfl rst_sizeR ?_; intro K hK; go_simp; refine hK _ ?_; clear hK K) | (refine quiet_load (by simp [Region.wanted, yielded]) 58 (.tmp 30) (by rfl) b1 (o1 + p * 6) (by rfl) (rq y) _ HQ2.out Tryz.underlying58 rfl rst_sizeR ?_; intro K hK; go_simp; refine hK _ ?_; clear hK K) | quiet_step (first | (go_at_call 119; exact later_call _ (HC.out _))))
                refine wpQuiet_nil ?_
                intro w3 hw'
                obtain ⟨⟨wq, hbq⟩, hw'⟩ := hw'
                have hb3 : Below wr.heap.size wr w3 := by rw [hw']; exact hbq
                clear hw' hbq
                have HB3 := Lib.hid (Below.then HB2.out hb3 HB2.out.size)
                clear hb3
                go_wp2_with fail
                go_roundw
                case rel => exact ⟨p, by go_num, by omega, Lib.hid (by rw [Hp.out, Hgo.out]), HB3⟩
                case measure => first | (simp [intOf]; done) | (simp [intOf]; omega)
              · have d3 : decide (cv < 0) = false := decide_eq_false hc
                have Hst := Lib.hid (Psp.posR_stop Hy.out (by rw [Hcv.out]; exact hc))
                clear hc
                go_wp2_with fail
                refine wp_region_later (by kernel_rfl) (by kernel_rfl) ?_
                repeat (first | go_big_quiet_step (first | (go_at_call 119; exact later_call _ (HC.out _))) | (refine quiet_load (by simp [Region.wanted, yielded]) 58 (.tmp 25) (by rfl) b0 (o0 + k * 6) (by rfl) (rq x) _ HQ1.out Tryz.underlying58 rfl rst_sizeR ?_; intro K hK; go_simp; refine hK _ ?_; clear hK K) | (refine quiet_load (by simp [Region.wanted, yielded]) 58 (.tmp 30) (by rfl) b1 (o1 + p * 6) (by rfl) (rq y) _ HQ2.out Tryz.underlying58 rfl rst_sizeR ?_; intro K hK; go_simp; refine hK _ ?_; clear hK K) | quiet_step (first | (go_at_call 119; exact later_call _ (HC.out _))))
                refine wpQuiet_nil ?_
                intro w3 hw'
                obtain ⟨⟨wq, hbq⟩, hw'⟩ := hw'
                have hb3 : Below wr.heap.size wr w3 := by rw [hw']; exact hbq
                clear hw' hbq
                have HB3 := Lib.hid (Below.then HB2.out hb3 HB2.out.size)
                clear hb3
                go_wp2_with fail
                go_meet
                exact ⟨by rw [Hp.out, Hst.out]; rfl, HB3.out⟩
        case' rest =>
          obtain ⟨rfl, hb2⟩ := hcut
          have hjm := Psp.posR_le x xs xs.length
          obtain ⟨j, hj⟩ : ∃ j, Psp.posR x xs xs.length = j := ⟨_, rfl⟩
          rw [hj] at hjm
          have hins := Hins.out
          rw [hj] at hins
          rw [hj]
          have Hin2 := Lib.hid hins
          have hjm' : j ≤ m := by rw [Hm.out]; exact hjm
          have HBc := Lib.hid (HB1.out.trans (hb2.mono HB1.out.size))
          have HOc := Lib.hid (own_below HO1.out hb2)
          have hrg := Hel.out wc (HBc.out.block b0 hb0)
          have e0 := hrg 0 _ rfl
          have e1 := hrg 1 _ rfl
          have e2 := hrg 2 _ rfl
          have e3 := hrg 3 _ rfl
          have e4 := hrg 4 _ rfl
          have e5 := hrg 5 _ rfl
          simp only [Nat.add_zero, iv] at e0 e1 e2 e3 e4 e5
          have hb0c : b0 < wc.heap.size := Nat.lt_of_lt_of_le hb0 HBc.out.size
          obtain ⟨i0, hi0, hz0, hz1, hz2⟩ := info_parts req_info
          clear hb2 hrg hj hjm hins Hins
          go_wp2_with fail
          rcases HOc.out.2 with ⟨hnil, hm0⟩ | ⟨b1, cap, cur, hsl, hb1, hcur, hcp1, hcp2, hsz, htk⟩
          · injection hnil with h1 h2 h3
            subst h1 h2 h3
            have hj0 : j = 0 := by omega
            subst hj0
            have hownb : (wc.drew.alloc (.cells #[.int .i64 x.c, .int .i64 x.t, .int .i64 x.k, .int .i64 x.y, .int .i64 x.v, .int .i64 x.s] 58)).ownsRow w.heap.size 58 6 (.slice none 0 0) 0 (xs.flatMap rq) := own_below (show wc.drew.ownsRow _ _ _ _ _ _ from HOc.out) (alloc_below _ _)
            have i5 : (0 : Int) ≤ (k : Int) := by omega
            have i6 : (k : Int) < (n : Int) := by omega
            have hlen1 : (rq x).length = 1 * 6 := rfl
            have hb0c2 : b0 < wc.heap.size + 1 := by omega
            have hszw : w.heap.size ≤ wc.heap.size + 1 := by have := HBc.out.size; omega
            go_region_held3 (fun w' => w'.cell? ⟨b0, o0 + k * 6, none⟩ = some (.int .i64 x.c) ∧ w'.cell? ⟨b0, o0 + k * 6 + 1, none⟩ = some (.int .i64 x.t) ∧ w'.cell? ⟨b0, o0 + k * 6 + 2, none⟩ = some (.int .i64 x.k) ∧ w'.cell? ⟨b0, o0 + k * 6 + 3, none⟩ = some (.int .i64 x.y) ∧ w'.cell? ⟨b0, o0 + k * 6 + 4, none⟩ = some (.int .i64 x.v) ∧ w'.cell? ⟨b0, o0 + k * 6 + 5, none⟩ = some (.int .i64 x.s))
              (first
                | go_keep
                | (go_split_ands
                   refine ⟨?_, ?_, ?_, ?_, ?_, ?_⟩ <;> (first | exact (own_far hownb hg6 hb0 (by simpa using hszw)).trans (by assumption))))
              (first
                | ((refine step_append_lies _ (by rfl) _ _ _ (by rfl) w.heap.size 58 i0 _ 6 48 Tryz.underlying22 hi0 hz0 hz1 hz2 rfl (by omega) (.slice none 0 0) 0 (xs.flatMap rq) (by rfl) hownb
                     ⟨wc.heap.size, 0, none⟩ 1 1 (rq x) (by rfl) hlen1 (od_news0 (od_ownx wc.drew x)) (rq_one x)
                     (by omega) (by unfold maxLen; omega) (by omega) (by simpa using hszw) (wc.heap.size + 1) (by simp) ?_; intro g6 cap6 w6 hown6 hg6 hat6 hlt6))
                | fail)
            have HF1 : Hid (0 + 1 = (Psp.insR xs x).length) := Lib.hid (by rw [Hin2.out, List.length_append, List.length_cons, List.length_take, List.length_drop, ← Hm.out]; omega)
            have HF2 : Hid (w6.ownsRow w.heap.size 58 6 (.slice (some ⟨g6, 0, none⟩) (0 + 1) cap6) (0 + 1) ((Psp.insR xs x).flatMap rq)) := Lib.hid (by
              have e1 : xs.take 0 = xs := List.take_of_length_le (by rw [← Hm.out]; omega)
              have e2 : xs.drop 0 = [] := List.drop_of_length_le (by rw [← Hm.out]; omega)
              rw [Hin2.out, List.flatMap_append, List.flatMap_cons, e1, e2, List.flatMap_nil, List.append_nil]; exact hown6)
            have HF3 : Hid (Below w.heap.size w w6) := Lib.hid (((HBc.out.drew).alloc HBc.out.size _).grown hg6 (by simpa using hszw) (fun k hk => by cases hk))
            clear hown6 hg6 hat6 hlt6
            go_wp2_with fail
            go_roundw
            case rel => exact ⟨k + 1, Psp.insR xs x, _, _, _, rfl, by go_num, by omega, HF1.out, Lib.hid (by rw [Psp.ord_step Hx.out, Hxs.out]), HF2, HF3⟩
            case measure => first | (simp [intOf]; done) | (simp [intOf]; omega)
          · injection hsl with h1 h2 h3
            subst h1 h3
            by_cases hjl : j < m
            · have hne : ¬ c1 = j := by omega
              have i1 : (0 : Int) ≤ (j : Int) := by omega
              have i2 : (j : Int) ≤ (c1 : Int) := by omega
              have i3 : (j : Int) ≤ (m : Int) := by omega
              have i4 : (m : Int) ≤ (c1 : Int) := by omega
              have i7 : (c1 : Int) ≤ 9223372036854775807 := by unfold maxLen at hcp2; omega
              have i8 : (n : Int) ≤ 1099511627776 := by omega
              have i5 : (0 : Int) ≤ (k : Int) := by omega
              have i6 : (k : Int) < (n : Int) := by omega
              have hne2 : j ≤ c1 := by omega
              have hownx := od_ownx wc.drew x
              have hownb : (wc.drew.alloc (.cells #[.int .i64 x.c, .int .i64 x.t, .int .i64 x.k, .int .i64 x.y, .int .i64 x.v, .int .i64 x.s] 58)).ownsRow w.heap.size 58 6 (.slice (some ⟨b1, 0, none⟩) m c1) m (xs.flatMap rq) := own_below (show wc.drew.ownsRow _ _ _ _ _ _ from HOc.out) (alloc_below _ _)
              have hb1c : b1 < wc.heap.size := (Array.getElem?_eq_some_iff.1 hcur).1
              have hmx : (xs.drop j).length = m - j := by rw [List.length_drop, ← Hm.out]
              have hmt : (xs.take j).length = j := by rw [List.length_take, ← Hm.out]; omega
              have hl1 : ((xs.drop j).flatMap rq).length = (m - j) * 6 := by rw [od_len, hmx]
              have hl2 : (rq x ++ (xs.drop j).flatMap rq).length = (1 + (m - j)) * 6 := by rw [List.length_append, hl1]; have : (rq x).length = 6 := rfl; omega
              have hone2 : ∀ u ∈ rq x ++ (xs.drop j).flatMap rq, u.oneCell' = true := fun u hu => by
                rcases List.mem_append.1 hu with h | h
                · exact rq_one x u h
                · exact od_one _ u h
              go_region_held3 (fun w' => w'.cell? ⟨b0, o0 + k * 6, none⟩ = some (.int .i64 x.c) ∧ w'.cell? ⟨b0, o0 + k * 6 + 1, none⟩ = some (.int .i64 x.t) ∧ w'.cell? ⟨b0, o0 + k * 6 + 2, none⟩ = some (.int .i64 x.k) ∧ w'.cell? ⟨b0, o0 + k * 6 + 3, none⟩ = some (.int .i64 x.y) ∧ w'.cell? ⟨b0, o0 + k * 6 + 4, none⟩ = some (.int .i64 x.v) ∧ w'.cell? ⟨b0, o0 + k * 6 + 5, none⟩ = some (.int .i64 x.s))
                (first
                  | go_keep
                  | (go_split_ands
                     refine ⟨?_, ?_, ?_, ?_, ?_, ?_⟩ <;> (first | exact (own_far hownj hg6 hb0 hsz5).trans (by assumption) | exact (own_far hownx hg5 hb0c (by simp)).trans (by assumption))))
                (first
                  | ((refine step_append_lies _ (by rfl) _ _ _ (by rfl) wc.heap.size 58 i0 _ 6 48 Tryz.underlying22 hi0 hz0 hz1 hz2 rfl (by omega) (.slice (some ⟨wc.heap.size, 0, none⟩) 1 1) 1 (rq x) (by rfl) hownx
                       ⟨b1, j * 6, none⟩ (m - j) _ ((xs.drop j).flatMap rq) (by rfl) hl1 (od_news hownb (by omega)) (od_one _)
                       (by omega) (by unfold maxLen; omega) (by omega) (by simp) (wc.heap.size + 1) (by simp) ?_; intro g5 cap5 w5 hown5 hg5 hat5 hlt5; have hownj : w5.ownsRow w.heap.size 58 6 (.slice (some ⟨b1, 0, none⟩) j c1) j ((xs.take j).flatMap rq) := own_keep (od_pre hownb hjm') (fun b hb => hg5.block b (by injection hb with hb; subst hb; simp; omega) (fun he => by injection hb with hb; subst hb; injection he with he; simp at he; omega)); have hnews5 := od_news0 hown5; have hsz5 : w.heap.size ≤ w5.heap.size := by (have h1 := hg5.size; have h2 := HBc.out.size; simp at h1; omega)))
                  | ((refine step_append_lies _ (by rfl) _ _ _ (by rfl) w.heap.size 58 i0 _ 6 48 Tryz.underlying22 hi0 hz0 hz1 hz2 rfl (by omega) (.slice (some ⟨b1, 0, none⟩) j c1) j ((xs.take j).flatMap rq) (by rfl) hownj
                       ⟨g5, 0, none⟩ (1 + (m - j)) cap5 (rq x ++ (xs.drop j).flatMap rq) (by rfl) hl2 hnews5 hone2
                       (by omega) (by unfold maxLen; omega) (by omega) hsz5 w5.heap.size rfl ?_; intro g6 cap6 w6 hown6 hg6 hat6 hlt6)))
              have HF1 : Hid (j + (1 + (m - j)) = (Psp.insR xs x).length) := Lib.hid (by rw [Hin2.out, List.length_append, List.length_cons, hmt, hmx]; omega)
              have HF2 : Hid (w6.ownsRow w.heap.size 58 6 (.slice (some ⟨g6, 0, none⟩) (j + (1 + (m - j))) cap6) (j + (1 + (m - j))) ((Psp.insR xs x).flatMap rq)) := Lib.hid (by rw [Hin2.out, List.flatMap_append, List.flatMap_cons]; exact hown6)
              have HF3 : Hid (Below w.heap.size w w6) := Lib.hid ((((HBc.out.drew).alloc HBc.out.size _).grown hg5 (by have := HBc.out.size; simp; omega) (fun k hk => by injection hk with hk; subst hk; exact HBc.out.size)).grown hg6 hsz5 (fun k hk => by injection hk with hk; subst hk; exact hb1))
              clear hown6 hg6 hat6 hlt6 hown5 hg5 hat5 hlt5 hownj hnews5 hownx hownb hl1 hl2 hone2
              go_wp2_with fail
              go_roundw
              case rel => exact ⟨k + 1, Psp.insR xs x, _, _, _, rfl, by go_num, by omega, HF1.out, Lib.hid (by rw [Psp.ord_step Hx.out, Hxs.out]), HF2, HF3⟩
              case measure => first | (simp [intOf]; done) | (simp [intOf]; omega)
            · have hjm2 : j = m := by omega
              have hownb : (wc.drew.alloc (.cells #[.int .i64 x.c, .int .i64 x.t, .int .i64 x.k, .int .i64 x.y, .int .i64 x.v, .int .i64 x.s] 58)).ownsRow w.heap.size 58 6 (.slice (some ⟨b1, 0, none⟩) m c1) m (xs.flatMap rq) := own_below (show wc.drew.ownsRow _ _ _ _ _ _ from HOc.out) (alloc_below _ _)
              have i2 : (j : Int) ≤ (c1 : Int) := by omega
              have i3 : (j : Int) ≤ (m : Int) := by omega
              have i5 : (0 : Int) ≤ (k : Int) := by omega
              have i6 : (k : Int) < (n : Int) := by omega
              have i7 : j ≤ c1 := by omega
              have i8 : m - j = 0 := by omega
              clear hjl
              subst hjm2
              by_cases hcj : c1 = j
              · subst hcj
                have hlen1 : (rq x).length = 1 * 6 := rfl
                have hb0c2 : b0 < wc.heap.size + 1 := by omega
                have hszw : w.heap.size ≤ wc.heap.size + 1 := by have := HBc.out.size; omega
                go_region_held3 (fun w' => w'.cell? ⟨b0, o0 + k * 6, none⟩ = some (.int .i64 x.c) ∧ w'.cell? ⟨b0, o0 + k * 6 + 1, none⟩ = some (.int .i64 x.t) ∧ w'.cell? ⟨b0, o0 + k * 6 + 2, none⟩ = some (.int .i64 x.k) ∧ w'.cell? ⟨b0, o0 + k * 6 + 3, none⟩ = some (.int .i64 x.y) ∧ w'.cell? ⟨b0, o0 + k * 6 + 4, none⟩ = some (.int .i64 x.v) ∧ w'.cell? ⟨b0, o0 + k * 6 + 5, none⟩ = some (.int .i64 x.s))
                  (first
                    | go_keep
                    | (go_split_ands
                       refine ⟨?_, ?_, ?_, ?_, ?_, ?_⟩ <;> (first | exact (own_far hownb hg6 hb0 (by simpa using hszw)).trans (by assumption))))
                  (first
                    | ((refine step_append_lies _ (by rfl) _ _ _ (by rfl) w.heap.size 58 i0 _ 6 48 Tryz.underlying22 hi0 hz0 hz1 hz2 rfl (by omega) (.slice (some ⟨b1, 0, none⟩) c1 c1) c1 (xs.flatMap rq) (by rfl) hownb
                         ⟨wc.heap.size, 0, none⟩ 1 1 (rq x) (by rfl) hlen1 (od_news0 (od_ownx wc.drew x)) (rq_one x)
                         (by omega) (by unfold maxLen; omega) (by omega) (by simpa using hszw) (wc.heap.size + 1) (by simp) ?_; intro g6 cap6 w6 hown6 hg6 hat6 hlt6))
                    | fail)
                have HF1 : Hid (c1 + 1 = (Psp.insR xs x).length) := Lib.hid (by rw [Hin2.out, List.length_append, List.length_cons, List.length_take, List.length_drop, ← Hm.out]; omega)
                have HF2 : Hid (w6.ownsRow w.heap.size 58 6 (.slice (some ⟨g6, 0, none⟩) (c1 + 1) cap6) (c1 + 1) ((Psp.insR xs x).flatMap rq)) := Lib.hid (by
                  have e1 : xs.take c1 = xs := List.take_of_length_le (by rw [← Hm.out]; omega)
                  have e2 : xs.drop c1 = [] := List.drop_of_length_le (by rw [← Hm.out]; omega)
                  rw [Hin2.out, List.flatMap_append, List.flatMap_cons, e1, e2, List.flatMap_nil, List.append_nil]; exact hown6)
                have HF3 : Hid (Below w.heap.size w w6) := Lib.hid (((HBc.out.drew).alloc HBc.out.size _).grown hg6 (by simpa using hszw) (fun k hk => by injection hk with hk; subst hk; exact hb1))
                clear hown6 hg6 hat6 hlt6
                go_wp2_with fail
                go_roundw
                case rel => exact ⟨k + 1, Psp.insR xs x, _, _, _, rfl, by go_num, by omega, HF1.out, Lib.hid (by rw [Psp.ord_step Hx.out, Hxs.out]), HF2, HF3⟩
                case measure => first | (simp [intOf]; done) | (simp [intOf]; omega)
              · have hlen1 : (rq x).length = 1 * 6 := rfl
                have hb0c2 : b0 < wc.heap.size + 1 := by omega
                have hszw : w.heap.size ≤ wc.heap.size + 1 := by have := HBc.out.size; omega
                go_region_held3 (fun w' => w'.cell? ⟨b0, o0 + k * 6, none⟩ = some (.int .i64 x.c) ∧ w'.cell? ⟨b0, o0 + k * 6 + 1, none⟩ = some (.int .i64 x.t) ∧ w'.cell? ⟨b0, o0 + k * 6 + 2, none⟩ = some (.int .i64 x.k) ∧ w'.cell? ⟨b0, o0 + k * 6 + 3, none⟩ = some (.int .i64 x.y) ∧ w'.cell? ⟨b0, o0 + k * 6 + 4, none⟩ = some (.int .i64 x.v) ∧ w'.cell? ⟨b0, o0 + k * 6 + 5, none⟩ = some (.int .i64 x.s))
                  (first
                    | go_keep
                    | (go_split_ands
                       refine ⟨?_, ?_, ?_, ?_, ?_, ?_⟩ <;> (first | exact (own_far hownb hg6 hb0 (by simpa using hszw)).trans (by assumption))))
                  (first
                    | ((refine step_append_lies _ (by rfl) _ _ _ (by rfl) w.heap.size 58 i0 _ 6 48 Tryz.underlying22 hi0 hz0 hz1 hz2 rfl (by omega) (.slice (some ⟨b1, 0, none⟩) j c1) j (xs.flatMap rq) (by rfl) hownb
                         ⟨wc.heap.size, 0, none⟩ 1 1 (rq x) (by rfl) hlen1 (od_news0 (od_ownx wc.drew x)) (rq_one x)
                         (by omega) (by unfold maxLen; omega) (by omega) (by simpa using hszw) (wc.heap.size + 1) (by simp) ?_; intro g6 cap6 w6 hown6 hg6 hat6 hlt6))
                    | fail)
                have HF1 : Hid (j + 1 = (Psp.insR xs x).length) := Lib.hid (by rw [Hin2.out, List.length_append, List.length_cons, List.length_take, List.length_drop, ← Hm.out]; omega)
                have HF2 : Hid (w6.ownsRow w.heap.size 58 6 (.slice (some ⟨g6, 0, none⟩) (j + 1) cap6) (j + 1) ((Psp.insR xs x).flatMap rq)) := Lib.hid (by
                  have e1 : xs.take j = xs := List.take_of_length_le (by rw [← Hm.out]; omega)
                  have e2 : xs.drop j = [] := List.drop_of_length_le (by rw [← Hm.out]; omega)
                  rw [Hin2.out, List.flatMap_append, List.flatMap_cons, e1, e2, List.flatMap_nil, List.append_nil]; exact hown6)
                have HF3 : Hid (Below w.heap.size w w6) := Lib.hid (((HBc.out.drew).alloc HBc.out.size _).grown hg6 (by simpa using hszw) (fun k hk => by injection hk with hk; subst hk; exact hb1))
                clear hown6 hg6 hat6 hlt6
                go_wp2_with fail
                go_roundw
                case rel => exact ⟨k + 1, Psp.insR xs x, _, _, _, rfl, by go_num, by omega, HF1.out, Lib.hid (by rw [Psp.ord_step Hx.out, Hxs.out]), HF2, HF3⟩
                case measure => first | (simp [intOf]; done) | (simp [intOf]; omega)
    · have d1 : decide ((k : Int) < (n : Int)) = false := by simp; omega
      have hkn : k = n := by omega
      have hlen := Hn.out
      have hfin : Psp.ordR l = xs := by rw [← Hxs.out, hkn, ← hlen, List.take_length]
      have Hfin := Lib.hid hfin
      clear hlen hfin
      go_wp2_with fail
      go_ret
      exact ⟨A1, c1, by rw [Hfin.out, ← Hm.out]; rfl, by rw [Hfin.out, ← Hm.out]; exact HO.out, HB.out⟩
end Go.Proofs.YtadpkjgjciodnaaGreat
