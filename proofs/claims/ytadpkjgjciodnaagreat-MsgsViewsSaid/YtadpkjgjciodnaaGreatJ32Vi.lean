/- The reference: Right; reqs.Batch. reqs.Batch. Printed by gen_batch.py. -/
import Derived.Test.YtadpkjgjciodnaaGreatJ29Vi
import Derived.Test.YtadpkjgjciodnaaGreatJ28Vi
section
namespace Go.Proofs.YtadpkjgjciodnaaGreat
open Go.RowKit
set_option linter.unusedVariables false

/-- Is a request right, and its client's? -/
def sealedRB (cl : Int) (K : List Key) (r : Psp.Req) : Bool := Psp.valid r cl && (Psp.okR (bare r) && (decide (kR r ∈ K) && decide (num K (kR r) = r.s)))
/-- Which requests may be a batch. -/
def rightB (most cl : Int) (K : List Key) (l : List Psp.Req) : Bool := decide ((l.length : Int) ≤ most) && (Psp.rises l && l.all (sealedRB cl K))
theorem right_long {most cl : Int} {K : List Key} {l : List Psp.Req} (h : most < (l.length : Int)) : rightB most cl K l = false := by
  unfold rightB; rw [decide_eq_false (by omega)]; rfl
theorem right_rise {most cl : Int} {K : List Key} {l : List Psp.Req} (h : Psp.rises l = false) : rightB most cl K l = false := by
  unfold rightB; rw [h, Bool.false_and, Bool.and_false]
theorem right_seal {most cl : Int} {K : List Key} {l : List Psp.Req} {k : Nat} {x : Psp.Req} (hx : l[k]? = some x) (h : sealedRB cl K x = false) : rightB most cl K l = false := by
  unfold rightB
  have : l.all (sealedRB cl K) = false := by
    obtain ⟨hk, he⟩ := List.getElem?_eq_some_iff.1 hx
    rw [List.all_eq_false]
    exact ⟨x, by rw [← he]; exact List.getElem_mem hk, by rw [h]; simp⟩
  rw [this, Bool.and_false, Bool.and_false]
theorem right_yes {most cl : Int} {K : List Key} {l : List Psp.Req} (h1 : (l.length : Int) ≤ most) (h2 : Psp.rises l = true) (h3 : ∀ (j : Nat) (x : Psp.Req), l[j]? = some x → sealedRB cl K x = true) : rightB most cl K l = true := by
  unfold rightB
  have : l.all (sealedRB cl K) = true := by
    rw [List.all_eq_true]; intro x hx
    obtain ⟨j, hj, e⟩ := List.mem_iff_getElem.1 hx
    exact h3 j x (by rw [List.getElem?_eq_getElem hj, e])
  rw [decide_eq_true h1, h2, this]; rfl

end Go.Proofs.YtadpkjgjciodnaaGreat
end
section
namespace Go.Proofs.YtadpkjgjciodnaaGreat
open Go.RowKit
set_option linter.unusedVariables false

set_option maxRecDepth 100000 in
set_option maxHeartbeats 8000000 in
theorem batch_any (l : List Psp.Req) (n : Nat) (v : Value) (most cl : Int) (g bm : Nat) (K : List Key) (w : World) (P : Nat → Prop) (hx : RdP w P 6 v n (l.flatMap rq)) (hn : l.length = n) (hN : Nt w g bm K) :
    Calls Tryz.prog 56 #[v, .int .i64 most, .int .i64 cl, .pointer (some ⟨g, 0, none⟩)] w fun e w' => e = .returned (.bool (rightB most cl K l)) ∧ Below w.heap.size w w' := by
  obtain ⟨_, A, c, rfl, hc1, hc2, _⟩ := hx.parts
  have HX := Lib.hid hx
  have Hn := Lib.hid hn
  have HN := Lib.hid hN
  clear hx hn hN
  by_cases hm : most < (n : Int)
  · have d0 : decide (most < (n : Int)) = true := decide_eq_true hm
    have Hr := Lib.hid (right_long (cl := cl) (K := K) (l := l) (most := most) (by rw [Hn.out]; exact hm))
    clear hm
    go_enter Tryz.func56, Tryz.ntmps56
    go_wp2_with fail
    go_ret
    exact ⟨by rw [Hr.out]; rfl, Below.refl _ _⟩
  · have d0 : decide (most < (n : Int)) = false := decide_eq_false hm
    have hm' : (n : Int) ≤ most := by omega
    have Hm := Lib.hid hm'
    clear hm hm'
    go_enter Tryz.func56, Tryz.ntmps56
    go_wp2_with fail
    go_loopw [17] (fun i wr => ∃ k : Nat, i = .int .i64 (k : Int) ∧ k ≤ n ∧ Hid (∀ (j : Nat) (x : Psp.Req), j < k → l[j]? = some x → sealedRB cl K x = true) ∧ Hid (∀ (j : Nat) (a b : Psp.Req), j + 1 < k → l[j]? = some a → l[j + 1]? = some b → Psp.cmpR a b < 0) ∧ Below w.heap.size w wr) (fun i _ => n - (intOf i).toNat)
    case atStart => exact ⟨0, rfl, Nat.zero_le _, Lib.hid (fun j x hj => by omega), Lib.hid (fun j a b hj => by omega), Below.refl _ _⟩
    case round =>
      obtain ⟨k, rfl, hk, H0, H1, hb⟩ := hrel
      have HB := Lib.hid hb
      clear hb
      by_cases hlt : k < n
      · have d1 : decide ((k : Int) < (n : Int)) = true := by simp; omega
        obtain ⟨b0, o0, c0, he, hb0, _, _, hel⟩ := ri_elem HX.out Hn.out (by omega)
        injection he with he1 _ he2
        subst he1 he2
        obtain ⟨x, hx⟩ : ∃ x, l[k]? = some x := ⟨l[k]'(by rw [Hn.out]; omega), List.getElem?_eq_getElem (by rw [Hn.out]; omega)⟩
        have HQ := Lib.hid (hel k x hx wr (HB.out.block b0 hb0))
        have Hx := Lib.hid hx
        have Hel := Lib.hid hel
        obtain ⟨sb, hsb⟩ : ∃ sb, sealedRB cl K x = sb := ⟨_, rfl⟩
        have Hsb := Lib.hid hsb
        clear hx hel hsb
        go_wp2_with (first | (refine list_load rfl 58 (.tmp 20) rfl b0 (o0 + k * 6) rfl (rq x) _ HQ.out Tryz.underlying58 rfl rst_sizeR ?_) | (refine list_store_new rfl 58 (.tmp 10) (.tmp 21) rfl _ _ (rq x) rfl rfl rfl rst_sizeR (rq_one x) ?_; intro w1 hb1 hr1 hs1))
        try go_frame
        have HB1 := Lib.hid (Below.then HB.out hb1 HB.out.size)
        have HQ0 : Hid (∀ w' : World, (∃ p : Later w1, w' = p.W) → w'.rangeAt wr.heap.size 0 (rq x)) := Lib.hid (by rintro w' ⟨p, rfl⟩; exact range_keep hr1 (p.h.block _ (by omega)))
        have HS : Hid (∀ p : Later w1, Calls Tryz.prog 102 #[.agg (rq x).toArray, .int .i64 cl, .pointer (some ⟨g, 0, none⟩)] p.W fun e w' => e = .returned (.bool sb) ∧ Below p.W.heap.size p.W w') := Lib.hid fun p => by rw [← Hsb.out]; exact sealed_any x cl g bm K p.W ((HN.out.below HB1.out).below p.h)
        clear hb1 hr1 hs1
        by_cases hk0 : k = 0
        · subst hk0
          have d2 : decide ((0 : Int) < ((0 : Nat) : Int)) = false := by simp
          cases sb
          · have Hr := Lib.hid (right_seal (most := most) Hx.out Hsb.out)
            refine wp_region_later (by kernel_rfl) (by kernel_rfl) ?_
            repeat (first | go_big_quiet_step (first | (go_at_call 102; exact later_call _ (HS.out _))) | (refine quiet_load (by simp [Region.wanted, yielded]) 58 (.tmp 10) (by rfl) wr.heap.size (0) (by rfl) (rq x) _ HQ0.out Tryz.underlying58 rfl rst_sizeR ?_; intro K hK; go_simp; refine hK _ ?_; clear hK K) | quiet_step (first | (go_at_call 102; exact later_call _ (HS.out _))))
            refine wpQuiet_nil ?_
            intro w2 hw'
            obtain ⟨⟨wq, hbq⟩, hw'⟩ := hw'
            have hb2 : Below w1.heap.size w1 w2 := by rw [hw']; exact hbq
            clear hw' hbq
            have HB2 := Lib.hid (Below.then HB1.out hb2 HB1.out.size)
            clear hb2
            go_wp2_with fail
            go_ret
            exact ⟨by rw [Hr.out]; rfl, HB2.out⟩
          · refine wp_region_later (by kernel_rfl) (by kernel_rfl) ?_
            repeat (first | go_big_quiet_step (first | (go_at_call 102; exact later_call _ (HS.out _))) | (refine quiet_load (by simp [Region.wanted, yielded]) 58 (.tmp 10) (by rfl) wr.heap.size (0) (by rfl) (rq x) _ HQ0.out Tryz.underlying58 rfl rst_sizeR ?_; intro K hK; go_simp; refine hK _ ?_; clear hK K) | quiet_step (first | (go_at_call 102; exact later_call _ (HS.out _))))
            refine wpQuiet_nil ?_
            intro w2 hw'
            obtain ⟨⟨wq, hbq⟩, hw'⟩ := hw'
            have hb2 : Below w1.heap.size w1 w2 := by rw [hw']; exact hbq
            clear hw' hbq
            have HB2 := Lib.hid (Below.then HB1.out hb2 HB1.out.size)
            clear hb2
            go_wp2_with fail
            go_roundw
            case rel => exact ⟨0 + 1, by go_num, by omega, Lib.hid (fun j y hj h1 => by
              by_cases hjk : j = 0
              · subst hjk
                have e1 := h1.symm.trans Hx.out
                injection e1 with e1
                subst e1
                exact Hsb.out
              · exact H0.out j y (by omega) h1), Lib.hid (fun j a b hj => by omega), HB2.out⟩
            case measure => simp [intOf]; omega
        · obtain ⟨p, rfl⟩ : ∃ p, k = p + 1 := ⟨k - 1, by omega⟩
          have d2 : decide ((0 : Int) < ((p + 1 : Nat) : Int)) = true := by rw [decide_eq_true_eq]; omega
          have z1 : ((p + 1 : Nat) : Int) - 1 = (p : Int) := by omega
          obtain ⟨xp, hxp⟩ : ∃ x, l[p]? = some x := ⟨l[p]'(by rw [Hn.out]; omega), List.getElem?_eq_getElem (by rw [Hn.out]; omega)⟩
          have Hxp := Lib.hid hxp
          have HQp : Hid (∀ w' : World, (∃ p : Later w1, w' = p.W) → w'.rangeAt b0 (o0 + p * 6) (rq xp)) := Lib.hid (by rintro w' ⟨q, rfl⟩; exact Hel.out p xp hxp _ ((q.h.block b0 (Nat.lt_of_lt_of_le hb0 HB1.out.size)).trans (HB1.out.block b0 hb0)))
          obtain ⟨cv, hcv⟩ : ∃ cv, Psp.cmpR xp x = cv := ⟨_, rfl⟩
          have Hcv := Lib.hid hcv
          have HC : Hid (∀ p : Later w1, Calls Tryz.prog 103 #[.agg (rq xp).toArray, .agg (rq x).toArray] p.W fun e w' => e = .returned (.int .i64 cv) ∧ Below p.W.heap.size p.W w') := Lib.hid fun p => by rw [← hcv]; exact compare_any xp x p.W
          clear hxp hcv hk0
          cases sb
          · have Hr := Lib.hid (right_seal (most := most) Hx.out Hsb.out)
            refine wp_region_later (by kernel_rfl) (by kernel_rfl) ?_
            repeat (first | go_big_quiet_step (first | (go_at_call 102; exact later_call _ (HS.out _)) | (go_at_call 103; exact later_call _ (HC.out _))) | (refine quiet_load (by simp [Region.wanted, yielded]) 58 (.tmp 10) (by rfl) wr.heap.size (0) (by rfl) (rq x) _ HQ0.out Tryz.underlying58 rfl rst_sizeR ?_; intro K hK; go_simp; refine hK _ ?_; clear hK K) | (refine quiet_load (by simp [Region.wanted, yielded]) 58 (.tmp 34) (by rfl) b0 (o0 + p * 6) (by rfl) (rq xp) _ HQp.out Tryz.underlying58 rfl rst_sizeR ?_; intro K hK; go_simp; refine hK _ ?_; clear hK K) | quiet_step (first | (go_at_call 102; exact later_call _ (HS.out _)) | (go_at_call 103; exact later_call _ (HC.out _))))
            refine wpQuiet_nil ?_
            intro w2 hw'
            obtain ⟨⟨wq, hbq⟩, hw'⟩ := hw'
            have hb2 : Below w1.heap.size w1 w2 := by rw [hw']; exact hbq
            clear hw' hbq
            have HB2 := Lib.hid (Below.then HB1.out hb2 HB1.out.size)
            clear hb2
            go_wp2_with fail
            go_ret
            exact ⟨by rw [Hr.out]; rfl, HB2.out⟩
          · by_cases hc : cv < 0
            · have d3 : decide (0 ≤ cv) = false := by simp; omega
              have Hc := Lib.hid hc
              clear hc
              refine wp_region_later (by kernel_rfl) (by kernel_rfl) ?_
              repeat (first | go_big_quiet_step (first | (go_at_call 102; exact later_call _ (HS.out _)) | (go_at_call 103; exact later_call _ (HC.out _))) | (refine quiet_load (by simp [Region.wanted, yielded]) 58 (.tmp 10) (by rfl) wr.heap.size (0) (by rfl) (rq x) _ HQ0.out Tryz.underlying58 rfl rst_sizeR ?_; intro K hK; go_simp; refine hK _ ?_; clear hK K) | (refine quiet_load (by simp [Region.wanted, yielded]) 58 (.tmp 34) (by rfl) b0 (o0 + p * 6) (by rfl) (rq xp) _ HQp.out Tryz.underlying58 rfl rst_sizeR ?_; intro K hK; go_simp; refine hK _ ?_; clear hK K) | quiet_step (first | (go_at_call 102; exact later_call _ (HS.out _)) | (go_at_call 103; exact later_call _ (HC.out _))))
              refine wpQuiet_nil ?_
              intro w2 hw'
              obtain ⟨⟨wq, hbq⟩, hw'⟩ := hw'
              have hb2 : Below w1.heap.size w1 w2 := by rw [hw']; exact hbq
              clear hw' hbq
              have HB2 := Lib.hid (Below.then HB1.out hb2 HB1.out.size)
              clear hb2
              go_wp2_with fail
              go_roundw
              case rel => exact ⟨(p + 1) + 1, by go_num, by omega, Lib.hid (fun j y hj h1 => by
                by_cases hjk : j = (p + 1)
                · subst hjk
                  have e1 := h1.symm.trans Hx.out
                  injection e1 with e1
                  subst e1
                  exact Hsb.out
                · exact H0.out j y (by omega) h1), Lib.hid (fun j a b hj h1 h2 => by
                  by_cases hjk : j = p
                  · subst hjk
                    have e1 := h1.symm.trans Hxp.out
                    have e2 := h2.symm.trans Hx.out
                    injection e1 with e1
                    injection e2 with e2
                    subst e1 e2
                    rw [Hcv.out]; exact Hc.out
                  · exact H1.out j a b (by omega) h1 h2), HB2.out⟩
              case measure => simp [intOf]; omega
            · have d3 : decide (0 ≤ cv) = true := by simp; omega
              have Hr := Lib.hid (right_rise (most := most) (cl := cl) (K := K) (Psp.rises_no Hxp.out Hx.out (by rw [Hcv.out]; omega)))
              clear hc
              refine wp_region_later (by kernel_rfl) (by kernel_rfl) ?_
              repeat (first | go_big_quiet_step (first | (go_at_call 102; exact later_call _ (HS.out _)) | (go_at_call 103; exact later_call _ (HC.out _))) | (refine quiet_load (by simp [Region.wanted, yielded]) 58 (.tmp 10) (by rfl) wr.heap.size (0) (by rfl) (rq x) _ HQ0.out Tryz.underlying58 rfl rst_sizeR ?_; intro K hK; go_simp; refine hK _ ?_; clear hK K) | (refine quiet_load (by simp [Region.wanted, yielded]) 58 (.tmp 34) (by rfl) b0 (o0 + p * 6) (by rfl) (rq xp) _ HQp.out Tryz.underlying58 rfl rst_sizeR ?_; intro K hK; go_simp; refine hK _ ?_; clear hK K) | quiet_step (first | (go_at_call 102; exact later_call _ (HS.out _)) | (go_at_call 103; exact later_call _ (HC.out _))))
              refine wpQuiet_nil ?_
              intro w2 hw'
              obtain ⟨⟨wq, hbq⟩, hw'⟩ := hw'
              have hb2 : Below w1.heap.size w1 w2 := by rw [hw']; exact hbq
              clear hw' hbq
              have HB2 := Lib.hid (Below.then HB1.out hb2 HB1.out.size)
              clear hb2
              go_wp2_with fail
              go_ret
              exact ⟨by rw [Hr.out]; rfl, HB2.out⟩
      · have d1 : decide ((k : Int) < (n : Int)) = false := by simp; omega
        go_wp2_with fail
        go_ret
        have hr := right_yes (most := most) (cl := cl) (K := K) (l := l) (by rw [Hn.out]; exact Hm.out) (Psp.rises_yes (fun j a b h1 h2 => by
          have := (List.getElem?_eq_some_iff.1 h2).1
          rw [Hn.out] at this
          exact H1.out j a b (by omega) h1 h2)) (fun j x h => by
          have := (List.getElem?_eq_some_iff.1 h).1
          rw [Hn.out] at this
          exact H0.out j x (by omega) h)
        exact ⟨by rw [hr]; rfl, HB.out⟩
end Go.Proofs.YtadpkjgjciodnaaGreat
end
