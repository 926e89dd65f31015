/- The reference: Rises, Right; reqs.Batch. -/
import Derived.Test.YtadpkjgjciodnaaGreatJ28Ra
import Derived.Test.YtadpkjgjciodnaaGreatRsRa
namespace Psp
/-- In order, each once. -/
def rises : List Req → Bool
  | a :: b :: l => decide (cmpR a b < 0) && rises (b :: l)
  | _ => true
theorem rises_no : ∀ {l : List Req} {k : Nat} {a b : Req}, l[k]? = some a → l[k + 1]? = some b → 0 ≤ cmpR a b → rises l = false
  | [], k, a, b, h, _, _ => by simp at h
  | [x], 0, a, b, _, h, _ => by simp at h
  | [x], k + 1, a, b, h, _, _ => by simp at h
  | x :: y :: l, 0, a, b, h1, h2, h => by
    simp at h1 h2; subst h1 h2
    simp only [rises]; rw [decide_eq_false (by omega)]; rfl
  | x :: y :: l, k + 1, a, b, h1, h2, h => by
    simp only [rises]
    rw [rises_no (l := y :: l) (k := k) (by simpa using h1) (by simpa using h2) h, Bool.and_false]
theorem rises_yes : ∀ {l : List Req}, (∀ k a b, l[k]? = some a → l[k + 1]? = some b → cmpR a b < 0) → rises l = true
  | [], _ => rfl
  | [x], _ => rfl
  | x :: y :: l, h => by
    simp only [rises]
    rw [decide_eq_true (h 0 x y rfl rfl), rises_yes (l := y :: l) (fun k a b h1 h2 => h (k + 1) a b (by simpa using h1) (by simpa using h2))]
    rfl
end Psp
namespace Go.Proofs.YtadpkjgjciodnaaGreat
open Go.RowKit
set_option linter.unusedVariables false

theorem ri_range {α : Type} {f : α → List Value} {k : Nat} (hf : ∀ a, (f a).length = k) {w : World} {b o : Nat} {l : List α} (h : Lies w b o (l.flatMap f)) {i : Nat} (hi : i < l.length) : w.rangeAt b (o + i * k) (f l[i]) := by
  intro j v hv
  have hj : j < k := by have := (List.getElem?_eq_some_iff.1 hv).1; rwa [hf] at this
  have h1 := flat_get (f := f) (k := k) hf l i j hj
  rw [List.getElem?_eq_getElem hi] at h1
  rw [Nat.add_assoc]
  exact h _ v (by rw [h1]; exact hv)
theorem ri_elem {w : World} {P : Nat → Prop} {v : Value} {n : Nat} {l : List Psp.Req} (h : RdP w P 6 v n (l.flatMap rq)) (hl : l.length = n) (hn : 0 < n) : ∃ b o c, v = .slice (some ⟨b, o, none⟩) n c ∧ b < w.heap.size ∧ n ≤ c ∧ c ≤ 9223372036854775807 ∧ ∀ (k : Nat) (a : Psp.Req), l[k]? = some a → ∀ w' : World, w'.heap[b]? = w.heap[b]? → w'.rangeAt b (o + k * 6) (rq a) := by
  obtain ⟨_, A, c, rfl, h1, h2, h3⟩ := h.parts
  obtain ⟨b, o, rfl, _, hb, hx⟩ := h3 hn
  refine ⟨b, o, c, rfl, hb, h1, h2, fun k a ha w' hw => ?_⟩
  obtain ⟨hk, he⟩ := List.getElem?_eq_some_iff.1 ha
  have := ri_range (f := rq) (k := 6) (fun _ => rfl) hx hk
  rw [he] at this
  exact range_keep this hw

set_option maxRecDepth 100000 in
set_option maxHeartbeats 4000000 in
theorem rises_any (l : List Psp.Req) (n : Nat) (v : Value) (w : World) (P : Nat → Prop) (hx : RdP w P 6 v n (l.flatMap rq)) (hn : l.length = n) :
    Calls Tryz.prog 105 #[v] w fun e w' => e = .returned (.bool (Psp.rises l)) ∧ Below w.heap.size w w' := by
  obtain ⟨_, A, c, rfl, hc1, hc2, _⟩ := hx.parts
  have HX := Lib.hid hx
  have Hn := Lib.hid hn
  clear hx hn
  go_enter Tryz.func105, Tryz.ntmps105
  go_wp2_with fail
  go_loopw [3] (fun i wr => ∃ k : Nat, i = .int .i64 ((k : Int) + 1) ∧ (k < n ∨ k = 0) ∧ Hid (∀ j a b, j < k → l[j]? = some a → l[j + 1]? = some b → Psp.cmpR a b < 0) ∧ Below w.heap.size w wr) (fun i _ => n - (intOf i).toNat)
  case atStart => exact ⟨0, rfl, Or.inr rfl, Lib.hid (fun j a b hj => by omega), Below.refl _ _⟩
  case round =>
    obtain ⟨k, rfl, hk, H0, hb⟩ := hrel
    have HB := Lib.hid hb
    clear hb
    by_cases hlt : k + 1 < n
    · have d0 : decide ((k : Int) + 1 < (n : Int)) = true := by simp; omega
      obtain ⟨b0, o0, c0, he, hb0, _, _, hel⟩ := ri_elem HX.out Hn.out (by omega)
      injection he with he1 _ he2
      subst he1 he2
      obtain ⟨x, hx⟩ : ∃ x, l[k]? = some x := ⟨l[k]'(by rw [Hn.out]; omega), List.getElem?_eq_getElem (by rw [Hn.out]; omega)⟩
      obtain ⟨y, hy⟩ : ∃ y, l[k + 1]? = some y := ⟨l[k + 1]'(by rw [Hn.out]; omega), List.getElem?_eq_getElem (by rw [Hn.out]; omega)⟩
      have HQ1 : Hid (∀ w' : World, (∃ p : Later wr, w' = p.W) → w'.rangeAt b0 (o0 + k * 6) (rq x)) := Lib.hid (by rintro w' ⟨p, rfl⟩; exact hel k x hx _ ((p.h.block b0 (Nat.lt_of_lt_of_le hb0 HB.out.size)).trans (HB.out.block b0 hb0)))
      have HQ2 : Hid (∀ w' : World, (∃ p : Later wr, w' = p.W) → w'.rangeAt b0 (o0 + (k + 1) * 6) (rq y)) := Lib.hid (by rintro w' ⟨p, rfl⟩; exact hel (k + 1) y hy _ ((p.h.block b0 (Nat.lt_of_lt_of_le hb0 HB.out.size)).trans (HB.out.block b0 hb0)))
      have Hx := Lib.hid hx
      have Hy := Lib.hid hy
      obtain ⟨cv, hcv⟩ : ∃ cv, Psp.cmpR x y = cv := ⟨_, rfl⟩
      have HC : Hid (∀ p : Later wr, Calls Tryz.prog 119 #[.agg (rq x).toArray, .agg (rq y).toArray] p.W fun e w' => e = .returned (.int .i64 cv) ∧ Below p.W.heap.size p.W w') := Lib.hid fun p => by rw [← hcv]; exact rcompare_any x y p.W
      have Hcv := Lib.hid hcv
      clear hx hy hcv hel hk
      have z1 : (k : Int) + 1 - 1 = (k : Int) := by omega
      have z2 : ((k : Int) + 1).toNat = k + 1 := by omega
      by_cases hc : cv < 0
      · have d1 : decide (0 ≤ cv) = false := by simp; omega
        have Hc := Lib.hid hc
        clear hc
        go_wp2_with fail
        refine wp_region_later (by kernel_rfl) (by kernel_rfl) ?_
        repeat (first | (refine quiet_load rfl 58 (.tmp 13) rfl b0 (o0 + k * 6) rfl (rq x) _ HQ1.out Tryz.underlying58 rfl rst_sizeR ?_; intro K hK; go_simp; refine hK _ ?_; clear hK K) | (refine quiet_load rfl 58 (.tmp 17) rfl b0 (o0 + (k + 1) * 6) rfl (rq y) _ HQ2.out Tryz.underlying58 rfl rst_sizeR ?_; intro K hK; go_simp; refine hK _ ?_; clear hK K) | go_big_quiet_step (first | (go_at_call 119; exact later_call _ (HC.out _))) | quiet_step (first | (go_at_call 119; exact later_call _ (HC.out _))))
        refine wpQuiet_nil ?_
        intro w1 hw'
        obtain ⟨⟨wq, hbq⟩, hw'⟩ := hw'
        have hb1 : Below wr.heap.size wr w1 := by rw [hw']; exact hbq
        clear hw' hbq
        have HB1 := Lib.hid (Below.then HB.out hb1 HB.out.size)
        clear hb1
        go_wp2_with fail
        go_roundw
        case rel => exact ⟨k + 1, by go_num, Or.inl (by omega), Lib.hid (fun j a b hj h1 h2 => by
          by_cases hjk : j = k
          · subst hjk
            have e1 := h1.symm.trans Hx.out
            have e2 := h2.symm.trans Hy.out
            injection e1 with e1
            injection e2 with e2
            subst e1 e2
            rw [Hcv.out]; exact Hc.out
          · exact H0.out j a b (by omega) h1 h2), HB1.out⟩
        case measure => simp [intOf]; omega
      · have d1 : decide (0 ≤ cv) = true := by simp; omega
        have hr := Psp.rises_no Hx.out Hy.out (by rw [Hcv.out]; omega)
        have Hr := Lib.hid hr
        clear hc hr
        go_wp2_with fail
        refine wp_region_later (by kernel_rfl) (by kernel_rfl) ?_
        repeat (first | (refine quiet_load rfl 58 (.tmp 13) rfl b0 (o0 + k * 6) rfl (rq x) _ HQ1.out Tryz.underlying58 rfl rst_sizeR ?_; intro K hK; go_simp; refine hK _ ?_; clear hK K) | (refine quiet_load rfl 58 (.tmp 17) rfl b0 (o0 + (k + 1) * 6) rfl (rq y) _ HQ2.out Tryz.underlying58 rfl rst_sizeR ?_; intro K hK; go_simp; refine hK _ ?_; clear hK K) | go_big_quiet_step (first | (go_at_call 119; exact later_call _ (HC.out _))) | quiet_step (first | (go_at_call 119; exact later_call _ (HC.out _))))
        refine wpQuiet_nil ?_
        intro w1 hw'
        obtain ⟨⟨wq, hbq⟩, hw'⟩ := hw'
        have hb1 : Below wr.heap.size wr w1 := by rw [hw']; exact hbq
        clear hw' hbq
        have HB1 := Lib.hid (Below.then HB.out hb1 HB.out.size)
        clear hb1
        go_wp2_with fail
        go_ret
        exact ⟨by rw [Hr.out]; rfl, HB1.out⟩
    · have d0 : decide ((k : Int) + 1 < (n : Int)) = false := by simp; omega
      go_wp2_with fail
      go_ret
      have hr := Psp.rises_yes (l := l) (fun j a b h1 h2 => by
        have := (List.getElem?_eq_some_iff.1 h2).1
        rw [Hn.out] at this
        exact H0.out j a b (by omega) h1 h2)
      exact ⟨by rw [hr]; rfl, HB.out⟩
end Go.Proofs.YtadpkjgjciodnaaGreat
