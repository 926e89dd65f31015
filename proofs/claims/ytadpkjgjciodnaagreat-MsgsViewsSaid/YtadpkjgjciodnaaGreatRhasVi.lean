/- The reference: Has; the order of requests, in plain words. -/
import Derived.Test.YtadpkjgjciodnaaGreatJ29Vi
namespace Psp
/-- Where a request goes: behind the last one that it is not below. -/
def posR (r : Req) (l : List Req) : Nat → Nat
  | 0 => 0
  | k + 1 => match l[k]? with
    | some x => if cmpR r x < 0 then posR r l k else k + 1
    | none => k + 1
def insR (l : List Req) (r : Req) : List Req := if r ∈ l then l else l.take (posR r l l.length) ++ (r :: l.drop (posR r l l.length))
def ordR (l : List Req) : List Req := l.foldl insR []
theorem posR_le (r : Req) (l : List Req) : ∀ k, posR r l k ≤ k
  | 0 => Nat.le_refl _
  | k + 1 => by
    unfold posR
    split
    · split
      · exact Nat.le_succ_of_le (posR_le r l k)
      · exact Nat.le_refl _
    · exact Nat.le_refl _
theorem posR_go {r x : Req} {l : List Req} {k : Nat} (hx : l[k]? = some x) (h : cmpR r x < 0) : posR r l (k + 1) = posR r l k := by
  rw [posR, hx]; simp only; rw [if_pos h]
theorem posR_stop {r x : Req} {l : List Req} {k : Nat} (hx : l[k]? = some x) (h : ¬ cmpR r x < 0) : posR r l (k + 1) = k + 1 := by
  rw [posR, hx]; simp only; rw [if_neg h]
theorem ord_step {l : List Req} {k : Nat} {x : Req} (hx : l[k]? = some x) : ordR (l.take (k + 1)) = insR (ordR (l.take k)) x := by
  obtain ⟨hk, he⟩ := List.getElem?_eq_some_iff.1 hx
  unfold ordR
  rw [List.take_add_one, hx]
  simp [List.foldl_append]
theorem ins_len (l : List Req) (r : Req) : (insR l r).length ≤ l.length + 1 := by
  unfold insR
  split
  · omega
  · have := posR_le r l l.length
    simp [List.length_append, List.length_take, List.length_drop]; omega
theorem ord_len : ∀ (l acc : List Req), (l.foldl insR acc).length ≤ acc.length + l.length
  | [], acc => Nat.le_refl _
  | r :: l, acc => by
    have h1 := ord_len l (insR acc r)
    have h2 := ins_len acc r
    simp only [List.foldl_cons, List.length_cons]
    omega
theorem ins_mem {l : List Req} {r x : Req} (h : x ∈ insR l r) : x = r ∨ x ∈ l := by
  unfold insR at h
  split at h
  · exact Or.inr h
  · rcases List.mem_append.1 h with h | h
    · exact Or.inr (List.mem_of_mem_take h)
    · rcases List.mem_cons.1 h with h | h
      · exact Or.inl h
      · exact Or.inr (List.mem_of_mem_drop h)
end Psp
namespace Go.Proofs.YtadpkjgjciodnaaGreat
open Go.RowKit
set_option linter.unusedVariables false

set_option maxRecDepth 100000 in
set_option maxHeartbeats 4000000 in
theorem rhas_any (l : List Psp.Req) (n : Nat) (v : Value) (r : Psp.Req) (w : World) (P : Nat → Prop) (hx : RdP w P 6 v n (l.flatMap rq)) (hn : l.length = n) :
    Calls Tryz.prog 118 #[v, .agg (rq r).toArray] w fun e w' => e = .returned (.bool (decide (r ∈ l))) ∧ Below w.heap.size w w' := by
  obtain ⟨_, A, c, rfl, hc1, hc2, _⟩ := hx.parts
  have HX := Lib.hid hx
  have Hn := Lib.hid hn
  have HB := Lib.hid (alloc_below w (.cells (rq r).toArray 58))
  have HC := Lib.hid (heap_alloc_new w (.cells (rq r).toArray 58))
  obtain ⟨W, hW⟩ : ∃ W, W = w.alloc (.cells (rq r).toArray 58) := ⟨_, rfl⟩
  have HW := Lib.hid hW
  rw [← hW] at HB HC
  clear hx hn hW
  go_enter Tryz.func118, Tryz.ntmps118
  go_wp2_with fail
  rw [show w.alloc (.cells (rq r).toArray 58) = W from HW.out.symm]
  go_loopw [5] (fun i wr => ∃ k : Nat, i = .int .i64 (k : Int) ∧ k ≤ n ∧ Hid (∀ (j : Nat) (x : Psp.Req), j < k → l[j]? = some x → x ≠ r) ∧ ∃ q, wr = W.drewN q) (fun i _ => n - (intOf i).toNat)
  case atStart => exact ⟨0, rfl, Nat.zero_le _, Lib.hid (fun j x hj => by omega), 0, rfl⟩
  case round =>
    obtain ⟨k, rfl, hk, H0, q, rfl⟩ := hrel
    by_cases hlt : k < n
    · obtain ⟨b0, o0, c0, he, hb0, _, _, hel⟩ := ri_elem HX.out Hn.out (by omega)
      injection he with he1 _ he2
      subst he1 he2
      obtain ⟨x, hx⟩ : ∃ x, l[k]? = some x := ⟨l[k]'(by rw [Hn.out]; omega), List.getElem?_eq_getElem (by rw [Hn.out]; omega)⟩
      have HQ1 : Hid (∀ w' : World, (∃ n, w' = (W.drewN q).drewN n) → w'.rangeAt b0 (o0 + k * 6) (rq x)) := Lib.hid (by rintro w' ⟨m, rfl⟩; exact hel k x hx _ (HB.out.block b0 hb0))
      have HQ2 : Hid (∀ w' : World, (∃ n, w' = (W.drewN q).drewN n) → w'.rangeAt w.heap.size 0 (rq r)) := Lib.hid (by
        rintro w' ⟨m, rfl⟩
        intro j u hu
        rw [Nat.zero_add]
        exact (cell_of_row W w.heap.size j _ _ _ HC.out).trans (by simpa using hu))
      have Hx := Lib.hid hx
      clear hx hel
      by_cases hxr : x = r
      · have Hxr := Lib.hid hxr
        clear hxr
        go_wp2_with fail
        refine wp_region_quiet_lit (by kernel_rfl) (by kernel_rfl) ?_
        repeat (first | (refine quiet_load rfl 58 (.tmp 14) rfl b0 (o0 + k * 6) rfl (rq x) _ HQ1.out Tryz.underlying58 rfl rst_sizeR ?_; intro K hK; go_simp; refine hK _ ?_; clear hK K) | (refine quiet_load rfl 58 (.tmp 3) rfl w.heap.size 0 rfl (rq r) _ HQ2.out Tryz.underlying58 rfl rst_sizeR ?_; intro K hK; go_simp; refine hK _ ?_; clear hK K) | (refine quiet_val rfl (.bool true) (fun w hC => (exec_eql_req (.tmp 15) (.tmp 16) _ rfl x r rfl rfl).trans (by simp [Hxr.out])) ?_; intro K hK; go_simp; refine hK _ ?_; clear hK K) | go_big_quiet_step (fail))
        refine wpQuiet_nil ?_
        intro _ hw'
        obtain ⟨nq, hw''⟩ := hw'
        subst hw''
        go_wp2_with fail
        go_ret
        have hm : r ∈ l := by
          obtain ⟨hj, he⟩ := List.getElem?_eq_some_iff.1 Hx.out
          rw [← Hxr.out, ← he]; exact List.getElem_mem hj
        exact ⟨by rw [decide_eq_true hm]; rfl, below_drewN (below_drewN HB.out _) _⟩
      · have Hxr := Lib.hid hxr
        clear hxr
        go_wp2_with fail
        refine wp_region_quiet_lit (by kernel_rfl) (by kernel_rfl) ?_
        repeat (first | (refine quiet_load rfl 58 (.tmp 14) rfl b0 (o0 + k * 6) rfl (rq x) _ HQ1.out Tryz.underlying58 rfl rst_sizeR ?_; intro K hK; go_simp; refine hK _ ?_; clear hK K) | (refine quiet_load rfl 58 (.tmp 3) rfl w.heap.size 0 rfl (rq r) _ HQ2.out Tryz.underlying58 rfl rst_sizeR ?_; intro K hK; go_simp; refine hK _ ?_; clear hK K) | (refine quiet_val rfl (.bool false) (fun w hC => (exec_eql_req (.tmp 15) (.tmp 16) _ rfl x r rfl rfl).trans (by simp [Hxr.out])) ?_; intro K hK; go_simp; refine hK _ ?_; clear hK K) | go_big_quiet_step (fail))
        refine wpQuiet_nil ?_
        intro _ hw'
        obtain ⟨nq, hw''⟩ := hw'
        subst hw''
        go_wp2_with fail
        go_roundw
        case rel => exact ⟨k + 1, by go_num, by omega, Lib.hid (fun j y hj h1 => by
          by_cases hjk : j = k
          · subst hjk
            have e1 := h1.symm.trans Hx.out
            injection e1 with e1
            rw [e1]; exact Hxr.out
          · exact H0.out j y (by omega) h1), _, rfl⟩
        case measure => simp [intOf]; omega
    · go_wp2_with fail
      go_ret
      have hm : r ∉ l := fun hm => by
        obtain ⟨j, hj, e⟩ := List.mem_iff_getElem.1 hm
        exact H0.out j r (by rw [Hn.out] at hj; omega) (by rw [List.getElem?_eq_getElem hj, e]) rfl
      exact ⟨by rw [decide_eq_false hm]; rfl, below_drewN HB.out _⟩
end Go.Proofs.YtadpkjgjciodnaaGreat
