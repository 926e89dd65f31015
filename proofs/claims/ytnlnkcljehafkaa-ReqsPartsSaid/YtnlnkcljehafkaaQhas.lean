/- reqs.Has, reqs.Same; the reference's Same. Printed by gen_qhas.py (the first theorem out of XPe). -/
import Derived.Test.YtnlnkcljehafkaaQord
import Derived.Test.YtnlnkcljehafkaaPe
import Derived.Test.YtnlnkcljehafkaaRhas
namespace Go.Proofs.Ytnlnkcljehafkaa
open Go.RowKit
set_option linter.unusedVariables false

set_option maxRecDepth 100000 in
set_option maxHeartbeats 1000000 in
theorem rsame_any (x y : Value) (n m : Nat) (l r : List Psp.Req) (w : World) (P Q : Nat → Prop) (hx : RdP w P 6 x n (l.flatMap rq)) (hy : RdP w Q 6 y m (r.flatMap rq)) (hn : l.length = n) (hm : r.length = m) :
    Calls Try.prog 12 #[x, y] w fun e w' => e = .returned (.bool (decide (l = r))) ∧ ∃ k, w' = w.drewN k := by
  obtain ⟨hxl, A, c, rfl, hx1, hx2, hxc⟩ := hx.parts
  obtain ⟨hyl, A2, d, rfl, hy1, hy2, hyc⟩ := hy.parts
  have Hxc := Lib.hid hxc
  have Hyc := Lib.hid hyc
  have Hn := Lib.hid hn
  have Hm := Lib.hid hm
  by_cases hnm : n = m
  · subst hnm
    clear hxl hyl hxc hyc hn hm hx hy
    go_enter Try.func12, Try.ntmps12
    go_wp2_with fail
    go_loopw [5] (fun i wr => ∃ k : Nat, i = .int .i64 (k : Int) ∧ k ≤ n ∧ Hid (l.take k = r.take k) ∧ ∃ q, wr = w.drewN q) (fun i _ => n - (intOf i).toNat)
    case atStart => exact ⟨0, rfl, Nat.zero_le _, Lib.hid (by simp), 0, rfl⟩
    case round =>
      obtain ⟨k, rfl, hk, Heq, q, rfl⟩ := hrel
      by_cases hlt : k < n
      · obtain ⟨b1, o1, hA1, hP1, hb1, h1⟩ := Hxc.out (by omega)
        obtain ⟨b2, o2, hA2, hP2, hb2, h2⟩ := Hyc.out (by omega)
        subst hA1 hA2
        have hkl : k < l.length := by have := Hn.out; omega
        have hkr : k < r.length := by have := Hm.out; omega
        have r1 := range_elem (f := rq) (k := 6) (fun _ => rfl) h1 hkl
        have r2 := range_elem (f := rq) (k := 6) (fun _ => rfl) h2 hkr
        have hnx := fun e => take_eq hkl hkr Heq.out e
        obtain ⟨t1, ht1⟩ : ∃ r, l[k] = r := ⟨_, rfl⟩
        obtain ⟨t2, ht2⟩ : ∃ t, r[k] = t := ⟨_, rfl⟩
        have hne : t1 ≠ t2 → l ≠ r := fun hne e => by subst e; exact hne (ht1.symm.trans ht2)
        rw [ht1] at r1
        rw [ht2] at r2
        rw [ht1, ht2] at hnx
        have HQ1 : Hid (∀ w' : World, (∃ n, w' = (w.drewN q).drewN n) → w'.rangeAt b1 (o1 + k * 6) (rq t1)) := Lib.hid (by rintro w' ⟨n, rfl⟩; exact r1)
        have HQ2 : Hid (∀ w' : World, (∃ n, w' = (w.drewN q).drewN n) → w'.rangeAt b2 (o2 + k * 6) (rq t2)) := Lib.hid (by rintro w' ⟨n, rfl⟩; exact r2)
        have Hnx := Lib.hid hnx
        have Hne := Lib.hid hne
        clear r1 r2 ht1 ht2 h1 h2 hkl hkr hnx hne
        by_cases he : t1 = t2
        · have He := Lib.hid he
          clear he
          go_wp2_with fail
          refine wp_region_quiet_lit (by kernel_rfl) (by kernel_rfl) ?_
          repeat (first | (refine quiet_load rfl 26 (.tmp 19) rfl b1 (o1 + k * 6) rfl (rq t1) _ HQ1.out Try.underlying26 rfl sizeR ?_; intro K hK; go_simp; refine hK _ ?_; clear hK K) | (refine quiet_load rfl 26 (.tmp 23) rfl b2 (o2 + k * 6) rfl (rq t2) _ HQ2.out Try.underlying26 rfl sizeR ?_; intro K hK; go_simp; refine hK _ ?_; clear hK K) | (refine quiet_val rfl (.bool false) (fun w hC => (exec_neq_req (.tmp 20) (.tmp 24) _ rfl t1 t2 rfl rfl).trans (by simp [He.out])) ?_; intro K hK; go_simp; refine hK _ ?_; clear hK K) | go_big_quiet_step (fail))
          refine wpQuiet_nil ?_
          intro _ hw'
          obtain ⟨nq, hw''⟩ := hw'
          subst hw''
          go_wp2_with fail
          go_roundw
          case rel => exact ⟨k + 1, by go_num, by omega, Lib.hid (Hnx.out He.out), _, rfl⟩
          case measure => simp [intOf]; omega
        · have He := Lib.hid he
          clear he
          go_wp2_with fail
          refine wp_region_quiet_lit (by kernel_rfl) (by kernel_rfl) ?_
          repeat (first | (refine quiet_load rfl 26 (.tmp 19) rfl b1 (o1 + k * 6) rfl (rq t1) _ HQ1.out Try.underlying26 rfl sizeR ?_; intro K hK; go_simp; refine hK _ ?_; clear hK K) | (refine quiet_load rfl 26 (.tmp 23) rfl b2 (o2 + k * 6) rfl (rq t2) _ HQ2.out Try.underlying26 rfl sizeR ?_; intro K hK; go_simp; refine hK _ ?_; clear hK K) | (refine quiet_val rfl (.bool true) (fun w hC => (exec_neq_req (.tmp 20) (.tmp 24) _ rfl t1 t2 rfl rfl).trans (by simp [He.out])) ?_; intro K hK; go_simp; refine hK _ ?_; clear hK K) | go_big_quiet_step (fail))
          refine wpQuiet_nil ?_
          intro _ hw'
          obtain ⟨nq, hw''⟩ := hw'
          subst hw''
          go_wp2_with fail
          go_ret
          exact ⟨ret_bool (decide_eq_false (Hne.out He.out)).symm, _, World.drewN_drewN _ _ _⟩
      · go_wp2_with fail
        go_ret
        refine ⟨ret_bool (decide_eq_true ?_).symm, _, rfl⟩
        have h1 := Heq.out
        rwa [List.take_of_length_le (by rw [Hn.out]; omega), List.take_of_length_le (by rw [Hm.out]; omega)] at h1
  · have hne : ((n : Int) != (m : Int)) = true := by simp; omega
    have hf := Lib.hid (show decide (l = r) = false from decide_eq_false (fun h => by subst h; omega))
    clear hxl hyl hxc hyc hn hm hx hy
    go_enter Try.func12, Try.ntmps12
    go_wp2_with fail
    go_ret
    exact ⟨ret_bool hf.out.symm, 0, rfl⟩

set_option maxRecDepth 100000 in
set_option maxHeartbeats 1000000 in
theorem qsame_any (x y : Value) (n m : Nat) (l r : List Psp.Req) (w : World) (P Q : Nat → Prop) (hx : RdP w P 6 x n (l.flatMap rq)) (hy : RdP w Q 6 y m (r.flatMap rq)) (hn : l.length = n) (hm : r.length = m) :
    Calls Try.prog 11 #[x, y] w fun e w' => e = .returned (.bool (decide (l = r))) ∧ Below w.heap.size w w' := by
  obtain ⟨hxl, A, c, rfl, hx1, hx2, hxc⟩ := hx.parts
  obtain ⟨hyl, A2, d, rfl, hy1, hy2, hyc⟩ := hy.parts
  have Hxc := Lib.hid hxc
  have Hyc := Lib.hid hyc
  have Hn := Lib.hid hn
  have Hm := Lib.hid hm
  by_cases hnm : n = m
  · subst hnm
    clear hxl hyl hxc hyc hn hm hx hy
    go_enter Try.func11, Try.ntmps11
    go_wp2_with fail
    go_loopw [14] (fun i wr => ∃ k : Nat, i = .int .i64 (k : Int) ∧ k ≤ n ∧ Hid (l.take k = r.take k) ∧ Hid (Below w.heap.size w wr)) (fun i _ => n - (intOf i).toNat)
    case atStart => exact ⟨0, rfl, Nat.zero_le _, Lib.hid (by simp), Lib.hid (Below.refl _ _)⟩
    case round =>
      obtain ⟨k, rfl, hk, Heq, HB⟩ := hrel
      by_cases hlt : k < n
      · obtain ⟨b1, o1, hA1, hP1, hb1, h1⟩ := Hxc.out (by omega)
        obtain ⟨b2, o2, hA2, hP2, hb2, h2⟩ := Hyc.out (by omega)
        subst hA1 hA2
        have hkl : k < l.length := by have := Hn.out; omega
        have hkr : k < r.length := by have := Hm.out; omega
        have r1 := range_elem (f := rq) (k := 6) (fun _ => rfl) h1 hkl
        have r2 := range_elem (f := rq) (k := 6) (fun _ => rfl) h2 hkr
        have hnx := fun e => take_eq hkl hkr Heq.out e
        obtain ⟨t1, ht1⟩ : ∃ r, l[k] = r := ⟨_, rfl⟩
        obtain ⟨t2, ht2⟩ : ∃ t, r[k] = t := ⟨_, rfl⟩
        have hne : t1 ≠ t2 → l ≠ r := fun hne e => by subst e; exact hne (ht1.symm.trans ht2)
        rw [ht1] at r1
        rw [ht2] at r2
        rw [ht1, ht2] at hnx
        have HQ0 := Lib.hid (range_keep r1 (HB.out.block b1 hb1))
        have HR2 := Lib.hid (range_keep r2 (HB.out.block b2 hb2))
        have Hnx := Lib.hid hnx
        have Hne := Lib.hid hne
        have hb2' : b2 < wr.heap.size := Nat.lt_of_lt_of_le hb2 HB.out.size
        clear r1 r2 ht1 ht2 h1 h2 hkl hkr hnx hne
        go_wp2_with (first | (refine list_load rfl 26 (.tmp 17) rfl b1 (o1 + k * 6) rfl (rq t1) _ HQ0.out Try.underlying26 rfl sizeR ?_) | (refine list_store_new rfl 26 (.tmp 6) (.tmp 18) rfl _ _ (rq t1) rfl rfl rfl sizeR (rq_one t1) ?_; intro w1 hb1 hr1 hs1))
        try go_frame
        have HB1 := Lib.hid (Below.then HB.out hb1 HB.out.size)
        have HQ1 : Hid (∀ w' : World, (∃ n, w' = w1.drewN n) → w'.rangeAt wr.heap.size 0 (rq t1)) := Lib.hid (by rintro w' ⟨n, rfl⟩; exact hr1)
        have hr2 := range_keep HR2.out (hb1.block b2 hb2')
        have HQ2 : Hid (∀ w' : World, (∃ n, w' = w1.drewN n) → w'.rangeAt b2 (o2 + k * 6) (rq t2)) := Lib.hid (by rintro w' ⟨n, rfl⟩; exact hr2)
        clear hb1 hr1 hs1 hr2 HQ0 HR2
        by_cases he : t1 = t2
        · have He := Lib.hid he
          clear he
          refine wp_region_quiet_lit (by kernel_rfl) (by kernel_rfl) ?_
          repeat (first | (refine quiet_load rfl 26 (.tmp 6) rfl wr.heap.size 0 rfl (rq t1) _ HQ1.out Try.underlying26 rfl sizeR ?_; intro K hK; go_simp; refine hK _ ?_; clear hK K) | (refine quiet_load rfl 26 (.tmp 22) rfl b2 (o2 + k * 6) rfl (rq t2) _ HQ2.out Try.underlying26 rfl sizeR ?_; intro K hK; go_simp; refine hK _ ?_; clear hK K) | (refine quiet_val rfl (.bool false) (fun w hC => (exec_neq_req (.tmp 19) (.tmp 23) _ rfl t1 t2 rfl rfl).trans (by simp [He.out])) ?_; intro K hK; go_simp; refine hK _ ?_; clear hK K) | go_big_quiet_step (fail))
          refine wpQuiet_nil ?_
          intro _ hw'
          obtain ⟨nq, hw''⟩ := hw'
          subst hw''
          go_wp2_with fail
          go_roundw
          case rel => exact ⟨k + 1, by go_num, by omega, Lib.hid (Hnx.out He.out), Lib.hid (below_drewN HB1.out _)⟩
          case measure => simp [intOf]; omega
        · have He := Lib.hid he
          clear he
          refine wp_region_quiet_lit (by kernel_rfl) (by kernel_rfl) ?_
          repeat (first | (refine quiet_load rfl 26 (.tmp 6) rfl wr.heap.size 0 rfl (rq t1) _ HQ1.out Try.underlying26 rfl sizeR ?_; intro K hK; go_simp; refine hK _ ?_; clear hK K) | (refine quiet_load rfl 26 (.tmp 22) rfl b2 (o2 + k * 6) rfl (rq t2) _ HQ2.out Try.underlying26 rfl sizeR ?_; intro K hK; go_simp; refine hK _ ?_; clear hK K) | (refine quiet_val rfl (.bool true) (fun w hC => (exec_neq_req (.tmp 19) (.tmp 23) _ rfl t1 t2 rfl rfl).trans (by simp [He.out])) ?_; intro K hK; go_simp; refine hK _ ?_; clear hK K) | go_big_quiet_step (fail))
          refine wpQuiet_nil ?_
          intro _ hw'
          obtain ⟨nq, hw''⟩ := hw'
          subst hw''
          go_wp2_with fail
          go_ret
          exact ⟨ret_bool (decide_eq_false (Hne.out He.out)).symm, below_drewN HB1.out _⟩
      · go_wp2_with fail
        go_ret
        refine ⟨ret_bool (decide_eq_true ?_).symm, HB.out⟩
        have h1 := Heq.out
        rwa [List.take_of_length_le (by rw [Hn.out]; omega), List.take_of_length_le (by rw [Hm.out]; omega)] at h1
  · have hne : ((n : Int) != (m : Int)) = true := by simp; omega
    have hf := Lib.hid (show decide (l = r) = false from decide_eq_false (fun h => by subst h; omega))
    clear hxl hyl hxc hyc hn hm hx hy
    go_enter Try.func11, Try.ntmps11
    go_wp2_with fail
    go_ret
    exact ⟨by rw [hf.out]; rfl, Below.refl _ _⟩

set_option maxRecDepth 100000 in
set_option maxHeartbeats 4000000 in
theorem qhas_any (l : List Psp.Req) (n : Nat) (v : Value) (r : Psp.Req) (w : World) (P : Nat → Prop) (hx : RdP w P 6 v n (l.flatMap rq)) (hn : l.length = n) :
    Calls Try.prog 13 #[v, .agg (rq r).toArray] w fun e w' => e = .returned (.bool (decide (r ∈ l))) ∧ Below w.heap.size w w' := by
  obtain ⟨_, A, c, rfl, hc1, hc2, _⟩ := hx.parts
  have HX := Lib.hid hx
  have Hn := Lib.hid hn
  have HB0 := Lib.hid (alloc_below w (.cells (rq r).toArray 26))
  have HC := Lib.hid (heap_alloc_new w (.cells (rq r).toArray 26))
  obtain ⟨W, hW⟩ : ∃ W, W = w.alloc (.cells (rq r).toArray 26) := ⟨_, rfl⟩
  have HW := Lib.hid hW
  rw [← hW] at HB0 HC
  have HWs : Hid (w.heap.size < W.heap.size) := Lib.hid (by rw [hW]; simp)
  clear hx hn hW
  go_enter Try.func13, Try.ntmps13
  go_wp2_with fail
  rw [show w.alloc (.cells (rq r).toArray 26) = W from HW.out.symm]
  go_loopw [9] (fun i wr => ∃ k : Nat, i = .int .i64 (k : Int) ∧ k ≤ n ∧ Hid (∀ (j : Nat) (x : Psp.Req), j < k → l[j]? = some x → x ≠ r) ∧ Hid (Below W.heap.size W wr)) (fun i _ => n - (intOf i).toNat)
  case atStart => exact ⟨0, rfl, Nat.zero_le _, Lib.hid (fun j x hj => by omega), Lib.hid (Below.refl _ _)⟩
  case round =>
    obtain ⟨k, rfl, hk, H0, HB⟩ := hrel
    by_cases hlt : k < n
    · obtain ⟨b0, o0, c0, he, hb0, _, _, hel⟩ := ri_elem HX.out Hn.out (by omega)
      injection he with he1 _ he2
      subst he1 he2
      obtain ⟨x, hx⟩ : ∃ x, l[k]? = some x := ⟨l[k]'(by rw [Hn.out]; omega), List.getElem?_eq_getElem (by rw [Hn.out]; omega)⟩
      have HQ := Lib.hid (hel k x hx wr ((HB.out.block b0 (by have := HWs.out; omega)).trans (HB0.out.block b0 hb0)))
      have hrow := (HB.out.block w.heap.size HWs.out).trans HC.out
      have HRr : Hid (wr.rangeAt w.heap.size 0 (rq r)) := Lib.hid (by
        intro j u hu
        rw [Nat.zero_add]
        exact (cell_of_row wr w.heap.size j _ _ _ hrow).trans (by simpa using hu))
      have hlt2 : w.heap.size < wr.heap.size := (Array.getElem?_eq_some_iff.1 hrow).1
      have Hx := Lib.hid hx
      clear hx hel hrow
      by_cases hxr : x = r
      · have hm : r ∈ l := by
          obtain ⟨hj, he⟩ := List.getElem?_eq_some_iff.1 Hx.out
          rw [← hxr, ← he]; exact List.getElem_mem hj
        have Hm := Lib.hid hm
        have Hxr := Lib.hid hxr
        clear hm hxr
        go_wp2_with (first | (refine list_load rfl 26 (.tmp 11) rfl b0 (o0 + k * 6) rfl (rq x) _ HQ.out Try.underlying26 rfl sizeR ?_) | (refine list_store_new rfl 26 (.tmp 6) (.tmp 12) rfl _ _ (rq x) rfl rfl rfl sizeR (rq_one x) ?_; intro w1 hb1 hr1 hs1; have HB1 := Lib.hid (Below.then HB.out hb1 HB.out.size); have HR1 := Lib.hid hr1; have HR2 := Lib.hid (range_keep HRr.out (hb1.block w.heap.size hlt2)); clear hb1 hr1 hs1) | (refine list_load rfl 26 (.tmp 6) rfl wr.heap.size 0 rfl (rq x) _ HR1.out Try.underlying26 rfl sizeR ?_) | (refine list_load rfl 26 (.tmp 3) rfl w.heap.size 0 rfl (rq r) _ HR2.out Try.underlying26 rfl sizeR ?_) | (refine list_val rfl (.bool true) ((exec_eql_req (.tmp 13) (.tmp 14) _ rfl x r rfl rfl).trans (by simp [Hxr.out])) ?_))
        go_ret
        exact ⟨by rw [decide_eq_true Hm.out]; rfl, HB0.out.trans (HB1.out.mono HB0.out.size)⟩
      · have Hxr := Lib.hid hxr
        clear hxr
        go_wp2_with (first | (refine list_load rfl 26 (.tmp 11) rfl b0 (o0 + k * 6) rfl (rq x) _ HQ.out Try.underlying26 rfl sizeR ?_) | (refine list_store_new rfl 26 (.tmp 6) (.tmp 12) rfl _ _ (rq x) rfl rfl rfl sizeR (rq_one x) ?_; intro w1 hb1 hr1 hs1; have HB1 := Lib.hid (Below.then HB.out hb1 HB.out.size); have HR1 := Lib.hid hr1; have HR2 := Lib.hid (range_keep HRr.out (hb1.block w.heap.size hlt2)); clear hb1 hr1 hs1) | (refine list_load rfl 26 (.tmp 6) rfl wr.heap.size 0 rfl (rq x) _ HR1.out Try.underlying26 rfl sizeR ?_) | (refine list_load rfl 26 (.tmp 3) rfl w.heap.size 0 rfl (rq r) _ HR2.out Try.underlying26 rfl sizeR ?_) | (refine list_val rfl (.bool false) ((exec_eql_req (.tmp 13) (.tmp 14) _ rfl x r rfl rfl).trans (by simp [Hxr.out])) ?_))
        go_roundw
        case rel => exact ⟨k + 1, by go_num, by omega, Lib.hid (fun j y hj h1 => by
          by_cases hjk : j = k
          · subst hjk
            have e1 := h1.symm.trans Hx.out
            injection e1 with e1
            rw [e1]; exact Hxr.out
          · exact H0.out j y (by omega) h1), HB1⟩
        case measure => simp [intOf]; omega
    · go_wp2_with fail
      go_ret
      have hm : r ∉ l := fun hm => by
        obtain ⟨j, hj, e⟩ := List.mem_iff_getElem.1 hm
        exact H0.out j r (by rw [Hn.out] at hj; omega) (by rw [List.getElem?_eq_getElem hj, e]) rfl
      exact ⟨by rw [decide_eq_false hm]; rfl, HB0.out.trans (HB.out.mono HB0.out.size)⟩
end Go.Proofs.Ytnlnkcljehafkaa
