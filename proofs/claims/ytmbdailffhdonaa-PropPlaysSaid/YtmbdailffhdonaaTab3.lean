/- The walks of Table.All, Ready, Drop. -/
import Derived.Test.YtmbdailffhdonaaTab2
namespace Go.Proofs.Ytmbdailffhdonaa
open Go.RowKit
set_option linter.unusedVariables false

theorem toldE : Elem Try.prog 62 68 21 72 := ⟨Try.underlying62, by kernel_rfl, by decide⟩
theorem told_size : (Try.prog.info? 68).map (·.size) = some 21 := by kernel_rfl
theorem told_one (t : Psp.Told) : ∀ v ∈ tc t, v.oneCell' = true := by
  intro v hv
  simp only [tc, rq, bools13, iv, List.mem_append, List.mem_map, List.mem_cons, List.not_mem_nil, or_false] at hv
  rcases hv with (rfl | rfl | rfl | rfl | rfl | rfl) | ⟨j, _, rfl⟩ | rfl | rfl <;> rfl
theorem told_zero (t : Psp.Told) : (Try.prog.info? 68).map (fun i => (i.zero.map (·.cells.size), i.size)) = some (some (tc t).length, (tc t).length) := by
  rw [tc_len]; kernel_rfl
theorem told_size' (t : Psp.Told) : (Try.prog.info? 68).map (·.size) = some (tc t).length := by rw [tc_len]; exact told_size

set_option maxRecDepth 100000 in
set_option maxHeartbeats 1000000 in
theorem all_tab (S : Nat → Prop) (g : Nat) (f cl : Int) (l : List Psp.Told) (w : World) (hT : Tab w S g f cl l) :
    Calls Try.prog 18 #[.pointer (some ⟨g, 0, none⟩)] w fun e w' => ∃ v, e = .returned v ∧ w'.ownsRow w.heap.size 25 6 v l.length ((l.map (·.r)).flatMap rq) ∧ Below w.heap.size w w' := by
  obtain ⟨A, c, hc1, hc2, hc0, hcl, hcv, hrow⟩ := hT.cells
  have hlen := hT.len
  obtain ⟨n, hn⟩ : ∃ n, l.length = n := ⟨_, rfl⟩
  rw [hn] at hc1 hcv hrow hlen ⊢
  have Hn := Lib.hid hn
  have Hrow := Lib.hid hrow
  have hst : w.ownsRow w.heap.size 25 6 (.slice none 0 0) 0 (((l.take 0).map (·.r)).flatMap rq) := World.ownsRow_nil _ _ _ _
  have Hst := Lib.hid hst
  clear hrow hn hst
  go_enter Try.func18, Try.ntmps18
  go_wp2_with fail
  go_loopw [3, 11] (fun out i wr => ∃ k : Nat, i = .int .i64 (k : Int) ∧ k ≤ n ∧ wr.ownsRow w.heap.size 25 6 out k (((l.take k).map (·.r)).flatMap rq) ∧ Below w.heap.size w wr) (fun _ i _ => n - (intOf i).toNat)
  case atStart => exact ⟨0, rfl, by omega, Hst.out, Below.refl _ _⟩
  case round =>
    obtain ⟨k, rfl, hk, hown, hbel⟩ := hrel
    have hsz := hbel.size
    by_cases hlt : k < n
    · obtain ⟨b, hAe, hb, hlies⟩ := Hrow.out (by omega)
      subst hAe
      have hkl : k < l.length := by have := Hn.out; omega
      have hst : ((l.take (k + 1)).map (·.r)).flatMap rq = ((l.take k).map (·.r)).flatMap rq ++ rq l[k].r := by
        rw [List.take_succ_eq_append_getElem hkl, List.map_append, List.flatMap_append]; simp
      obtain ⟨t, ht⟩ : ∃ t, l[k] = t := ⟨_, rfl⟩
      have hrg := range_keep (told_range hlies hkl) (hbel.block b hb)
      rw [ht] at hrg hst
      have Hrg := Lib.hid hrg
      have Hst2 := Lib.hid hst
      have Hown := Lib.hid hown
      have Hbel := Lib.hid hbel
      clear hlies ht hrg hst hown hbel
      go_wp2_with (first | (refine list_load rfl 68 (.tmp 13) rfl b (k * 21) rfl (tc t) _ ?_ Try.underlying68 rfl (told_size' t) ?_; exact Hrg.out) | (refine list_store_new rfl 68 (.tmp 5) (.tmp 14) rfl _ _ (tc t) rfl rfl (by rw [tc_len]; rfl) (told_size' t) (told_one t) ?_; intro w2 hb2 hr2 hs2; have hs3 : w.heap.size ≤ w2.heap.size := (by omega); clear hs2; have Hr2 := Lib.hid (told_req hr2); have Hr3 := Lib.hid hr2; have Hown2 := Lib.hid (own_below Hown.out hb2); have Hbel2 := Lib.hid (Hbel.out.trans (hb2.mono hsz)); clear hb2 hr2) | (refine list_load rfl 25 (.tmp 16) rfl wr.heap.size 0 rfl [.int .i64 t.r.c, .int .i64 t.r.t, .int .i64 t.r.k, .int .i64 t.r.y, .int .i64 t.r.v, .int .i64 t.r.s] _ ?_ Try.underlying25 rfl req_size ?_; exact Hr2.out) | (at_builtin; refine wpList_app1 reqE rfl _ _ rfl w.heap.size _ _ _ rfl Hown2.out _ rfl rfl (by simp [Value.oneCell']) (by omega) (by omega) (by omega) ?_; intro v' w' hown' hg' hbel' _))
      go_roundw
      case rel => exact ⟨k + 1, by go_num, by omega, by rw [Hst2.out]; exact hown', Hbel2.out.trans hbel'⟩
      case measure => simp [intOf]; omega
    · obtain rfl : k = n := by omega
      rw [List.take_of_length_le (by rw [Hn.out]; exact Nat.le_refl _)] at hown
      go_wp2_with fail
      go_ret
      exact ⟨_, rfl, hown, hbel⟩

/-- Those that are ready. -/
def readyOf (l : List Psp.Told) : List Psp.Req := (l.filter (·.ready)).map (·.r)
theorem readyOf_len (l : List Psp.Told) : (readyOf l).length ≤ l.length := by unfold readyOf; rw [List.length_map]; exact List.length_filter_le _ _

set_option maxRecDepth 100000 in
set_option maxHeartbeats 1000000 in
theorem ready_tab (S : Nat → Prop) (g : Nat) (f cl : Int) (l : List Psp.Told) (w : World) (hT : Tab w S g f cl l) :
    Calls Try.prog 19 #[.pointer (some ⟨g, 0, none⟩)] w fun e w' => ∃ v, e = .returned v ∧ w'.ownsRow w.heap.size 25 6 v (readyOf l).length ((readyOf l).flatMap rq) ∧ Below w.heap.size w w' := by
  obtain ⟨A, c, hc1, hc2, hc0, hcl, hcv, hrow⟩ := hT.cells
  have hlen := hT.len
  obtain ⟨n, hn⟩ : ∃ n, l.length = n := ⟨_, rfl⟩
  rw [hn] at hc1 hcv hrow hlen
  have Hn := Lib.hid hn
  have Hrow := Lib.hid hrow
  have hst : w.ownsRow w.heap.size 25 6 (.slice none 0 0) (readyOf (l.take 0)).length ((readyOf (l.take 0)).flatMap rq) := World.ownsRow_nil _ _ _ _
  have Hst := Lib.hid hst
  clear hrow hn hst
  go_enter Try.func19, Try.ntmps19
  go_wp2_with fail
  go_loopw [3, 11] (fun out i wr => ∃ k : Nat, i = .int .i64 (k : Int) ∧ k ≤ n ∧ wr.ownsRow w.heap.size 25 6 out (readyOf (l.take k)).length ((readyOf (l.take k)).flatMap rq) ∧ Below w.heap.size w wr) (fun _ i _ => n - (intOf i).toNat)
  case atStart => exact ⟨0, rfl, by omega, Hst.out, Below.refl _ _⟩
  case round =>
    obtain ⟨k, rfl, hk, hown, hbel⟩ := hrel
    have hsz := hbel.size
    by_cases hlt : k < n
    · obtain ⟨b, hAe, hb, hlies⟩ := Hrow.out (by omega)
      subst hAe
      have hkl : k < l.length := by have := Hn.out; omega
      have hst : readyOf (l.take (k + 1)) = readyOf (l.take k) ++ (if l[k].ready = true then [l[k].r] else []) := by
        unfold readyOf
        rw [List.take_succ_eq_append_getElem hkl, List.filter_append, List.map_append]
        congr 1
        cases h : l[k].ready <;> simp [h]
      obtain ⟨t, ht⟩ : ∃ t, l[k] = t := ⟨_, rfl⟩
      have hrg := range_keep (told_range hlies hkl) (hbel.block b hb)
      rw [ht] at hrg hst
      have hol : (readyOf (l.take k)).length ≤ 1000000 := by have := readyOf_len (l.take k); rw [List.length_take] at this; omega
      have Hrg := Lib.hid hrg
      have Hst2 := Lib.hid hst
      have Hown := Lib.hid hown
      have Hbel := Lib.hid hbel
      clear hlies ht hrg hst hown hbel
      cases hre : t.ready with
      | true =>
        have e := Hst2.out
        rw [hre, if_pos rfl] at e
        have E := Lib.hid e
        clear e Hst2
        go_wp2_with (first | (refine list_load rfl 68 (.tmp 13) rfl b (k * 21) rfl (tc t) _ ?_ Try.underlying68 rfl (told_size' t) ?_; exact Hrg.out) | (refine list_store_new rfl 68 (.tmp 5) (.tmp 14) rfl _ _ (tc t) rfl rfl (by rw [tc_len]; rfl) (told_size' t) (told_one t) ?_; intro w2 hb2 hr2 hs2; have hs3 : w.heap.size ≤ w2.heap.size := (by omega); clear hs2; have Hr2 := Lib.hid (told_req hr2); have Hr3 := Lib.hid hr2; have Hown2 := Lib.hid (own_below Hown.out hb2); have Hbel2 := Lib.hid (Hbel.out.trans (hb2.mono hsz)); have k19 := told_ready Hr3.out; rw [hre, Nat.zero_add] at k19; clear hb2 hr2) | (refine list_load rfl 25 (.tmp 18) rfl wr.heap.size 0 rfl [.int .i64 t.r.c, .int .i64 t.r.t, .int .i64 t.r.k, .int .i64 t.r.y, .int .i64 t.r.v, .int .i64 t.r.s] _ ?_ Try.underlying25 rfl req_size ?_; exact Hr2.out) | (at_builtin; refine wpList_app1 reqE rfl _ _ rfl w.heap.size _ _ _ rfl Hown2.out _ rfl rfl (by simp [Value.oneCell']) (by omega) (by omega) (by omega) ?_; intro v' w' hown' hg' hbel' _))
        go_roundw
        case rel => exact ⟨k + 1, by go_num, by omega, by rw [E.out, List.length_append, List.flatMap_append]; simpa [rq, iv] using hown', Hbel2.out.trans hbel'⟩
        case measure => simp [intOf]; omega
      | false =>
        have e := Hst2.out
        rw [hre, if_neg (by simp), List.append_nil] at e
        have E := Lib.hid e
        clear e Hst2
        go_wp2_with (first | (refine list_load rfl 68 (.tmp 13) rfl b (k * 21) rfl (tc t) _ ?_ Try.underlying68 rfl (told_size' t) ?_; exact Hrg.out) | (refine list_store_new rfl 68 (.tmp 5) (.tmp 14) rfl _ _ (tc t) rfl rfl (by rw [tc_len]; rfl) (told_size' t) (told_one t) ?_; intro w2 hb2 hr2 hs2; have hs3 : w.heap.size ≤ w2.heap.size := (by omega); clear hs2; have Hr2 := Lib.hid (told_req hr2); have Hr3 := Lib.hid hr2; have Hown2 := Lib.hid (own_below Hown.out hb2); have Hbel2 := Lib.hid (Hbel.out.trans (hb2.mono hsz)); have k19 := told_ready Hr3.out; rw [hre, Nat.zero_add] at k19; clear hb2 hr2))
        go_roundw
        case rel => exact ⟨k + 1, by go_num, by omega, by rw [E.out]; exact Hown2.out, Hbel2.out⟩
        case measure => simp [intOf]; omega
    · obtain rfl : k = n := by omega
      rw [List.take_of_length_le (by rw [Hn.out]; exact Nat.le_refl _)] at hown
      go_wp2_with fail
      go_ret
      exact ⟨_, rfl, hown, hbel⟩
end Go.Proofs.Ytmbdailffhdonaa
