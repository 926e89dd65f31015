/- The walk of Table.Drop. -/
import Derived.Test.YtmbdailffhdonaaTab3
namespace Go.Proofs.Ytmbdailffhdonaa
open Go.RowKit
set_option linter.unusedVariables false

/-- Those that are left. -/
def keeps (c tm : Int) (t : Psp.Told) : Bool := decide (t.r.c ≠ c) || decide (t.r.t > tm)
def dropOf (c tm : Int) (l : List Psp.Told) : List Psp.Told := l.filter (keeps c tm)
theorem dropOf_len (c tm : Int) (l : List Psp.Told) : (dropOf c tm l).length ≤ l.length := List.length_filter_le _ _

set_option maxRecDepth 100000 in
set_option maxHeartbeats 4000000 in
theorem drop_tab (cc tm : Int) (S : Nat → Prop) (g : Nat) (f cl : Int) (l : List Psp.Told) (w : World) (hT : Tab w S g f cl l) :
    Calls Try.prog 16 #[.pointer (some ⟨g, 0, none⟩), .int .i64 cc, .int .i64 tm] w fun e w' => e = .returned (.int .i64 (l.length - (dropOf cc tm l).length : Nat)) ∧ Tab w' (fun k => S k ∨ (w.heap.size ≤ k ∧ k < w'.heap.size)) g f cl (dropOf cc tm l) ∧ Fp S w w' := by
  have HT := Lib.hid hT
  have hglt := hT.lt g hT.own
  obtain ⟨A, c, hc1, hc2, hc0, hcl, hcv, hrow⟩ := hT.cells
  have hlen := hT.len
  obtain ⟨n, hn⟩ : ∃ n, l.length = n := ⟨_, rfl⟩
  rw [hn] at hc1 hcv hrow hlen ⊢
  have Hn := Lib.hid hn
  have Hrow := Lib.hid hrow
  have hst : w.ownsRow w.heap.size 68 21 (.slice none 0 0) (dropOf cc tm (l.take 0)).length ((dropOf cc tm (l.take 0)).flatMap tc) := World.ownsRow_nil _ _ _ _
  have Hst := Lib.hid hst
  clear hrow hn hst hT
  go_enter Try.func16, Try.ntmps16
  go_wp2_with fail
  go_loopw [7, 16] (fun out i wr => ∃ k : Nat, i = .int .i64 (k : Int) ∧ k ≤ n ∧ wr.ownsRow w.heap.size 68 21 out (dropOf cc tm (l.take k)).length ((dropOf cc tm (l.take k)).flatMap tc) ∧ Below w.heap.size w wr) (fun _ i _ => n - (intOf i).toNat)
  case atStart => exact ⟨0, rfl, by omega, Hst.out, Below.refl _ _⟩
  case round =>
    obtain ⟨k, rfl, hk, hown, hbel⟩ := hrel
    have hsz := hbel.size
    by_cases hlt : k < n
    · obtain ⟨b, hAe, hb, hlies⟩ := Hrow.out (by omega)
      subst hAe
      have hkl : k < l.length := by have := Hn.out; omega
      have hst : dropOf cc tm (l.take (k + 1)) = dropOf cc tm (l.take k) ++ (if keeps cc tm l[k] = true then [l[k]] else []) := by
        unfold dropOf
        rw [List.take_succ_eq_append_getElem hkl, List.filter_append]
        congr 1
        cases h : keeps cc tm l[k] <;> simp [h]
      obtain ⟨t, ht⟩ : ∃ t, l[k] = t := ⟨_, rfl⟩
      have hrg := range_keep (told_range hlies hkl) (hbel.block b hb)
      rw [ht] at hrg hst
      have hol : (dropOf cc tm (l.take k)).length ≤ 1000000 := by have := dropOf_len cc tm (l.take k); rw [List.length_take] at this; omega
      have Hrg := Lib.hid hrg
      have Hst2 := Lib.hid hst
      have Hown := Lib.hid hown
      have Hbel := Lib.hid hbel
      clear hlies ht hrg hst hown hbel
      by_cases h1 : t.r.c = cc
      · have d1 : (t.r.c != cc) = false := by simpa using h1
        by_cases h2 : t.r.t > tm
        · have d2 : decide (tm < t.r.t) = true := decide_eq_true h2
          have e := Hst2.out
          rw [if_pos (by simp [keeps, h2])] at e
          have E := Lib.hid e
          clear e Hst2 h1
          go_wp2_with (first | (refine list_load rfl 68 (.tmp 18) rfl b (k * 21) rfl (tc t) _ ?_ Try.underlying68 rfl (told_size' t) ?_; exact Hrg.out) | (refine list_store_new rfl 68 (.tmp 9) (.tmp 19) rfl _ _ (tc t) rfl rfl (by rw [tc_len]; rfl) (told_size' t) (told_one t) ?_; intro w2 hb2 hr2 hs2; have hs3 : w.heap.size ≤ w2.heap.size := (by omega); clear hs2; have Hr2 := Lib.hid (told_req hr2); have Hr3 := Lib.hid hr2; have Hown2 := Lib.hid (own_below Hown.out hb2); have Hbel2 := Lib.hid (Hbel.out.trans (hb2.mono hsz)); have k0 := (told_req Hr3.out) 0 _ rfl; have k1 := (told_req Hr3.out) 1 _ rfl; simp only [iv, Nat.zero_add] at k0 k1; clear hb2 hr2) | (refine list_load rfl 68 (.tmp 9) rfl wr.heap.size 0 rfl (tc t) _ ?_ Try.underlying68 rfl (told_size' t) ?_; exact Hr3.out) | (refine list_build1 rfl _ (.tmp 33) rfl 68 (tc t) rfl Try.underlying62 (told_zero t) (by rw [tc_len]; omega) (by rw [tc_len]; omega) ?_) | (at_builtin; refine wpList_app1 toldE rfl _ _ rfl w.heap.size _ _ _ rfl Hown2.out (tc t).toArray rfl (tc_len t) (told_one t) (by omega) (by omega) (by omega) ?_; intro v' w' hown' hg' hbel' _))
          go_roundw
          case rel => exact ⟨k + 1, by go_num, by omega, by rw [E.out, List.length_append, List.flatMap_append]; simpa using hown', Hbel2.out.trans hbel'⟩
          case measure => simp [intOf]; omega
        · have d2 : decide (tm < t.r.t) = false := decide_eq_false h2
          have e := Hst2.out
          rw [if_neg (by simp [keeps, h1]; omega), List.append_nil] at e
          have E := Lib.hid e
          clear e Hst2 h1
          go_wp2_with (first | (refine list_load rfl 68 (.tmp 18) rfl b (k * 21) rfl (tc t) _ ?_ Try.underlying68 rfl (told_size' t) ?_; exact Hrg.out) | (refine list_store_new rfl 68 (.tmp 9) (.tmp 19) rfl _ _ (tc t) rfl rfl (by rw [tc_len]; rfl) (told_size' t) (told_one t) ?_; intro w2 hb2 hr2 hs2; have hs3 : w.heap.size ≤ w2.heap.size := (by omega); clear hs2; have Hr2 := Lib.hid (told_req hr2); have Hr3 := Lib.hid hr2; have Hown2 := Lib.hid (own_below Hown.out hb2); have Hbel2 := Lib.hid (Hbel.out.trans (hb2.mono hsz)); have k0 := (told_req Hr3.out) 0 _ rfl; have k1 := (told_req Hr3.out) 1 _ rfl; simp only [iv, Nat.zero_add] at k0 k1; clear hb2 hr2))
          go_roundw
          case rel => exact ⟨k + 1, by go_num, by omega, by rw [E.out]; exact Hown2.out, Hbel2.out⟩
          case measure => simp [intOf]; omega
      · have d1 : (t.r.c != cc) = true := by simpa using h1
        have e := Hst2.out
        rw [if_pos (by simp [keeps, h1])] at e
        have E := Lib.hid e
        clear e Hst2 h1
        go_wp2_with (first | (refine list_load rfl 68 (.tmp 18) rfl b (k * 21) rfl (tc t) _ ?_ Try.underlying68 rfl (told_size' t) ?_; exact Hrg.out) | (refine list_store_new rfl 68 (.tmp 9) (.tmp 19) rfl _ _ (tc t) rfl rfl (by rw [tc_len]; rfl) (told_size' t) (told_one t) ?_; intro w2 hb2 hr2 hs2; have hs3 : w.heap.size ≤ w2.heap.size := (by omega); clear hs2; have Hr2 := Lib.hid (told_req hr2); have Hr3 := Lib.hid hr2; have Hown2 := Lib.hid (own_below Hown.out hb2); have Hbel2 := Lib.hid (Hbel.out.trans (hb2.mono hsz)); have k0 := (told_req Hr3.out) 0 _ rfl; have k1 := (told_req Hr3.out) 1 _ rfl; simp only [iv, Nat.zero_add] at k0 k1; clear hb2 hr2) | (refine list_load rfl 68 (.tmp 9) rfl wr.heap.size 0 rfl (tc t) _ ?_ Try.underlying68 rfl (told_size' t) ?_; exact Hr3.out) | (refine list_build1 rfl _ (.tmp 33) rfl 68 (tc t) rfl Try.underlying62 (told_zero t) (by rw [tc_len]; omega) (by rw [tc_len]; omega) ?_) | (at_builtin; refine wpList_app1 toldE rfl _ _ rfl w.heap.size _ _ _ rfl Hown2.out (tc t).toArray rfl (tc_len t) (told_one t) (by omega) (by omega) (by omega) ?_; intro v' w' hown' hg' hbel' _))
        go_roundw
        case rel => exact ⟨k + 1, by go_num, by omega, by rw [E.out, List.length_append, List.flatMap_append]; simpa using hown', Hbel2.out.trans hbel'⟩
        case measure => simp [intOf]; omega
    · obtain rfl : k = n := by omega
      rw [List.take_of_length_le (by rw [Hn.out]; exact Nat.le_refl _)] at hown
      have hsz := hbel.size
      have hol := dropOf_len cc tm l
      rw [Hn.out] at hol
      obtain ⟨Ad, cd, rfl, hcd1, hcd2, hxx⟩ := own_slice hown
      have cv := (hbel.cell (p := ⟨g, 2, none⟩) hglt).trans hcv
      have Hown := Lib.hid hown
      have Hbel := Lib.hid hbel
      obtain ⟨m, hm⟩ : ∃ m, (dropOf cc tm l).length = m := ⟨_, rfl⟩
      rw [hm] at hol hcd1
      have Hm := Lib.hid hm
      have hfz : wr.frozen? ⟨g, 2, none⟩ = false := by
        obtain ⟨v, h1, _, _⟩ := HT.out.ex
        exact frozen_of_row wr g 2 _ _ ((hbel.block g hglt).trans h1)
      clear hxx hown hbel hm
      rw [Hm.out]
      go_wp2_with fail
      go_ret
      have hS0 := HT.out.own
      have hlt0 := HT.out.lt
      refine ⟨ret_int (by have e1 := Hm.out; omega), ⟨⟨.slice Ad m cd, ?_, ?_, ?_⟩, Or.inl hS0, ?_, ?_, ?_⟩, ?_⟩
      · obtain ⟨v, h1, _, _⟩ := HT.out.ex
        rw [heap_setCell_same wr g 2 _ _ _ ((Hbel.out.block g hglt).trans h1)]
        rfl
      · rw [Hm.out]
        have h5 := Hown.out
        rw [Hm.out] at h5
        have h6 : (wr.setCell ⟨g, 2, none⟩ (.slice Ad m cd)).ownsRow w.heap.size 68 21 (.slice Ad m cd) m ((dropOf cc tm l).flatMap tc) := by
          refine ⟨h5.1, ?_⟩
          rcases h5.2 with hn | ⟨b, cap, cur, e1, hb, hh, r⟩
          · exact .inl hn
          · exact .inr ⟨b, cap, cur, e1, hb, (Below.heap_setCell wr ⟨g, 2, none⟩ _ b (by show b ≠ g; omega)).trans hh, r⟩
        exact own_more h6 (Nat.zero_le _)
      · intro j hj
        have h5 := Hown.out
        rw [Hm.out] at h5
        have := h5.lt j hj
        exact Or.inr ⟨this.1, by simpa [World.setCell] using this.2⟩
      · intro j hj
        rcases hj with hj | hj
        · have := hlt0 j hj
          simp [World.setCell]; omega
        · exact hj.2
      · intro t ht
        exact HT.out.who t (List.mem_filter.1 ht).1
      · rw [Hm.out]; omega
      · exact (Fp.of_below Hbel.out S).setCell (p := ⟨g, 2, none⟩) (Or.inl hS0) _
end Go.Proofs.Ytmbdailffhdonaa
