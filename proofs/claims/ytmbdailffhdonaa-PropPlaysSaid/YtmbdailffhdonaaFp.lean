/- Footprints: a world that is as another one but for certain blocks and new ones. Sets of nodes that lie amid a block. Plain facts on worlds; the walks of ballot.Set amid a block. -/
import Derived.Test.YtmbdailffhdonaaSet
import Derived.Test.YtmbdailffhdonaaFoot
import Derived.Deep.MidRow
namespace Go.Proofs.Ytmbdailffhdonaa
open Go.RowKit
set_option linter.unusedVariables false

/-- The bools s lie amid block g, from o on. -/
def BoolsAt (w : World) (g o : Nat) (s : List Bool) : Prop := w.rangeAt g o (s.map Value.bool) ∧ ∀ j, j < s.length → w.frozen? ⟨g, o + j, none⟩ = false

theorem BoolsAt.cell {w : World} {g o : Nat} {s : List Bool} (h : BoolsAt w g o s) {j : Nat} (hj : j < s.length) : w.cell? ⟨g, o + j, none⟩ = some (.bool (s.getD j false)) :=
  h.1 j _ (by simp [List.getD_eq_getElem?_getD, List.getElem?_eq_getElem hj])

/-- What Put leaves. -/
def putW (w : World) (g o : Nat) (s : List Bool) (n : Int) : World := if Psp.putB s n = true then w.setCell ⟨g, o + n.toNat, none⟩ (.bool true) else w

theorem set_put_at (s : List Bool) (n : Int) (g o : Nat) (w : World) (hn1 : -9223372036854775808 ≤ n) (hn2 : n ≤ 9223372036854775807) (hs : s.length = 13) (hb : BoolsAt w g o s) :
    Calls Try.prog 27 #[.pointer (some ⟨g, o, none⟩), .int .i64 n] w fun e w' => e = .returned (.bool (Psp.putB s n)) ∧ putW w g o s n = w' := by
  by_cases h0 : n < 0
  · have e1 : Psp.putB s n = false := by simp [Psp.putB, show ¬ 0 ≤ n by omega]
    have e2 : putW w g o s n = w := by simp [putW, e1]
    rw [e1, e2]
    go_enter Try.func27, Try.ntmps27
    go_wp2_with fail
    go_ret
    exact ⟨rfl, rfl⟩
  by_cases h1 : n ≤ 12
  · have hc := hb.cell (j := n.toNat) (by omega)
    have hf := hb.2 n.toNat (by omega)
    obtain ⟨j, hj⟩ : ∃ j, n.toNat = j := ⟨_, rfl⟩
    rw [hj] at hc hf
    have hj2 : j < 13 := by omega
    cases hx : s.getD j false with
    | true =>
      have e1 : Psp.putB s n = false := by unfold Psp.putB; rw [hj, hx]; simp
      have e2 : putW w g o s n = w := by simp [putW, e1]
      rw [e1, e2]
      rw [hx] at hc
      go_enter Try.func27, Try.ntmps27
      go_wp2_with fail
      go_ret
      exact ⟨rfl, rfl⟩
    | false =>
      have e1 : Psp.putB s n = true := by unfold Psp.putB; rw [hj, hx]; simp; omega
      have e2 : putW w g o s n = w.setCell ⟨g, o + j, none⟩ (.bool true) := by simp [putW, e1, hj]
      rw [e1, e2]
      rw [hx] at hc
      go_enter Try.func27, Try.ntmps27
      go_wp2_with fail
      go_ret
      exact ⟨rfl, rfl⟩
  · have e1 : Psp.putB s n = false := by simp [Psp.putB, show ¬ n ≤ 12 by omega]
    have e2 : putW w g o s n = w := by simp [putW, e1]
    rw [e1, e2]
    go_enter Try.func27, Try.ntmps27
    go_wp2_with fail
    go_ret
    exact ⟨rfl, rfl⟩

theorem set_has_at (s : List Bool) (n : Int) (g o : Nat) (w : World) (hn1 : -9223372036854775808 ≤ n) (hn2 : n ≤ 9223372036854775807) (hs : s.length = 13) (hb : BoolsAt w g o s) :
    Calls Try.prog 30 #[.pointer (some ⟨g, o, none⟩), .int .i64 n] w fun e w' => e = .returned (.bool (Psp.hasB s n)) ∧ w = w' := by
  by_cases h0 : n < 0
  · have e1 : Psp.hasB s n = false := by simp [Psp.hasB, show ¬ 0 ≤ n by omega]
    rw [e1]
    go_enter Try.func30, Try.ntmps30
    go_wp2_with fail
    go_ret
    exact ⟨rfl, rfl⟩
  by_cases h1 : n ≤ 12
  · have hc := hb.cell (j := n.toNat) (by omega)
    obtain ⟨j, hj⟩ : ∃ j, n.toNat = j := ⟨_, rfl⟩
    rw [hj] at hc
    have hj2 : j < 13 := by omega
    have e1 : Psp.hasB s n = s.getD j false := by unfold Psp.hasB; rw [hj]; simp [h1]; omega
    rw [e1]
    generalize s.getD j false = x at *
    go_enter Try.func30, Try.ntmps30
    go_wp2_with fail
    go_ret
    exact ⟨rfl, rfl⟩
  · have e1 : Psp.hasB s n = false := by simp [Psp.hasB, show ¬ n ≤ 12 by omega]
    rw [e1]
    go_enter Try.func30, Try.ntmps30
    go_wp2_with fail
    go_ret
    exact ⟨rfl, rfl⟩

theorem set_all_at (s : List Bool) (g o : Nat) (w : World) (hs : s.length = 13) (hb : BoolsAt w g o s) :
    Calls Try.prog 37 #[.pointer (some ⟨g, o, none⟩)] w fun e w' => ∃ v, e = .returned v ∧ w'.ownsRow w.heap.size 3 1 v (Psp.members s 0).length ((Psp.members s 0).map iv) ∧ Below w.heap.size w w' := by
  have hst : w.ownsRow w.heap.size 3 1 (.slice none 0 0) (Psp.members (s.take 0) 0).length ((Psp.members (s.take 0) 0).map iv) := World.ownsRow_nil _ _ _ _
  have hsz13 : (Try.prog.info? 32).map (·.size) = some (s.map Value.bool).length := by
    have h : (Try.prog.info? 32).map (·.size) = some 13 := by kernel_rfl
    rw [h]; simp [hs]
  have Hsz := Lib.hid hsz13
  have Hb := Lib.hid hb
  clear hb hsz13
  go_enter Try.func37, Try.ntmps37
  go_wp2_with (refine wpList_load_mid rfl 32 _ rfl g o rfl (s.map Value.bool) _ Hb.out.1 und_arr rfl Hsz.out ?_)
  go_loopw [3, 10] (fun out n wr => ∃ k : Nat, n = .int .i64 (k : Int) ∧ k ≤ 13 ∧ wr.ownsRow w.heap.size 3 1 out (Psp.members (s.take k) 0).length ((Psp.members (s.take k) 0).map iv) ∧ Below w.heap.size w wr) (fun _ n _ => 13 - (intOf n).toNat)
  case atStart => exact ⟨0, rfl, by omega, hst, Below.refl _ _⟩
  case round =>
    obtain ⟨k, rfl, hk, hown, hbel⟩ := hrel
    have hsz := hbel.size
    by_cases hlt : k < 13
    · have hv : (s.map Value.bool).toArray[k]? = some (.bool (s.getD k false)) := by simp [List.getD_eq_getElem?_getD, List.getElem?_eq_getElem (show k < s.length by omega)]
      have hm := Psp.members_take (s := s) (j := k) (by omega)
      have hx : s[k]'(by omega) = s.getD k false := by simp [List.getD_eq_getElem?_getD, List.getElem?_eq_getElem (show k < s.length by omega)]
      rw [hx] at hm
      have hl : (Psp.members (s.take k) 0).length ≤ 13 := by
        rw [Psp.members_len]
        have := Psp.cnt_le (s.take k)
        rw [List.length_take] at this
        omega
      cases hb2 : s.getD k false with
      | true =>
        rw [hb2] at hm hv
        go_wp2_with (first | (refine wpList_index_arr rfl 32 _ _ rfl 13 _ und_arr isAgg_bool (by kernel_rfl) _ _ k rfl rfl hlt _ hv ?_) | (at_builtin; refine wpList_app1 intsE rfl _ _ rfl w.heap.size _ _ _ rfl hown _ rfl rfl (by simp [Value.oneCell']) (by omega) (by omega) hsz ?_; intro v' w' hown' _ hbel' _))
        go_roundw
        case rel => exact ⟨k + 1, by simp, by omega, by rw [hm]; simpa [iv] using hown', hbel.trans hbel'⟩
        case measure => simp [intOf]; omega
      | false =>
        rw [hb2] at hm hv
        go_wp2_with (first | (refine wpList_index_arr rfl 32 _ _ rfl 13 _ und_arr isAgg_bool (by kernel_rfl) _ _ k rfl rfl hlt _ hv ?_))
        go_roundw
        case rel => exact ⟨k + 1, by simp, by omega, by rw [hm]; simpa using hown, hbel⟩
        case measure => simp [intOf]; omega
    · have hk13 : k = 13 := by omega
      subst hk13
      rw [List.take_of_length_le (by omega)] at hown
      go_wp2_with fail
      go_ret
      exact ⟨_, rfl, hown, hbel⟩

theorem set_len_at (s : List Bool) (g o : Nat) (w : World) (hs : s.length = 13) (hb : BoolsAt w g o s) :
    Calls Try.prog 28 #[.pointer (some ⟨g, o, none⟩)] w fun e w' => e = .returned (.int .i64 (s.countP id : Nat)) ∧ Below w.heap.size w w' := by
  go_enter Try.func28, Try.ntmps28
  go_wp2_with (go_at_call 37; refine (set_all_at s g o _ hs hb).mono ?_; rintro e w' ⟨v, rfl, hown, hbel⟩; obtain ⟨A, c, rfl, _, _, _⟩ := own_slice hown)
  go_ret
  exact ⟨by rw [Psp.members_len]; rfl, hbel⟩
end Go.Proofs.Ytmbdailffhdonaa
