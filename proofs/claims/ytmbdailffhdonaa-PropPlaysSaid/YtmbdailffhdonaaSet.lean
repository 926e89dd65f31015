/- Sets of nodes: thirteen bools in a block. Plain facts, then the walks of package ballot's Set. -/
import Derived.Test.YtmbdailffhdonaaOwn
import Derived.Test.YtmbdailffhdonaaInts
import Derived.Test.YtmbdailffhdonaaIx
namespace Psp

/-- The places from k on where s is true. -/
def members : List Bool → Int → List Int
  | [], _ => []
  | b :: s, k => if b = true then k :: members s (k + 1) else members s (k + 1)

theorem members_append (s t : List Bool) : ∀ k, members (s ++ t) k = members s k ++ members t (k + s.length) := by
  induction s with
  | nil => intro k; simp [members]
  | cons b s ih =>
    intro k
    have e : k + 1 + (s.length : Int) = k + ((b :: s).length : Int) := by simp; omega
    rw [List.cons_append, members, members, ih, e]
    cases b <;> simp

theorem members_take {s : List Bool} {j : Nat} (h : j < s.length) : members (s.take (j + 1)) 0 = members (s.take j) 0 ++ (if s[j] = true then [(j : Int)] else []) := by
  rw [List.take_succ_eq_append_getElem h, members_append]
  congr 1
  have : (List.take j s).length = j := by rw [List.length_take]; omega
  rw [this]
  simp [members]

theorem members_len (s : List Bool) : ∀ k, (members s k).length = s.countP id := by
  induction s with
  | nil => intro k; rfl
  | cons b s ih => intro k; cases b <;> simp [members, ih]

theorem members_bd (s : List Bool) : ∀ k n, n ∈ members s k → k ≤ n ∧ n < k + s.length ∧ s[(n - k).toNat]? = some true := by
  induction s with
  | nil => intro k n h; simp [members] at h
  | cons b s ih =>
    intro k n h
    have key : n ∈ members s (k + 1) → k ≤ n ∧ n < k + ((b :: s).length : Int) ∧ (b :: s)[(n - k).toNat]? = some true := by
      intro h
      obtain ⟨h1, h2, h3⟩ := ih _ _ h
      refine ⟨by omega, by simp; omega, ?_⟩
      rw [show (n - k).toNat = (n - (k + 1)).toNat + 1 by omega, List.getElem?_cons_succ]
      exact h3
    cases b with
    | false => exact key (by simpa [members] using h)
    | true =>
      have h' : n = k ∨ n ∈ members s (k + 1) := by simpa [members] using h
      rcases h' with rfl | h'
      · refine ⟨by omega, by simp; omega, by simp⟩
      · exact key h'

theorem members_sorted (s : List Bool) : ∀ k, (members s k).Pairwise (· < ·) := by
  induction s with
  | nil => intro k; exact List.Pairwise.nil
  | cons b s ih =>
    intro k
    rw [members]
    cases b with
    | false => simpa using ih (k + 1)
    | true => exact List.Pairwise.cons (fun n hn => by have := members_bd s _ _ hn; omega) (ih (k + 1))

def hasB (s : List Bool) (n : Int) : Bool := decide (0 ≤ n) && (decide (n ≤ 12) && s.getD n.toNat false)
def putB (s : List Bool) (n : Int) : Bool := decide (0 ≤ n) && (decide (n ≤ 12) && !s.getD n.toNat false)
def put (s : List Bool) (n : Int) : List Bool := if putB s n = true then s.set n.toNat true else s

theorem put_len (s : List Bool) (n : Int) : (put s n).length = s.length := by unfold put; split <;> simp

theorem cnt_le (s : List Bool) : s.countP id ≤ s.length := List.countP_le_length

theorem cnt_set (s : List Bool) : ∀ (j : Nat), s[j]? = some false → (s.set j true).countP id = s.countP id + 1 := by
  induction s with
  | nil => intro j h; simp at h
  | cons b s ih =>
    intro j h
    cases j with
    | zero => simp at h; subst h; simp
    | succ j =>
      rw [List.getElem?_cons_succ] at h
      rw [List.set_cons_succ, List.countP_cons, List.countP_cons, ih j h]
      omega

theorem getD_some {s : List Bool} (h : s.length = 13) {n : Int} (h0 : 0 ≤ n) (h1 : n ≤ 12) : s[n.toNat]? = some (s.getD n.toNat false) := by
  rw [List.getD_eq_getElem?_getD, List.getElem?_eq_getElem (by omega)]; rfl

theorem cnt_put {s : List Bool} (hs : s.length = 13) (n : Int) : (put s n).countP id = s.countP id + (if putB s n = true then 1 else 0) := by
  unfold put
  by_cases h : putB s n = true
  · rw [if_pos h, if_pos h]
    refine cnt_set s _ ?_
    simp only [putB, Bool.and_eq_true, decide_eq_true_eq, Bool.not_eq_true'] at h
    rw [getD_some hs h.1 h.2.1, h.2.2]
  · rw [if_neg h, if_neg h]; rfl

theorem has_put {s : List Bool} (hs : s.length = 13) (n : Int) : hasB (put s n) n = (decide (0 ≤ n) && decide (n ≤ 12)) := by
  by_cases h0 : 0 ≤ n
  · by_cases h1 : n ≤ 12
    · have hg : (put s n).getD n.toNat false = true := by
        unfold put
        by_cases h : putB s n = true
        · rw [if_pos h, List.getD_eq_getElem?_getD, List.getElem?_set_self (by omega)]; rfl
        · rw [if_neg h]
          simpa [putB, h0, h1] using h
      unfold hasB
      rw [hg]
      simp
    · simp [hasB, h1]
  · simp [hasB, h0]

end Psp
namespace Go.Proofs.Ytmbdailffhdonaa
open Go.RowKit
set_option linter.unusedVariables false

/-- Block g holds the bools s. -/
def Bools (w : World) (g : Nat) (t : TypeId) (s : List Bool) : Prop := w.heap[g]? = some (.cells (s.map Value.bool).toArray t (0, 0))

/-- But for block g all is as it was. -/
structure Only (g : Nat) (w w' : World) : Prop where
  os : w'.os = w.os
  tape : w'.tape = w.tape
  output : w'.output = w.output
  size : w'.heap.size = w.heap.size
  block : ∀ k, k ≠ g → w'.heap[k]? = w.heap[k]?

section
variable {w w' : World} {g : Nat} {t : TypeId} {s : List Bool}
theorem Only.refl (g : Nat) (w : World) : Only g w w := ⟨rfl, rfl, rfl, rfl, fun _ _ => rfl⟩
theorem Only.setCell (w : World) (g i : Nat) (v : Value) : Only g w (w.setCell ⟨g, i, none⟩ v) :=
  ⟨rfl, rfl, rfl, by simp [World.setCell], fun k hk => heap_setCell_other w _ k v hk⟩
theorem Only.below {B : Nat} (h : Only g w w') (hB : B ≤ g) : Below B w w' := ⟨h.os, h.tape, h.output, Nat.le_of_eq h.size.symm, fun k hk => h.block k (by omega)⟩
theorem Bools.lt (h : Bools w g t s) : g < w.heap.size := (Array.getElem?_eq_some_iff.1 h).1
theorem Bools.cell (h : Bools w g t s) {j : Nat} (hj : j < s.length) : w.cell? ⟨g, j, none⟩ = some (.bool (s.getD j false)) := by
  rw [cell_of_row w g j _ t _ h]
  simp [List.getD_eq_getElem?_getD, List.getElem?_eq_getElem hj]
theorem Bools.frozen (h : Bools w g t s) (j : Nat) : w.frozen? ⟨g, j, none⟩ = false := frozen_of_row w g j _ t h
theorem Bools.set (h : Bools w g t s) (j : Nat) (b : Bool) : Bools (w.setCell ⟨g, j, none⟩ (.bool b)) g t (s.set j b) := by
  unfold Bools
  rw [heap_setCell_same w g j _ t _ h]
  congr 2
  apply Array.ext'
  simp [List.map_set]
theorem Bools.keep (h : Bools w g t s) (hb : w'.heap[g]? = w.heap[g]?) : Bools w' g t s := hb.trans h
theorem Bools.below {B : Nat} (h : Bools w g t s) (hb : Below B w w') (hg : g < B) : Bools w' g t s := h.keep (hb.block g hg)
theorem Bools.only {g' : Nat} (h : Bools w g t s) (hb : Only g' w w') (hg : g ≠ g') : Bools w' g t s := h.keep (hb.block g hg)
theorem Bools.new (w : World) (t : TypeId) : Bools (w.alloc (.cells (Array.replicate 13 (.bool false)) t)) w.heap.size t (List.replicate 13 false) := by
  unfold Bools; rw [heap_alloc_new]; rfl
end

theorem put_any (s : List Bool) (n : Int) (g : Nat) (w : World) (hn1 : -9223372036854775808 ≤ n) (hn2 : n ≤ 9223372036854775807) (hs : s.length = 13) (hb : Bools w g 66 s) :
    Calls Try.prog 27 #[.pointer (some ⟨g, 0, none⟩), .int .i64 n] w fun e w' => e = .returned (.bool (Psp.putB s n)) ∧ Bools w' g 66 (Psp.put s n) ∧ Only g w w' := by
  go_enter Try.func27, Try.ntmps27
  by_cases h0 : n < 0
  · have e1 : Psp.putB s n = false := by simp [Psp.putB, show ¬ 0 ≤ n by omega]
    have e2 : Psp.put s n = s := by simp [Psp.put, e1]
    rw [e1, e2]
    go_wp2_with fail
    go_ret
    exact ⟨rfl, hb, Only.refl _ _⟩
  by_cases h1 : n ≤ 12
  · have hc := hb.cell (j := n.toNat) (by omega)
    obtain ⟨j, hj⟩ : ∃ j, n.toNat = j := ⟨_, rfl⟩
    rw [hj] at hc
    have hj2 : j < 13 := by omega
    have hf := hb.frozen j
    cases hx : s.getD j false with
    | true =>
      have e1 : Psp.putB s n = false := by unfold Psp.putB; rw [hj, hx]; simp
      have e2 : Psp.put s n = s := by simp [Psp.put, e1]
      rw [e1, e2]
      rw [hx] at hc
      go_wp2_with fail
      go_ret
      exact ⟨rfl, hb, Only.refl _ _⟩
    | false =>
      have e1 : Psp.putB s n = true := by unfold Psp.putB; rw [hj, hx]; simp; omega
      have e2 : Psp.put s n = s.set j true := by simp [Psp.put, e1, hj]
      rw [e1, e2]
      rw [hx] at hc
      go_wp2_with fail
      go_ret
      exact ⟨rfl, hb.set j true, Only.setCell _ _ _ _⟩
  · have e1 : Psp.putB s n = false := by simp [Psp.putB, show ¬ n ≤ 12 by omega]
    have e2 : Psp.put s n = s := by simp [Psp.put, e1]
    rw [e1, e2]
    go_wp2_with fail
    go_ret
    exact ⟨rfl, hb, Only.refl _ _⟩

theorem has_any (s : List Bool) (n : Int) (g : Nat) (w : World) (hn1 : -9223372036854775808 ≤ n) (hn2 : n ≤ 9223372036854775807) (hs : s.length = 13) (hb : Bools w g 66 s) :
    Calls Try.prog 30 #[.pointer (some ⟨g, 0, none⟩), .int .i64 n] w fun e w' => e = .returned (.bool (Psp.hasB s n)) ∧ w = w' := by
  by_cases h0 : n < 0
  · have e1 : Psp.hasB s n = false := by simp [Psp.hasB, show ¬ 0 ≤ n by omega]
    rw [e1]
    go_enter Try.func30, Try.ntmps30
    go_wp2_with fail
    go_ret
    exact ⟨rfl, rfl⟩
  by_cases h1 : n ≤ 12
  · have hc := hb.cell (j := n.toNat) (by omega)
    obtain ⟨j, hj⟩ : ∃ j, n.toNat = j := ⟨_, rfl⟩
    rw [hj] at hc
    have hj2 : j < 13 := by omega
    have e1 : Psp.hasB s n = s.getD j false := by unfold Psp.hasB; rw [hj]; simp [h1]; omega
    rw [e1]
    generalize s.getD j false = x at *
    go_enter Try.func30, Try.ntmps30
    go_wp2_with fail
    go_ret
    exact ⟨rfl, rfl⟩
  · have e1 : Psp.hasB s n = false := by simp [Psp.hasB, show ¬ n ≤ 12 by omega]
    rw [e1]
    go_enter Try.func30, Try.ntmps30
    go_wp2_with fail
    go_ret
    exact ⟨rfl, rfl⟩

theorem intsE : Elem Try.prog 26 3 1 8 := ⟨Try.underlying26, by kernel_rfl, by decide⟩

theorem und_arr : Try.prog.underlying 32 = some (.array 13 4) := by kernel_rfl
theorem size_arr {s : List Bool} (hs : s.length = 13) : (Try.prog.info? 32).map (·.size) = some (s.map Value.bool).toArray.size := by
  have h : (Try.prog.info? 32).map (·.size) = some 13 := by kernel_rfl
  rw [h]; simp [hs]
theorem isAgg_bool : ∀ w, (isAgg 4).run Try.prog w = .ok false w := fun _ => by kernel_rfl

theorem all_any (s : List Bool) (g : Nat) (w : World) (hs : s.length = 13) (hb : Bools w g 66 s) :
    Calls Try.prog 37 #[.pointer (some ⟨g, 0, none⟩)] w fun e w' => ∃ v, e = .returned v ∧ w'.ownsRow w.heap.size 3 1 v (Psp.members s 0).length ((Psp.members s 0).map iv) ∧ Below w.heap.size w w' := by
  have hst : w.ownsRow w.heap.size 3 1 (.slice none 0 0) (Psp.members (s.take 0) 0).length ((Psp.members (s.take 0) 0).map iv) := World.ownsRow_nil _ _ _ _
  go_enter Try.func37, Try.ntmps37
  go_wp2_with (refine wpList_load_row rfl 32 _ rfl g rfl _ _ _ _ hb und_arr rfl (size_arr hs) ?_)
  go_loopw [3, 10] (fun out n wr => ∃ k : Nat, n = .int .i64 (k : Int) ∧ k ≤ 13 ∧ wr.ownsRow w.heap.size 3 1 out (Psp.members (s.take k) 0).length ((Psp.members (s.take k) 0).map iv) ∧ Below w.heap.size w wr) (fun _ n _ => 13 - (intOf n).toNat)
  case atStart => exact ⟨0, rfl, by omega, hst, Below.refl _ _⟩
  case round =>
    obtain ⟨k, rfl, hk, hown, hbel⟩ := hrel
    have hsz := hbel.size
    by_cases hlt : k < 13
    · have hv : (s.map Value.bool).toArray[k]? = some (.bool (s.getD k false)) := by simp [List.getD_eq_getElem?_getD, List.getElem?_eq_getElem (show k < s.length by omega)]
      have hm := Psp.members_take (s := s) (j := k) (by omega)
      have hx : s[k]'(by omega) = s.getD k false := by simp [List.getD_eq_getElem?_getD, List.getElem?_eq_getElem (show k < s.length by omega)]
      rw [hx] at hm
      have hl : (Psp.members (s.take k) 0).length ≤ 13 := by
        rw [Psp.members_len]
        have := Psp.cnt_le (s.take k)
        rw [List.length_take] at this
        omega
      cases hb2 : s.getD k false with
      | true =>
        rw [hb2] at hm hv
        go_wp2_with (first | (refine wpList_index_arr rfl 32 _ _ rfl 13 _ und_arr isAgg_bool (by kernel_rfl) _ _ k rfl rfl hlt _ hv ?_) | (at_builtin; refine wpList_app1 intsE rfl _ _ rfl w.heap.size _ _ _ rfl hown _ rfl rfl (by simp [Value.oneCell']) (by omega) (by omega) hsz ?_; intro v' w' hown' _ hbel' _))
        go_roundw
        case rel => exact ⟨k + 1, by simp, by omega, by rw [hm]; simpa [iv] using hown', hbel.trans hbel'⟩
        case measure => simp [intOf]; omega
      | false =>
        rw [hb2] at hm hv
        go_wp2_with (first | (refine wpList_index_arr rfl 32 _ _ rfl 13 _ und_arr isAgg_bool (by kernel_rfl) _ _ k rfl rfl hlt _ hv ?_))
        go_roundw
        case rel => exact ⟨k + 1, by simp, by omega, by rw [hm]; simpa using hown, hbel⟩
        case measure => simp [intOf]; omega
    · have hk13 : k = 13 := by omega
      subst hk13
      rw [List.take_of_length_le (by omega)] at hown
      go_wp2_with fail
      go_ret
      exact ⟨_, rfl, hown, hbel⟩

theorem len_any (s : List Bool) (g : Nat) (w : World) (hs : s.length = 13) (hb : Bools w g 66 s) :
    Calls Try.prog 28 #[.pointer (some ⟨g, 0, none⟩)] w fun e w' => e = .returned (.int .i64 (s.countP id : Nat)) ∧ Below w.heap.size w w' := by
  go_enter Try.func28, Try.ntmps28
  go_wp2_with (go_at_call 37; refine (all_any s g _ hs hb).mono ?_; rintro e w' ⟨v, rfl, hown, hbel⟩; obtain ⟨A, c, rfl, _, _, _⟩ := own_slice hown)
  go_ret
  exact ⟨by rw [Psp.members_len]; rfl, hbel⟩
end Go.Proofs.Ytmbdailffhdonaa
