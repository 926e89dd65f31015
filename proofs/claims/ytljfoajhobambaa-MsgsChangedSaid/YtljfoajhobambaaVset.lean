/- One vote of a row of one's own, stored anew. -/
import Derived.Test.YtljfoajhobambaaChp
namespace Go.Proofs.Ytljfoajhobambaa
open Go.RowKit
set_option linter.unusedVariables false
set_option linter.unusedSimpArgs false

theorem vt_set_s : ∀ (l : List Psp.Vote) (i : Nat) (t : Psp.Vote) (s : Int), l[i]? = some t → (l.set i ⟨t.n, s⟩).flatMap vt = (l.flatMap vt).set (i * 2 + 1) (iv s)
  | [], _, _, _, h => by cases h
  | x :: l, 0, t, s, h => by
    obtain rfl : x = t := by simpa using h
    simp [vt]
  | x :: l, i + 1, t, s, h => by
    have ih := vt_set_s l i t s (by simpa using h)
    rw [List.set_cons_succ, List.flatMap_cons, List.flatMap_cons, ih]
    have e : (i + 1) * 2 + 1 = (vt x).length + (i * 2 + 1) := by show _ = 2 + _; omega
    rw [e, List.set_append_right _ _ (Nat.le_add_right _ _)]
    congr 1
    rw [Nat.add_sub_cancel_left]
theorem vt_set_n : ∀ (l : List Psp.Vote) (i : Nat) (t : Psp.Vote) (n : Int), l[i]? = some t → (l.set i ⟨n, t.s⟩).flatMap vt = (l.flatMap vt).set (i * 2) (iv n)
  | [], _, _, _, h => by cases h
  | x :: l, 0, t, n, h => by
    obtain rfl : x = t := by simpa using h
    simp [vt]
  | x :: l, i + 1, t, n, h => by
    have ih := vt_set_n l i t n (by simpa using h)
    rw [List.set_cons_succ, List.flatMap_cons, List.flatMap_cons, ih]
    have e : (i + 1) * 2 = (vt x).length + (i * 2) := by show _ = 2 + _; omega
    rw [e, List.set_append_right _ _ (Nat.le_add_right _ _)]
    congr 1
    rw [Nat.add_sub_cancel_left]

theorem rd_set {W : World} {blk cap n k : Nat} {cur : Array Value} {T : TypeId} {xs xs' : List Value} {u : Value} (hh : W.heap[blk]? = some (.cells cur T (0, 0))) (hx : cur.toList.take (n * 2) = xs) (hcap : n ≤ cap) (hmax : cap ≤ maxLen) (hsz : cur.size = cap * 2) (hk : k < n * 2) (hx' : xs' = xs.set k u) :
    RdP (W.setCell ⟨blk, k, none⟩ u) (fun b => b = blk) 2 (.slice (some ⟨blk, 0, none⟩) n cap) n xs' := by
  have hlen : xs.length = n * 2 := by rw [← hx, List.length_take, Array.length_toList, hsz]; omega
  have hh' : (W.setCell ⟨blk, k, none⟩ u).heap[blk]? = some (.cells (cur.setIfInBounds k u) T (0, 0)) := heap_setCell_same W blk k _ _ _ hh
  have hlt := (Array.getElem?_eq_some_iff.1 hh').1
  refine ⟨by rw [hx', List.length_set]; exact hlen, _, cap, rfl, hcap, hmax, fun _ => ⟨blk, 0, rfl, rfl, hlt, fun j v hv => ?_⟩⟩
  rw [Nat.zero_add, cell_of_row _ _ j _ _ _ hh']
  rw [hx'] at hv
  have hjl : j < n * 2 := by
    have := (List.getElem?_eq_some_iff.1 hv).1
    rw [List.length_set, hlen] at this
    exact this
  by_cases hjk : k = j
  · subst hjk
    rw [List.getElem?_set_self (by rw [hlen]; exact hk)] at hv
    injection hv with hv
    subst hv
    first
      | (rw [Array.getElem?_setIfInBounds_self_of_lt (by rw [hsz]; omega)])
      | (simp [Array.getElem?_setIfInBounds, hsz]; omega)
  · rw [List.getElem?_set_ne hjk, ← hx, List.getElem?_take_of_lt hjl] at hv
    first
      | (rw [Array.getElem?_setIfInBounds_ne hjk]; simpa using hv)
      | (simp [Array.getElem?_setIfInBounds, hjk]; simpa using hv)
end Go.Proofs.Ytljfoajhobambaa
