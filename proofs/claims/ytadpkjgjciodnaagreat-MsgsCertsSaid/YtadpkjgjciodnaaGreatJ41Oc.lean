/- One vote of a row of one's own, stored anew. A row of votes: its beginning, what comes behind. -/
import Derived.Test.YtadpkjgjciodnaaGreatJ34Oc
import Derived.Test.YtadpkjgjciodnaaGreatOrdROc
import Derived.Test.YtadpkjgjciodnaaGreatCpoOc
import Derived.Deep.RegionLaw
section
namespace Go.Proofs.YtadpkjgjciodnaaGreat
open Go.RowKit
set_option linter.unusedVariables false
set_option linter.unusedSimpArgs false

theorem vt_set_s : ∀ (l : List Psp.Vote) (i : Nat) (t : Psp.Vote) (s : Int), l[i]? = some t → (l.set i ⟨t.n, s⟩).flatMap vt = (l.flatMap vt).set (i * 2 + 1) (iv s)
  | [], _, _, _, h => by cases h
  | x :: l, 0, t, s, h => by
    obtain rfl : x = t := by simpa using h
    simp [vt]
  | x :: l, i + 1, t, s, h => by
    have ih := vt_set_s l i t s (by simpa using h)
    rw [List.set_cons_succ, List.flatMap_cons, List.flatMap_cons, ih]
    have e : (i + 1) * 2 + 1 = (vt x).length + (i * 2 + 1) := by show _ = 2 + _; omega
    rw [e, List.set_append_right _ _ (Nat.le_add_right _ _)]
    congr 1
    rw [Nat.add_sub_cancel_left]
theorem vt_set_n : ∀ (l : List Psp.Vote) (i : Nat) (t : Psp.Vote) (n : Int), l[i]? = some t → (l.set i ⟨n, t.s⟩).flatMap vt = (l.flatMap vt).set (i * 2) (iv n)
  | [], _, _, _, h => by cases h
  | x :: l, 0, t, n, h => by
    obtain rfl : x = t := by simpa using h
    simp [vt]
  | x :: l, i + 1, t, n, h => by
    have ih := vt_set_n l i t n (by simpa using h)
    rw [List.set_cons_succ, List.flatMap_cons, List.flatMap_cons, ih]
    have e : (i + 1) * 2 = (vt x).length + (i * 2) := by show _ = 2 + _; omega
    rw [e, List.set_append_right _ _ (Nat.le_add_right _ _)]
    congr 1
    rw [Nat.add_sub_cancel_left]

theorem rd_set {W : World} {blk cap n k : Nat} {cur : Array Value} {T : TypeId} {xs xs' : List Value} {u : Value} (hh : W.heap[blk]? = some (.cells cur T (0, 0))) (hx : cur.toList.take (n * 2) = xs) (hcap : n ≤ cap) (hmax : cap ≤ maxLen) (hsz : cur.size = cap * 2) (hk : k < n * 2) (hx' : xs' = xs.set k u) :
    RdP (W.setCell ⟨blk, k, none⟩ u) (fun b => b = blk) 2 (.slice (some ⟨blk, 0, none⟩) n cap) n xs' := by
  have hlen : xs.length = n * 2 := by rw [← hx, List.length_take, Array.length_toList, hsz]; omega
  have hh' : (W.setCell ⟨blk, k, none⟩ u).heap[blk]? = some (.cells (cur.setIfInBounds k u) T (0, 0)) := heap_setCell_same W blk k _ _ _ hh
  have hlt := (Array.getElem?_eq_some_iff.1 hh').1
  refine ⟨by rw [hx', List.length_set]; exact hlen, _, cap, rfl, hcap, hmax, fun _ => ⟨blk, 0, rfl, rfl, hlt, fun j v hv => ?_⟩⟩
  rw [Nat.zero_add, cell_of_row _ _ j _ _ _ hh']
  rw [hx'] at hv
  have hjl : j < n * 2 := by
    have := (List.getElem?_eq_some_iff.1 hv).1
    rw [List.length_set, hlen] at this
    exact this
  by_cases hjk : k = j
  · subst hjk
    rw [List.getElem?_set_self (by rw [hlen]; exact hk)] at hv
    injection hv with hv
    subst hv
    first
      | (rw [Array.getElem?_setIfInBounds_self_of_lt (by rw [hsz]; omega)])
      | (simp [Array.getElem?_setIfInBounds, hsz]; omega)
  · rw [List.getElem?_set_ne hjk, ← hx, List.getElem?_take_of_lt hjl] at hv
    first
      | (rw [Array.getElem?_setIfInBounds_ne hjk]; simpa using hv)
      | (simp [Array.getElem?_setIfInBounds, hjk]; simpa using hv)
end Go.Proofs.YtadpkjgjciodnaaGreat
end
section
namespace Go.Proofs.YtadpkjgjciodnaaGreat
open Go.RowKit
set_option linter.unusedVariables false

theorem vot_info : (Tryz.prog.info? 54).map (fun i => (i.zero, i.size, i.bytes)) = some (some (.agg #[.int .i64 0, .int .i64 0]), 2, 16) := by kernel_rfl
theorem vd_take : ∀ (l : List Psp.Vote) (j : Nat), (l.flatMap vt).take (j * 2) = (l.take j).flatMap vt
  | [], j => by simp
  | x :: l, 0 => by simp
  | x :: l, j + 1 => by
    rw [List.take_succ_cons, List.flatMap_cons, List.flatMap_cons, ← vd_take l j, Nat.succ_mul, Nat.add_comm, List.take_append]
    have : (vt x).length = 2 := rfl
    rw [List.take_of_length_le (by rw [this]; omega), this, Nat.add_sub_cancel_left]
theorem vd_drop : ∀ (l : List Psp.Vote) (j : Nat), (l.flatMap vt).drop (j * 2) = (l.drop j).flatMap vt
  | [], j => by simp
  | x :: l, 0 => by simp
  | x :: l, j + 1 => by
    rw [List.drop_succ_cons, List.flatMap_cons, ← vd_drop l j, Nat.succ_mul, Nat.add_comm, List.drop_append]
    have : (vt x).length = 2 := rfl
    rw [List.drop_of_length_le (by rw [this]; omega), this, Nat.add_sub_cancel_left, List.nil_append]
theorem vd_pre {w : World} {base b m c j : Nat} {xs : List Psp.Vote} (h : w.ownsRow base 54 2 (.slice (some ⟨b, 0, none⟩) m c) m (xs.flatMap vt)) (hj : j ≤ m) : w.ownsRow base 54 2 (.slice (some ⟨b, 0, none⟩) j c) j ((xs.take j).flatMap vt) := by
  rcases h.2 with ⟨h1, _⟩ | ⟨g, cap, cur, h1, h2, h3, h4, h5, h6, h7⟩
  · cases h1
  · injection h1 with e1 _ e3
    injection e1 with e1
    injection e1 with e1
    subst e1 e3
    have hl := h.1
    refine ⟨by rw [← vd_take, List.length_take, hl]; have := Nat.mul_le_mul_right 2 hj; omega, Or.inr ⟨b, c, cur, rfl, h2, h3, by omega, h5, h6, ?_⟩⟩
    rw [← vd_take, ← h7, List.take_take]
    congr 1
    have := Nat.mul_le_mul_right 2 hj
    omega
theorem vd_news {w : World} {base b m c j : Nat} {xs : List Psp.Vote} (h : w.ownsRow base 54 2 (.slice (some ⟨b, 0, none⟩) m c) m (xs.flatMap vt)) (hm : 0 < m) : ∀ i u, ((xs.drop j).flatMap vt)[i]? = some u → w.cell? ((⟨b, j * 2, none⟩ : Addr).add i) = some u := by
  intro i u hu
  obtain ⟨_, A', c', e, _, _, hl⟩ := Rd.of_own h
  obtain ⟨b', o', e2, _, hl⟩ := hl hm
  injection e with e _ _
  subst e
  rw [od_add]
  rcases h.2 with ⟨h1, _⟩ | ⟨g, cap, cur, h1, h2, h3, h4, h5, h6, h7⟩
  · cases h1
  · injection h1 with e1 _ e3
    injection e1 with e1
    injection e1 with e1
    subst e1 e3
    rw [cell_of_row w b _ _ _ _ h3, ← Array.getElem?_toList]
    rw [← vd_drop, List.getElem?_drop] at hu
    have h8 : (cur.toList.take (m * 2))[j * 2 + i]? = some u := by rw [h7]; exact hu
    rw [List.getElem?_take] at h8
    split at h8
    · exact h8
    · cases h8
theorem vd_len (l : List Psp.Vote) : (l.flatMap vt).length = l.length * 2 := by
  induction l with
  | nil => rfl
  | cons x l ih => rw [List.flatMap_cons, List.length_append, ih, List.length_cons, Nat.succ_mul, Nat.add_comm]; rfl
end Go.Proofs.YtadpkjgjciodnaaGreat
end
