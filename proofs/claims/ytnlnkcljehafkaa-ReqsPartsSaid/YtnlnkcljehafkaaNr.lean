/- The reference's notary: two rows. -/
import Derived.Test.YtnlnkcljehafkaaNt2
import Derived.Laws.StructEq
namespace Go.Proofs.Ytnlnkcljehafkaa
open Go.RowKit
set_option linter.unusedVariables false

set_option maxRecDepth 100000 in
theorem strOf_ne {a b : List UInt8} (h : strOf a ≠ strOf b) : ((strOf a).toList == (strOf b).toList) = false := by
  have e : ∀ c : List UInt8, (strOf c).toList = c := fun c => by
    have := ByteArray.toList_loop_eq (strOf c) (strOf c).size 0 [] (by omega) (by omega)
    unfold ByteArray.toList
    rw [this, strOf_list]; rfl
  rw [e, e]
  simpa using fun h' => h (by rw [h'])
set_option maxRecDepth 100000 in
theorem num_hit : ∀ {l : List Key} {k : Nat} {x : Key}, (∀ j, j < k → l[j]? ≠ some x) → l[k]? = some x → x ∈ l ∧ l.idxOf x = k
  | [], k, x, _, h => by simp at h
  | y :: l, 0, x, _, h => by
    simp at h; subst h; simp
  | y :: l, k + 1, x, h0, h => by
    have hy : y ≠ x := by have := h0 0 (by omega); simpa using this
    obtain ⟨h1, h2⟩ := num_hit (l := l) (k := k) (x := x) (fun j hj => by simpa using h0 (j + 1) (by omega)) (by simpa using h)
    refine ⟨List.mem_cons_of_mem _ h1, ?_⟩
    have hb : (y == x) = false := by simpa using hy
    simp [List.idxOf_cons, hb, h2]
set_option maxRecDepth 100000 in
theorem numk_end {l : List Key} {x : Key} (h : ∀ j, j < l.length → l[j]? ≠ some x) : x ∉ l := by
  intro hx
  obtain ⟨j, hj, e⟩ := List.mem_iff_getElem.1 hx
  exact h j hj (by rw [List.getElem?_eq_getElem hj, e])

/-- The reference's notary: its block g, and all blocks that it may write (S). -/
structure Ntr (w : World) (S : Nat → Prop) (g : Nat) (l : List Key) : Prop where
  ex : ∃ vp vt, w.heap[g]? = some (.cells #[vp, vt] 51 (0, 0)) ∧ w.ownsRow 0 3 1 vp l.length (l.map fun k => .int .i64 k.1) ∧ w.ownsRow 0 9 1 vt l.length (l.map fun k => .string (strOf k.2)) ∧
    S g ∧ (∀ b, vp.ownBlock = some b → S b ∧ b ≠ g) ∧ (∀ b, vt.ownBlock = some b → S b ∧ b ≠ g ∧ vp.ownBlock ≠ some b)
set_option maxRecDepth 100000 in
theorem own_keep0 {w w' : World} {e : TypeId} {k n : Nat} {v : Value} {xs : List Value} (h : w.ownsRow 0 e k v n xs) (hk : ∀ b, v.ownBlock = some b → w'.heap[b]? = w.heap[b]?) : w'.ownsRow 0 e k v n xs := by
  refine ⟨h.1, h.2.imp id ?_⟩
  rintro ⟨g, cap, cur, rfl, h1, h2, h3⟩
  exact ⟨g, cap, cur, rfl, h1, (hk g rfl).trans h2, h3⟩
set_option maxRecDepth 100000 in
theorem own_lt0 {w : World} {e : TypeId} {k n : Nat} {v : Value} {xs : List Value} (h : w.ownsRow 0 e k v n xs) {b : Nat} (hb : v.ownBlock = some b) : b < w.heap.size := by
  rcases h.2 with ⟨rfl, _⟩ | ⟨g, cap, cur, rfl, h1, h2, h3⟩
  · cases hb
  · injection hb with hb; subst hb; exact (Array.getElem?_eq_some_iff.1 h2).1
set_option maxRecDepth 100000 in
theorem Ntr.keep {w w' : World} {S : Nat → Prop} {g : Nat} {l : List Key} (h : Ntr w S g l) (hk : ∀ b, S b → b < w.heap.size → w'.heap[b]? = w.heap[b]?) : Ntr w' S g l := by
  obtain ⟨vp, vt, h1, h2, h3, h4, h5, h6⟩ := h.ex
  exact ⟨vp, vt, (hk g h4 (Array.getElem?_eq_some_iff.1 h1).1).trans h1, own_keep0 h2 fun b hb => hk b (h5 b hb).1 (own_lt0 h2 hb), own_keep0 h3 fun b hb => hk b (h6 b hb).1 (own_lt0 h3 hb), h4, h5, h6⟩
set_option maxRecDepth 100000 in
theorem Ntr.below {w w' : World} {S : Nat → Prop} {g : Nat} {l : List Key} (h : Ntr w S g l) (hb : Below w.heap.size w w') : Ntr w' S g l := h.keep fun b _ hlt => hb.block b hlt
set_option maxRecDepth 100000 in
theorem Ntr.fp {w w' : World} {S S' : Nat → Prop} {g : Nat} {l : List Key} (h : Ntr w S g l) (hf : Fp S' w w') (hd : ∀ b, S b → ¬ S' b) : Ntr w' S g l := h.keep fun b hS hlt => hf.block b hlt (hd b hS)
set_option maxRecDepth 100000 in
theorem Ntr.slices {w : World} {S : Nat → Prop} {g : Nat} {l : List Key} (h : Ntr w S g l) : ∃ A B c d, w.cell? ⟨g, 0, none⟩ = some (.slice A l.length c) ∧ w.cell? ⟨g, 1, none⟩ = some (.slice B l.length d) ∧ l.length ≤ c ∧ l.length ≤ d ∧ c ≤ maxLen ∧ d ≤ maxLen ∧
    ∀ j k, l[j]? = some k → ∃ b1 b2, A = some ⟨b1, 0, none⟩ ∧ B = some ⟨b2, 0, none⟩ ∧ w.cell? ⟨b1, j, none⟩ = some (.int .i64 k.1) ∧ w.cell? ⟨b2, j, none⟩ = some (.string (strOf k.2)) := by
  obtain ⟨vp, vt, h1, h2, h3, h4, h5, h6⟩ := h.ex
  obtain ⟨A, c, rfl, _⟩ := own_slice h2
  obtain ⟨B, d, rfl, _⟩ := own_slice h3
  obtain ⟨_, A', c', e1, q1, q2, q3⟩ := Rd.of_own h2
  obtain ⟨_, B', d', e2, r1, r2, r3⟩ := Rd.of_own h3
  injection e1 with e11 _ e12
  injection e2 with e21 _ e22
  subst e11 e12 e21 e22
  refine ⟨A, B, c, d, (cell_of_row w g 0 _ _ _ h1).trans rfl, (cell_of_row w g 1 _ _ _ h1).trans rfl, q1, r1, q2, r2, fun j k hk => ?_⟩
  have hj : 0 < l.length := by have := (List.getElem?_eq_some_iff.1 hk).1; omega
  have f1 : ∃ b1, A = some ⟨b1, 0, none⟩ := by
    rcases h2.2 with ⟨e, e0⟩ | ⟨b, cap, cur, e, _⟩
    · omega
    · injection e with e; exact ⟨b, e⟩
  have f2 : ∃ b1, B = some ⟨b1, 0, none⟩ := by
    rcases h3.2 with ⟨e, e0⟩ | ⟨b, cap, cur, e, _⟩
    · omega
    · injection e with e; exact ⟨b, e⟩
  obtain ⟨b1, rfl⟩ := f1
  obtain ⟨b2, rfl⟩ := f2
  obtain ⟨b1', o1, e3, _, hl1⟩ := q3 hj
  obtain ⟨b2', o2, e4, _, hl2⟩ := r3 hj
  injection e3 with e3
  injection e3 with e31 e32
  injection e4 with e4
  injection e4 with e41 e42
  subst e31 e32 e41 e42
  have g1 := hl1 j (.int .i64 k.1) (by rw [List.getElem?_map, hk]; rfl)
  have g2 := hl2 j (.string (strOf k.2)) (by rw [List.getElem?_map, hk]; rfl)
  rw [Nat.zero_add] at g1 g2
  exact ⟨b1, b2, rfl, rfl, g1, g2⟩

set_option maxRecDepth 100000 in
set_option maxHeartbeats 1000000 in
theorem nr_find (S : Nat → Prop) (g : Nat) (l : List Key) (p : Int) (bs : List UInt8) (v : Value) (w : World) (P : Nat → Prop) (hN : Ntr w S g l) (hv : RdP w P 1 v bs.length (bs.map bv)) :
    Calls Try.prog 37 #[.pointer (some ⟨g, 0, none⟩), .int .i64 p, v] w fun e w' => e = .returned (.tuple #[.int .i64 (num l (p, bs)), .bool (decide ((p, bs) ∈ l))]) ∧ w' = w := by
  obtain ⟨A, B, c, d, c0, c1, q1, q2, q3, q4, hcell⟩ := hN.slices
  unfold maxLen at q3 q4
  obtain ⟨n, hn⟩ : ∃ n, l.length = n := ⟨_, rfl⟩
  rw [hn] at c0 c1 q1 q2
  have Hn := Lib.hid hn
  have HV := Lib.hid hv
  have Hcell := Lib.hid hcell
  clear hN hv hn hcell
  go_enter Try.func37, Try.ntmps37
  go_wp2_with (refine list_val rfl (.string (strOf bs)) (exec_str (.tmp 10) rfl _ bs HV.out rfl) ?_)
  go_loopw [9] (fun i wr => ∃ k : Nat, i = .int .i64 (k : Int) ∧ k ≤ n ∧ Hid (∀ j, j < k → l[j]? ≠ some (p, bs)) ∧ wr = w) (fun i _ => n - (intOf i).toNat)
  case atStart => exact ⟨0, rfl, Nat.zero_le _, Lib.hid (fun j hj => by omega), rfl⟩
  case round =>
    obtain ⟨k, rfl, hk, H0, rfl⟩ := hrel
    by_cases hlt : k < n
    · obtain ⟨x, hx⟩ : ∃ x, l[k]? = some x := ⟨l[k]'(by rw [Hn.out]; exact hlt), List.getElem?_eq_getElem (by rw [Hn.out]; exact hlt)⟩
      obtain ⟨b1, b2, rfl, rfl, g1, g2⟩ := Hcell.out k x hx
      have Hx := Lib.hid hx
      clear hx
      by_cases h1 : x.1 = p
      · have e1 : (x.1 == p) = true := by simpa using h1
        by_cases h2 : strOf x.2 = strOf bs
        · have e2 : ((strOf x.2).toList == (strOf bs).toList) = true := by rw [h2]; simp
          have hxe : x = (p, bs) := Prod.ext h1 (strOf_inj h2)
          obtain ⟨m1, m2⟩ := num_hit H0.out (by rw [Hx.out, hxe])
          have e3 : num l (p, bs) = (k : Int) + 1 := by simp [num, m1, m2]
          have Hm := Lib.hid (And.intro m1 e3)
          clear hxe m1 m2 h1 h2 e3
          go_wp2_with fail
          go_ret2
          exact ⟨by rw [Hm.out.2, decide_eq_true Hm.out.1]; rfl, by first | rfl | trivial⟩
        · have e2 : ((strOf x.2).toList == (strOf bs).toList) = false := strOf_ne h2
          have Hne : Hid (some x ≠ some (p, bs)) := Lib.hid (fun h => h2 (by injection h with h; rw [h]))
          clear h1 h2
          go_wp2_with fail
          go_roundw
          case rel => exact ⟨k + 1, by go_num, by omega, Lib.hid (fun j hj => by
            by_cases hjk : j = k
            · subst hjk; rw [Hx.out]; exact Hne.out
            · exact H0.out j (by omega)), by first | rfl | trivial⟩
          case measure => simp [intOf]; omega
      · have e1 : (x.1 == p) = false := by simpa using h1
        have Hne : Hid (some x ≠ some (p, bs)) := Lib.hid (fun h => h1 (by injection h with h; rw [h]))
        clear h1
        go_wp2_with fail
        go_roundw
        case rel => exact ⟨k + 1, by go_num, by omega, Lib.hid (fun j hj => by
          by_cases hjk : j = k
          · subst hjk; rw [Hx.out]; exact Hne.out
          · exact H0.out j (by omega)), by first | rfl | trivial⟩
        case measure => simp [intOf]; omega
    · have d1 : decide ((k : Int) < (n : Int)) = false := by simp; omega
      go_wp2_with fail
      go_ret2
      have hm := numk_end (l := l) (x := (p, bs)) (fun j hj => H0.out j (by rw [Hn.out] at hj; omega))
      exact ⟨by simp [num, hm], rfl⟩
set_option maxRecDepth 100000 in
theorem chk_out {l : List Key} {k : Key} {s : Int} (h : s < 1 ∨ (l.length : Int) < s) : (decide (k ∈ l) && decide (num l k = s)) = false := by
  by_cases hm : k ∈ l
  · have := List.idxOf_lt_length_iff.2 hm
    have : num l k ≠ s := by simp only [num, hm, if_true]; omega
    simp [this]
  · simp [hm]
set_option maxRecDepth 100000 in
theorem chk_at {l : List Key} {k x : Key} {j : Nat} (hd : l.Nodup) (hx : l[j]? = some x) : (decide (k ∈ l) && decide (num l k = (j : Int) + 1)) = decide (x = k) := by
  obtain ⟨hj, he⟩ := List.getElem?_eq_some_iff.1 hx
  by_cases hxk : x = k
  · have hm : k ∈ l := by rw [← hxk, ← he]; exact List.getElem_mem hj
    have hi : l.idxOf k = j := by rw [← hxk, ← he]; exact hd.idxOf_getElem j hj
    simp [num, hm, hi, hxk]
  · rw [decide_eq_false hxk]
    by_cases hm : k ∈ l
    · have h1 : num l k ≠ (j : Int) + 1 := by
        simp only [num, hm, if_true]
        intro h
        have h2 : l.idxOf k = j := by omega
        have hlt := List.idxOf_lt_length_iff.2 hm
        have h3 : l[l.idxOf k] = k := List.getElem_idxOf hlt
        simp only [h2] at h3
        exact hxk (he.symm.trans h3)
      simp [h1]
    · simp [hm]

end Go.Proofs.Ytnlnkcljehafkaa
