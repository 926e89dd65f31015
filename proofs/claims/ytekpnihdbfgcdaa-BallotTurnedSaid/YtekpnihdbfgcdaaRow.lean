/- A quorum's row of votes: what the laws' function row makes. -/
import Derived.Test.YtekpnihdbfgcdaaSet
import Derived.Test.YtekpnihdbfgcdaaVote
import Derived.Deep.CutBlock
namespace Psp
theorem cnt_all (s : List Bool) : ∀ (k : Nat), k ≤ s.length → (∀ j, j < k → s[j]? = some true) → k ≤ s.countP id := by
  induction s with
  | nil => intro k h _; simpa using h
  | cons b s ih =>
    intro k hk h
    cases k with
    | zero => omega
    | succ k =>
      have h0 := h 0 (by omega)
      simp at h0
      subst h0
      have := ih k (by simpa using hk) (fun j hj => by have := h (j + 1) (by omega); rwa [List.getElem?_cons_succ] at this)
      simp; omega

theorem cnt_not (l : List Bool) : (l.map (! ·)).countP id + l.countP id = l.length := by
  induction l with
  | nil => rfl
  | cons b l ih => cases b <;> simp at ih ⊢ <;> omega

theorem cnt_set_take {s : List Bool} {n j : Nat} (hj : j < n) (h : s[j]? = some false) : ((s.set j true).take n).countP id = (s.take n).countP id + 1 := by
  rw [List.take_set]
  exact cnt_set _ j (by rw [List.getElem?_take, if_pos hj, h])

/-- The numbers of a row: those below n that are not in s. -/
def outs (s : List Bool) (n : Nat) : List Int := members ((s.map (! ·)).take n) 0

theorem outs_step {s : List Bool} {k : Nat} (h : k < s.length) : outs s (k + 1) = outs s k ++ (if s[k] = true then [] else [(k : Int)]) := by
  unfold outs
  rw [members_take (by simpa using h), List.getElem_map]
  cases s[k] <;> simp

theorem outs_len {s : List Bool} {n : Nat} (h : n ≤ s.length) : (outs s n).length + (s.take n).countP id = n := by
  unfold outs
  rw [members_len, ← List.map_take]
  have := cnt_not (s.take n)
  rw [List.length_take] at this
  omega

theorem upTo_of {n : Int} : ∀ (l : List Int) (z : Int), l.Pairwise (· < ·) → (∀ m ∈ l, z < m ∧ m < n) → upTo n z l = true
  | [], _, _, _ => rfl
  | x :: l, z, hp, h => by
    have hx := h x (by simp)
    rw [upTo, if_neg (by omega)]
    obtain ⟨h1, h2⟩ := List.pairwise_cons.1 hp
    exact upTo_of l x h2 fun m hm => ⟨h1 m hm, (h m (by simp [hm])).2⟩

theorem outs_rise (s : List Bool) (n : Nat) : (outs s n).Pairwise (· < ·) := members_sorted _ _
theorem outs_bd {s : List Bool} {n : Nat} {m : Int} (h : m ∈ outs s n) : 0 ≤ m ∧ m < n := by
  have := members_bd _ _ _ h
  rw [List.length_take] at this
  omega

theorem outs_rising {s : List Bool} {f : Int} {n : Nat} (h1 : 1 ≤ f) (h2 : f ≤ 4) (hn : (n : Int) = 3 * f + 1) (hs : n ≤ s.length) (hc : ((s.take n).countP id : Int) = f) : rising (outs s n) f = true := by
  have hl := outs_len hs
  have e1 : quorum f = 2 * f + 1 := by unfold quorum; rw [if_pos ⟨h1, h2⟩]
  have e2 : nodes f = n := by unfold nodes; rw [if_pos ⟨h1, h2⟩, hn]
  have e3 : may f = true := (may_iff f).2 ⟨h1, h2⟩
  unfold rising
  rw [e3, e1, e2, Bool.true_and, Bool.and_eq_true, decide_eq_true_eq]
  exact ⟨by omega, upTo_of _ _ (outs_rise _ _) fun m hm => by have := outs_bd hm; omega⟩
end Psp
namespace Go.Proofs.Ytekpnihdbfgcdaa
open Go.RowKit
set_option linter.unusedVariables false

/-- Votes of these nodes, sealed 1. -/
def votesOf (ns : List Int) : List Value := (ns.map fun m => (m, (1 : Int))).flatMap vv

theorem votesOf_snoc (ns : List Int) (m : Int) : votesOf (ns ++ [m]) = votesOf ns ++ [iv m, iv 1] := by simp [votesOf, vv]
theorem votesOf_len (ns : List Int) : (votesOf ns).length = ns.length * 2 := by rw [votesOf, flat_len (k := 2) (fun _ => rfl), List.length_map]

theorem votesE3 : Elem Try.prog 27 51 2 16 := ⟨Try.underlying27, by kernel_rfl, by decide⟩

/-- What the first two loops keep: so many are still to leave out. -/
structure Left (w0 wr : World) (n : Nat) (f left : Int) (s : List Bool) : Prop where
  len : s.length = 13
  row : Bools wr w0.heap.size 29 s
  cnt : ((s.take n).countP id : Int) + left = f
  pos : 0 ≤ left
  bel : Below w0.heap.size w0 wr

theorem Left.put {w0 wr : World} {n : Nat} {f left : Int} {s : List Bool} (h : Left w0 wr n f left s) {j : Nat} (hj : j < n) (hn : n ≤ 13) (hs : s.getD j false = false) (hl : 0 < left) :
    Left w0 (wr.setCell ⟨w0.heap.size, j, none⟩ (.bool true)) n f (left - 1) (s.set j true) := by
  have hl13 := h.len
  have hsj : s[j]? = some false := by rw [List.getD_eq_getElem?_getD, List.getElem?_eq_getElem (by omega)] at hs; rw [List.getElem?_eq_getElem (by omega)]; simpa using hs
  exact ⟨by simpa using h.len, h.row.set j true, by rw [cnt_set_take' hj hsj]; have := h.cnt; omega, by omega, h.bel.setCell (Nat.le_refl _) _⟩
where cnt_set_take' {s : List Bool} {n j : Nat} (hj : j < n) (h : s[j]? = some false) : ((s.set j true).take n).countP id = (s.take n).countP id + 1 := Psp.cnt_set_take hj h

theorem own_more {w : World} {base base' k n : Nat} {e : TypeId} {v : Value} {xs : List Value} (h : w.ownsRow base e k v n xs) (hb : base' ≤ base) : w.ownsRow base' e k v n xs := by
  refine ⟨h.1, h.2.imp id ?_⟩
  rintro ⟨g, cap, cur, e1, h1, r⟩
  exact ⟨g, cap, cur, e1, by omega, r⟩

set_option maxHeartbeats 1000000 in
theorem row_any (f : Int) (v : Value) (l : List Int) (w : World) (f1 : 1 ≤ f) (f2 : f ≤ 4) (hr : Rd w w.heap.size 1 v l.length (l.map iv)) (hl : ∀ n ∈ l, isI64 n) :
    Calls Try.prog 43 #[.int .i64 f, v] w fun e w' => ∃ (v' : Value) (ns : List Int), e = .returned v' ∧ w'.ownsRow w.heap.size 51 2 v' ns.length (votesOf ns) ∧ Psp.rising ns f = true ∧ Below w.heap.size w w' := by
  have hn' : Psp.nodes f = 3 * f + 1 := by unfold Psp.nodes; rw [if_pos ⟨by omega, by omega⟩]
  have hq' : Psp.quorum f = 2 * f + 1 := by unfold Psp.quorum; rw [if_pos ⟨by omega, by omega⟩]
  obtain ⟨n, hn⟩ : ∃ n : Nat, (n : Int) = 3 * f + 1 := ⟨(3 * f + 1).toNat, by omega⟩
  have n13 : n ≤ 13 := by omega
  have Hn := Lib.hid hn
  rw [← hn] at hn'
  have hnq : (n : Int) - (2 * f + 1) = f := by omega
  clear hn
  obtain ⟨hrl, A, c, rfl, hc1, hc2, hcell⟩ := hr
  obtain ⟨len, hlen⟩ : ∃ len, l.length = len := ⟨_, rfl⟩
  rw [hlen] at hcell hc1 ⊢
  unfold maxLen at hc2
  have Hlen := Lib.hid hlen
  have Hl := Lib.hid hl
  have Hcell := Lib.hid hcell
  clear hlen hl hrl hcell
  have hst : Left w (w.alloc (.cells (Array.replicate 13 (.bool false)) 29)) n f f (List.replicate 13 false) := ⟨rfl, Bools.new _ _, by rw [List.take_replicate, List.countP_replicate]; show ((0 : Nat) : Int) + f = f; omega, by omega, (Below.refl _ _).alloc (Nat.le_refl _) _⟩
  have Hst := Lib.hid hst
  clear hst
  go_enter Try.func43, Try.ntmps43
  go_upto_block 0 with (first | (go_at_call 24; refine (r_nodes_any _ _).mono ?_; rintro e w' ⟨rfl, rfl⟩) | (go_at_call 26; refine (r_quorum_any _ _).mono ?_; rintro e w' ⟨rfl, rfl⟩))
  go_cut [7, 8, 9] from 13 (fun left i k wx => ∃ (z : Int) (s : List Bool), left = .int .i64 z ∧ Left w wx n f z s)
  case first =>
    go_wp2_with fail
    go_loopw [7, 8] (fun left i wr => ∃ (k : Nat) (z : Int) (s : List Bool), i = .int .i64 (k : Int) ∧ k ≤ len ∧ left = .int .i64 z ∧ Left w wr n f z s) (fun _ i _ => len - (intOf i).toNat)
    case atStart => exact ⟨0, f, _, rfl, Nat.zero_le _, rfl, Hst.out⟩
    case round =>
      obtain ⟨k, z, s, rfl, hk, rfl, hL⟩ := hrel
      have hz0 := hL.pos
      have hz1 : z ≤ f := by have := hL.cnt; omega
      have HL := Lib.hid hL
      clear hL
      by_cases hlt : k < len
      · by_cases hz : 0 < z
        · obtain ⟨b, o, hAe, hb, hlies⟩ := Hcell.out (by omega)
          subst hAe
          have hx0 : k < l.length := by have := Hlen.out; omega
          have hcy := ((hlies.keep (HL.out.bel.block b hb)).at_ (j := k) (by simpa using hx0))
          obtain ⟨y, hy⟩ : ∃ x, l[k] = x := ⟨_, rfl⟩
          obtain ⟨hy1, hy2⟩ := Hl.out y (by rw [← hy]; exact List.getElem_mem hx0)
          simp only [List.getElem_map, hy, iv] at hcy
          clear hlies hy
          have z0 := Psp.within_lo y n
          have z1 := Psp.within_hi y n (by omega)
          obtain ⟨m, hm⟩ : ∃ m, Psp.within y n = m := ⟨_, rfl⟩
          rw [hm] at z0 z1
          obtain ⟨j, hj⟩ : ∃ j, m.toNat = j := ⟨_, rfl⟩
          have hjn : j < n := by omega
          have hcj := HL.out.row.cell (j := j) (by rw [HL.out.len]; omega)
          have hfj := HL.out.row.frozen j
          cases hold : s.getD j false with
          | true =>
            rw [hold] at hcj
            go_wp2_with (go_at_call 20; refine (within_any _ _ _ (by omega) (by omega) (by omega) (by omega)).mono ?_; rintro e w' ⟨rfl, rfl⟩)
            go_roundw
            case rel => exact ⟨k + 1, z, s, by go_num, by omega, rfl, HL.out⟩
            case measure => simp [intOf]; omega
          | false =>
            rw [hold] at hcj
            go_wp2_with (go_at_call 20; refine (within_any _ _ _ (by omega) (by omega) (by omega) (by omega)).mono ?_; rintro e w' ⟨rfl, rfl⟩)
            go_roundw
            case rel => exact ⟨k + 1, z - 1, s.set j true, by go_num, by omega, rfl, HL.out.put hjn n13 hold hz⟩
            case measure => simp [intOf]; omega
        · go_wp2_with fail
          go_meet
          exact ⟨_, _, rfl, HL.out⟩
      · go_wp2_with fail
        go_meet
        exact ⟨_, _, rfl, HL.out⟩
  case rest =>
  obtain ⟨z0, s0, rfl, hL0⟩ := hcut
  have hz00 := hL0.pos
  have hz01 : z0 ≤ f := by have := hL0.cnt; omega
  have HL0 := Lib.hid hL0
  clear hL0
  go_upto_block 2 with fail
  go_cut [7, 10] from 13 (fun left k wx => ∃ (s : List Bool), Left w wx n f 0 s)
  case first =>
    go_wp2_with fail
    go_loopw [7, 10] (fun left i wr => ∃ (k z : Int) (s : List Bool), i = .int .i64 k ∧ -1 ≤ k ∧ k < n ∧ left = .int .i64 z ∧ Left w wr n f z s ∧ ∀ j : Nat, k < j → j < n → s[j]? = some true) (fun _ i _ => (intOf i + 1).toNat)
    case atStart => exact ⟨(n : Int) - 1, z0, s0, rfl, by omega, by omega, rfl, HL0.out, fun j h1 h2 => by omega⟩
    case round =>
      obtain ⟨k, z, s, rfl, hk0, hk1, rfl, hL, hall⟩ := hrel
      have hz0 := hL.pos
      have hz1 : z ≤ f := by have := hL.cnt; omega
      have HL := Lib.hid hL
      have Hall := Lib.hid hall
      clear hL hall
      by_cases hlt : 0 ≤ k
      · by_cases hz : 0 < z
        · obtain ⟨j, hj⟩ : ∃ j, k.toNat = j := ⟨_, rfl⟩
          have hjn : j < n := by omega
          have hcj := HL.out.row.cell (j := j) (by rw [HL.out.len]; omega)
          have hfj := HL.out.row.frozen j
          have hl13 := HL.out.len
          cases hold : s.getD j false with
          | true =>
            rw [hold] at hcj
            go_wp2_with fail
            go_roundw
            case rel =>
              refine ⟨k - 1, z, s, rfl, by omega, by omega, rfl, HL.out, fun j' h1 h2 => ?_⟩
              by_cases hje : j' = j
              · subst hje
                rw [List.getD_eq_getElem?_getD, List.getElem?_eq_getElem (by omega)] at hold
                rw [List.getElem?_eq_getElem (by omega)]; simpa using hold
              · exact Hall.out j' (by omega) h2
            case measure => simp [intOf]; omega
          | false =>
            rw [hold] at hcj
            go_wp2_with fail
            go_roundw
            case rel =>
              refine ⟨k - 1, z - 1, s.set j true, rfl, by omega, by omega, rfl, HL.out.put hjn n13 hold hz, fun j' h1 h2 => ?_⟩
              by_cases hje : j' = j
              · subst hje
                rw [List.getElem?_set_self (by omega)]
              · rw [List.getElem?_set_ne (by omega)]
                exact Hall.out j' (by omega) h2
            case measure => simp [intOf]; omega
        · go_wp2_with fail
          go_meet
          obtain rfl : z = 0 := by omega
          exact ⟨_, HL.out⟩
      · exfalso
        have hl13 := HL.out.len
        have h1 := Psp.cnt_all (s.take n) n (by rw [List.length_take]; omega) fun j hj => by rw [List.getElem?_take, if_pos hj]; exact Hall.out j (by omega) hj
        have h2 := HL.out.cnt
        have h3 := Hn.out
        omega
  case rest =>
  obtain ⟨s, hL⟩ := hcut
  have hl13 := hL.len
  have hsz := hL.bel.size
  have HL := Lib.hid hL
  clear hL
  go_wp2_with fail
  go_loopw [11, 12] (fun out i wr => ∃ (k : Nat), i = .int .i64 (k : Int) ∧ k ≤ n ∧ wr.ownsRow (w.heap.size + 1) 51 2 out (Psp.outs s k).length (votesOf (Psp.outs s k)) ∧ Bools wr w.heap.size 29 s ∧ Below w.heap.size w wr) (fun _ i _ => n - (intOf i).toNat)
  case atStart => exact ⟨0, rfl, Nat.zero_le _, World.ownsRow_nil _ _ _ _, HL.out.row, HL.out.bel⟩
  case round =>
    obtain ⟨k, rfl, hk, hown, hb, hbel⟩ := hrel
    have hlt0 := hb.lt
    by_cases hlt : k < n
    · have hcj := hb.cell (j := k) (by omega)
      have hst := Psp.outs_step (s := s) (k := k) (by omega)
      have hx : s[k]'(by omega) = s.getD k false := by simp [List.getD_eq_getElem?_getD, List.getElem?_eq_getElem (show k < s.length by omega)]
      rw [hx] at hst
      have hol : (Psp.outs s k).length ≤ 13 := by have := Psp.outs_len (s := s) (n := k) (by omega); omega
      cases hold : s.getD k false with
      | true =>
        rw [hold] at hcj hst
        have Hst2 := Lib.hid hst
        clear hst
        go_wp2_with fail
        go_roundw
        case rel => exact ⟨k + 1, by go_num, by omega, by rw [Hst2.out]; simpa using hown, hb, hbel⟩
        case measure => simp [intOf]; omega
      | false =>
        rw [hold] at hcj hst
        have Hst2 := Lib.hid hst
        clear hst
        go_wp2_with (at_builtin; refine wpList_app1 votesE3 rfl _ _ rfl (w.heap.size + 1) _ _ _ rfl hown _ rfl rfl (by simp [Value.oneCell']) (by omega) (by omega) (by omega) ?_; intro v' w' hown' hg' hbel' _)
        go_roundw
        case rel => exact ⟨k + 1, by go_num, by omega, by rw [Hst2.out]; simpa [votesOf_snoc, iv] using hown', hb.below hbel' (by omega), hbel.trans (hbel'.mono (by omega))⟩
        case measure => simp [intOf]; omega
    · obtain rfl : k = n := by omega
      go_wp2_with fail
      go_ret
      exact ⟨_, Psp.outs s k, rfl, own_more hown (by omega), Psp.outs_rising f1 f2 Hn.out (by omega) (by have := HL.out.cnt; omega), hbel⟩
end Go.Proofs.Ytekpnihdbfgcdaa
