/- Rows of votes: how they are read; Rising of both sides. -/
import Derived.Test.YtekpnihdbfgcdaaOpen
import Derived.Test.YtekpnihdbfgcdaaOwn
import Derived.Test.YtekpnihdbfgcdaaInts
namespace Psp

/-- The numbers rise, above 'last', below n. -/
def upTo (n : Int) : Int → List Int → Bool
  | _, [] => true
  | last, x :: l => if x ≤ last ∨ n ≤ x then false else upTo n x l

def rising (l : List Int) (f : Int) : Bool := may f && (decide ((l.length : Int) = quorum f) && upTo (nodes f) (-1) l)

end Psp
namespace Go.Proofs.Ytekpnihdbfgcdaa
open Go.RowKit Go.ChangeShapes
set_option linter.unusedVariables false

/-- A vote as cells. -/
def vv (v : Int × Int) : List Value := [iv v.1, iv v.2]

theorem opens_vote : Opens Try.prog 51 2 vv (fun v => isI64 v.1 ∧ isI64 v.2) := by
  refine ⟨by kernel_rfl, fun _ => rfl, by omega, fun enc w fuel cs x h => ?_⟩
  obtain ⟨y0, y1, n, rfl, hl, h0, h1⟩ := trod_struct2 Try.underlying51 h
  have hc : Try.prog.cellsOf 51 = 2 := by kernel_rfl
  have hc3 : Try.prog.cellsOf 3 = 1 := by kernel_rfl
  rw [hc] at hl
  match cs, hl with
  | [c0, c1], _ =>
    have h0' : DataW.trod enc Try.prog w 0 (fun _ => true) true n 3 [c0] = some y0 := by simpa [hc3] using h0
    have h1' : DataW.trod enc Try.prog w 0 (fun _ => true) true n 3 [c1] = some y1 := by simpa [hc3] using h1
    obtain ⟨m0, e0, _, w0⟩ := DataW.trod_int Try.underlying3 h0'
    obtain ⟨m1, e1, _, w1⟩ := DataW.trod_int Try.underlying3 h1'
    injection e0 with e0 _
    injection e1 with e1 _
    subst e0 e1
    exact ⟨(m0, m1), rfl, i64_bd w0, i64_bd w1⟩

theorem vote_cells {w : World} {b o : Nat} {l : List (Int × Int)} (h : Lies w b o (l.flatMap vv)) {k : Nat} (hk : k < l.length) :
    w.cell? ⟨b, o + k * 2, none⟩ = some (.int .i64 l[k].1) ∧ w.cell? ⟨b, o + k * 2 + 1, none⟩ = some (.int .i64 l[k].2) := by
  refine ⟨?_, ?_⟩
  · refine h (k * 2) _ ?_
    have := flat_get (f := vv) (k := 2) (fun _ => rfl) l k 0 (by omega)
    rw [Nat.add_zero] at this
    rw [this, List.getElem?_eq_getElem hk]; rfl
  · rw [Nat.add_assoc]
    refine h (k * 2 + 1) _ ?_
    rw [flat_get (f := vv) (k := 2) (fun _ => rfl) l k 1 (by omega), List.getElem?_eq_getElem hk]; rfl

theorem rising_any (l : List (Int × Int)) (v : Value) (f : Int) (w : World) (hr : Rd w w.heap.size 2 v l.length (l.flatMap vv)) (hl : ∀ a ∈ l, isI64 a.1 ∧ isI64 a.2) :
    Calls Try.prog 30 #[v, .int .i64 f] w fun e w' => e = .returned (.bool (Psp.rising (l.map (·.1)) f)) ∧ Below w.heap.size w w' := by
  obtain ⟨hrl, A, c, rfl, hc1, hc2, hcell⟩ := hr
  obtain ⟨len, hlen⟩ : ∃ len, l.length = len := ⟨_, rfl⟩
  unfold maxLen at hc2
  have hn := Psp.nodes_bd f
  have hq := Psp.quorum_bd f
  obtain ⟨n, hn'⟩ : ∃ n, Psp.nodes f = n := ⟨_, rfl⟩
  obtain ⟨q, hq'⟩ : ∃ n, Psp.quorum f = n := ⟨_, rfl⟩
  have hR : Psp.rising (l.map (·.1)) f = (Psp.may f && (decide ((len : Int) = q) && Psp.upTo n (-1) (l.map (·.1)))) := by unfold Psp.rising; rw [List.length_map, hlen, hn', hq']
  rw [hR, hlen]
  rw [hn'] at hn
  rw [hq'] at hq
  obtain ⟨hn0, hn1⟩ := hn
  obtain ⟨hq0, hq1⟩ := hq
  rw [hlen] at hcell hc1
  have Hlen := Lib.hid hlen
  have Hl := Lib.hid hl
  have Hcell := Lib.hid hcell
  clear hlen hl hrl hcell hR
  cases hmay : Psp.may f with
  | false =>
    rw [Bool.false_and]
    go_enter Try.func30, Try.ntmps30
    go_wp2_with (first | (go_at_call 53; refine (may_any _ _).mono ?_; rintro e w' ⟨rfl, rfl⟩) | (go_at_call 25; refine (b_quorum_any _ _).mono ?_; rintro e w' ⟨rfl, rfl⟩))
    go_ret
    exact ⟨rfl, Below.refl _ _⟩
  | true =>
    rw [Bool.true_and]
    by_cases hlq : (len : Int) = q
    · have hd : decide ((len : Int) = q) = true := decide_eq_true hlq
      rw [hd, Bool.true_and]
      obtain ⟨R, hR⟩ : ∃ R, Psp.upTo n (-1) (l.map (·.1)) = R := ⟨_, rfl⟩
      rw [hR]
      have HR := Lib.hid hR
      clear hR
      go_enter Try.func30, Try.ntmps30
      go_wp2_with (first | (go_at_call 53; refine (may_any _ _).mono ?_; rintro e w' ⟨rfl, rfl⟩) | (go_at_call 25; refine (b_quorum_any _ _).mono ?_; rintro e w' ⟨rfl, rfl⟩))
      go_loopw [5, 20] (fun last i wr => ∃ (k : Nat) (z : Int), i = .int .i64 (k : Int) ∧ k ≤ len ∧ last = .int .i64 z ∧ -1 ≤ z ∧ z ≤ 9223372036854775807 ∧ Psp.upTo n z ((l.map (·.1)).drop k) = R ∧ Below w.heap.size w wr) (fun _ i _ => len - (intOf i).toNat)
      case atStart => exact ⟨0, -1, rfl, Nat.zero_le _, rfl, by omega, by omega, HR.out, Below.refl _ _⟩
      case round =>
        obtain ⟨k, z, rfl, hk, rfl, hz0, hz1, hup, hbel⟩ := hrel
        have hs0 := hbel.size
        by_cases hlt : k < len
        · obtain ⟨b, o, hAe, hb, hlies⟩ := Hcell.out (by omega)
          subst hAe
          have hx0 : k < l.length := by have := Hlen.out; omega
          obtain ⟨hca, hcb⟩ := vote_cells (hlies.keep (hbel.block b hb)) hx0
          obtain ⟨⟨ha1, ha2⟩, hb1, hb2⟩ := Hl.out l[k] (List.getElem_mem hx0)
          rw [List.drop_eq_getElem_cons (by simpa using hx0), List.getElem_map, Psp.upTo] at hup
          generalize l[k].1 = x at *
          generalize l[k].2 = y at *
          have Hup := Lib.hid hup
          clear hup hlies
          by_cases h1 : x ≤ z
          · have d1 : decide (x ≤ z) = true := decide_eq_true h1
            go_wp2_with fail
            go_quiet ((go_at_call 21; exact Calls.quiet_of_same ((b_nodes_any _ _).mono fun _ _ h => ⟨h.1, h.2.symm⟩)))
            go_wp2_with fail
            go_ret
            refine ⟨by rw [← Hup.out, if_pos (Or.inl h1)]; rfl, below_drewN (hbel.alloc hs0 _) _⟩
          · have d1 : decide (x ≤ z) = false := decide_eq_false h1
            by_cases h2 : n ≤ x
            · have d2 : decide (n ≤ x) = true := decide_eq_true h2
              go_wp2_with fail
              go_quiet ((go_at_call 21; exact Calls.quiet_of_same ((b_nodes_any _ _).mono fun _ _ h => ⟨h.1, h.2.symm⟩)))
              go_wp2_with fail
              go_ret
              refine ⟨by rw [← Hup.out, if_pos (Or.inr h2)]; rfl, below_drewN (hbel.alloc hs0 _) _⟩
            · have d2 : decide (n ≤ x) = false := decide_eq_false h2
              go_wp2_with fail
              go_quiet ((go_at_call 21; exact Calls.quiet_of_same ((b_nodes_any _ _).mono fun _ _ h => ⟨h.1, h.2.symm⟩)))
              go_wp2_with fail
              go_roundw
              case rel => exact ⟨k + 1, x, by go_num, by omega, rfl, by omega, by omega, by rw [← Hup.out, if_neg (by omega)], below_drewN (hbel.alloc hs0 _) _⟩
              case measure => simp [intOf]; omega
        · obtain rfl : k = len := by omega
          rw [List.drop_eq_nil_of_le (by rw [List.length_map, Hlen.out]; exact Nat.le_refl _)] at hup
          have hRt : R = true := hup.symm
          clear hup
          subst hRt
          go_wp2_with fail
          go_ret
          exact ⟨rfl, hbel⟩
    · have hd : decide ((len : Int) = q) = false := decide_eq_false hlq
      rw [hd, Bool.false_and]
      go_enter Try.func30, Try.ntmps30
      go_wp2_with (first | (go_at_call 53; refine (may_any _ _).mono ?_; rintro e w' ⟨rfl, rfl⟩) | (go_at_call 25; refine (b_quorum_any _ _).mono ?_; rintro e w' ⟨rfl, rfl⟩))
      go_ret
      exact ⟨rfl, Below.refl _ _⟩

theorem may_zero (f : Int) : (Psp.nodes f == 0) = !Psp.may f := by
  unfold Psp.nodes Psp.may
  by_cases h1 : 1 ≤ f <;> by_cases h2 : f ≤ 4 <;> simp [h1, h2]
  omega

theorem r_rising_any (l : List (Int × Int)) (v : Value) (f : Int) (w : World) (hr : Rd w w.heap.size 2 v l.length (l.flatMap vv)) (hl : ∀ a ∈ l, isI64 a.1 ∧ isI64 a.2) :
    Calls Try.prog 31 #[v, .int .i64 f] w fun e w' => e = .returned (.bool (Psp.rising (l.map (·.1)) f)) ∧ Below w.heap.size w w' := by
  obtain ⟨hrl, A, c, rfl, hc1, hc2, hcell⟩ := hr
  obtain ⟨len, hlen⟩ : ∃ len, l.length = len := ⟨_, rfl⟩
  unfold maxLen at hc2
  have hn := Psp.nodes_bd f
  have hq := Psp.quorum_bd f
  have hm := may_zero f
  obtain ⟨n, hn'⟩ : ∃ n, Psp.nodes f = n := ⟨_, rfl⟩
  obtain ⟨q, hq'⟩ : ∃ n, Psp.quorum f = n := ⟨_, rfl⟩
  have hR : Psp.rising (l.map (·.1)) f = (Psp.may f && (decide ((len : Int) = q) && Psp.upTo n (-1) (l.map (·.1)))) := by unfold Psp.rising; rw [List.length_map, hlen, hn', hq']
  rw [hR, hlen]
  rw [hn'] at hn hm
  rw [hq'] at hq
  obtain ⟨hn0, hn1⟩ := hn
  obtain ⟨hq0, hq1⟩ := hq
  rw [hlen] at hcell hc1
  have Hlen := Lib.hid hlen
  have Hl := Lib.hid hl
  have Hcell := Lib.hid hcell
  clear hlen hl hrl hcell hR
  cases hmay : Psp.may f with
  | false =>
    rw [Bool.false_and]
    have n0 : n = 0 := by simpa [hmay] using hm
    clear hm
    go_enter Try.func31, Try.ntmps31
    go_wp2_with (first | (go_at_call 24; refine (r_nodes_any _ _).mono ?_; rintro e w' ⟨rfl, rfl⟩) | (go_at_call 26; refine (r_quorum_any _ _).mono ?_; rintro e w' ⟨rfl, rfl⟩))
    go_ret
    exact ⟨rfl, Below.refl _ _⟩
  | true =>
    rw [Bool.true_and]
    have n0 : n ≠ 0 := by simpa [hmay] using hm
    have n1 : 0 < n := by omega
    have hnb : (n == 0) = false := by simpa using n0
    clear hm n0
    by_cases hlq : (len : Int) = q
    · have hd : decide ((len : Int) = q) = true := decide_eq_true hlq
      rw [hd, Bool.true_and]
      obtain ⟨R, hR⟩ : ∃ R, Psp.upTo n (-1) (l.map (·.1)) = R := ⟨_, rfl⟩
      rw [hR]
      have HR := Lib.hid hR
      clear hR
      go_enter Try.func31, Try.ntmps31
      go_wp2_with (first | (go_at_call 24; refine (r_nodes_any _ _).mono ?_; rintro e w' ⟨rfl, rfl⟩) | (go_at_call 26; refine (r_quorum_any _ _).mono ?_; rintro e w' ⟨rfl, rfl⟩))
      go_loopw [5] (fun i wr => ∃ (k : Nat) (z : Int), i = .int .i64 (k : Int) ∧ k ≤ len ∧ -1 ≤ z ∧ (∀ p, p + 1 = k → ∃ hp : p < l.length, l[p].1 = z ∧ 0 ≤ z) ∧ (k = 0 → z = -1) ∧ Psp.upTo n z ((l.map (·.1)).drop k) = R ∧ Below w.heap.size w wr) (fun i _ => len - (intOf i).toNat)
      case atStart => exact ⟨0, -1, rfl, Nat.zero_le _, by omega, fun p h => by omega, fun _ => rfl, HR.out, Below.refl _ _⟩
      case round =>
        obtain ⟨k, z, rfl, hk, hz0, hz1, hz2, hup, hbel⟩ := hrel
        have hs0 := hbel.size
        by_cases hlt : k < len
        · obtain ⟨b, o, hAe, hb, hlies⟩ := Hcell.out (by omega)
          subst hAe
          have hx0 : k < l.length := by have := Hlen.out; omega
          have hlies' := hlies.keep (hbel.block b hb)
          obtain ⟨hca, hcb⟩ := vote_cells hlies' hx0
          obtain ⟨⟨ha1, ha2⟩, hb1, hb2⟩ := Hl.out l[k] (List.getElem_mem hx0)
          rw [List.drop_eq_getElem_cons (by simpa using hx0), List.getElem_map, Psp.upTo] at hup
          obtain ⟨x, hx⟩ : ∃ x, l[k].1 = x := ⟨_, rfl⟩
          rw [hx] at hca ha1 ha2 hup
          have Hup := Lib.hid hup
          have Hx := Lib.hid hx
          have Hz := Lib.hid hz1
          have Hlies := Lib.hid hlies'
          clear hup hlies hlies' hcb hb1 hb2 hx hz1
          by_cases h1 : x < 0
          · have d1 : decide (x < 0) = true := decide_eq_true h1
            go_wp2_with fail
            go_quiet ((go_at_call 24; exact Calls.quiet_of_same ((r_nodes_any _ _).mono fun _ _ h => ⟨h.1, h.2.symm⟩)))
            go_wp2_with fail
            go_ret
            refine ⟨by rw [← Hup.out, if_pos (Or.inl (by omega))]; rfl, below_drewN hbel _⟩
          · have d1 : decide (x < 0) = false := decide_eq_false h1
            by_cases h2 : n ≤ x
            · have d2 : decide (n ≤ x) = true := decide_eq_true h2
              go_wp2_with fail
              go_quiet ((go_at_call 24; exact Calls.quiet_of_same ((r_nodes_any _ _).mono fun _ _ h => ⟨h.1, h.2.symm⟩)))
              go_wp2_with fail
              go_ret
              refine ⟨by rw [← Hup.out, if_pos (Or.inr h2)]; rfl, below_drewN hbel _⟩
            · have d2 : decide (n ≤ x) = false := decide_eq_false h2
              have hnext : ∀ p, p + 1 = k + 1 → ∃ hp : p < l.length, l[p].1 = x ∧ 0 ≤ x := fun p hp => by
                obtain rfl : p = k := by omega
                exact ⟨hx0, Hx.out, by omega⟩
              have Hnext := Lib.hid hnext
              clear hnext
              by_cases hk0 : 0 < k
              · obtain ⟨p, hp⟩ : ∃ p, ((k : Int) - 1).toNat = p := ⟨_, rfl⟩
                obtain ⟨hpl, hpz, hz3⟩ := Hz.out p (by omega)
                have hcp := (vote_cells Hlies.out hpl).1
                rw [hpz] at hcp
                have d3 : decide (0 < (k : Int)) = true := by simp; omega
                by_cases h3 : x ≤ z
                · have d4 : decide (x ≤ z) = true := decide_eq_true h3
                  clear hpz hpl
                  go_wp2_with fail
                  go_quiet ((go_at_call 24; exact Calls.quiet_of_same ((r_nodes_any _ _).mono fun _ _ h => ⟨h.1, h.2.symm⟩)))
                  go_wp2_with fail
                  go_ret
                  refine ⟨by rw [← Hup.out, if_pos (Or.inl h3)]; rfl, below_drewN hbel _⟩
                · have d4 : decide (x ≤ z) = false := decide_eq_false h3
                  clear hpz hpl
                  go_wp2_with fail
                  go_quiet ((go_at_call 24; exact Calls.quiet_of_same ((r_nodes_any _ _).mono fun _ _ h => ⟨h.1, h.2.symm⟩)))
                  go_wp2_with fail
                  go_roundw
                  case rel => exact ⟨k + 1, x, by go_num, by omega, by omega, Hnext.out, fun h => by omega, by rw [← Hup.out, if_neg (by omega)], below_drewN hbel _⟩
                  case measure => simp [intOf]; omega
              · obtain rfl : k = 0 := by omega
                have hz3 := hz2 rfl
                rw [Nat.zero_mul, Nat.add_zero] at hca
                go_wp2_with fail
                go_quiet ((go_at_call 24; exact Calls.quiet_of_same ((r_nodes_any _ _).mono fun _ _ h => ⟨h.1, h.2.symm⟩)))
                go_wp2_with fail
                go_roundw
                case rel => exact ⟨1, x, by first | rfl | go_num, by omega, by omega, Hnext.out, fun h => by omega, by rw [← Hup.out, if_neg (by omega)], below_drewN hbel _⟩
                case measure => simp [intOf]; omega
        · obtain rfl : k = len := by omega
          rw [List.drop_eq_nil_of_le (by rw [List.length_map, Hlen.out]; exact Nat.le_refl _)] at hup
          have hRt : R = true := hup.symm
          clear hup hz1 hz2
          subst hRt
          go_wp2_with fail
          go_ret
          exact ⟨rfl, hbel⟩
    · have hd : decide ((len : Int) = q) = false := decide_eq_false hlq
      rw [hd, Bool.false_and]
      go_enter Try.func31, Try.ntmps31
      go_wp2_with (first | (go_at_call 24; refine (r_nodes_any _ _).mono ?_; rintro e w' ⟨rfl, rfl⟩) | (go_at_call 26; refine (r_quorum_any _ _).mono ?_; rintro e w' ⟨rfl, rfl⟩))
      go_ret
      exact ⟨rfl, Below.refl _ _⟩
end Go.Proofs.Ytekpnihdbfgcdaa
