/- The walk of the law CodeRows. -/
import Derived.Test.YtekpnihdbfgcdaaWakes1
import Derived.Test.YtekpnihdbfgcdaaOpen
import Derived.Test.YtekpnihdbfgcdaaOwn
namespace Go.Proofs.Ytekpnihdbfgcdaa.codeRows
open Go.RowKit
set_option linter.unusedVariables false

theorem intsE : Elem Try.prog 35 3 1 8 := ⟨Try.underlying35, by kernel_rfl, by decide⟩

/-- The bytes of numbers, one behind the other. -/
def flat (ws : List Nat) : List UInt8 := ws.flatMap Psp.num

theorem flat_snoc (ws : List Nat) (n : Nat) : flat (ws ++ [n]) = flat ws ++ Psp.num n := by simp [flat]

theorem flat_at {ws : List Nat} (h : ∀ n ∈ ws, n < 1099511627776) {j : Nat} (hj : j < ws.length) :
    takeAt (flat ws) ((flat (ws.take j)).length : Nat) = some (ws[j], (Psp.num ws[j]).length) ∧ (flat (ws.take (j + 1))).length = (flat (ws.take j)).length + (Psp.num ws[j]).length := by
  have e : ws = ws.take j ++ ws[j] :: ws.drop (j + 1) := by rw [List.getElem_cons_drop, List.take_append_drop]
  have e2 : flat ws = flat (ws.take j) ++ (Psp.num ws[j] ++ flat (ws.drop (j + 1))) := by
    show ws.flatMap Psp.num = _
    conv => lhs; rw [e]
    rw [List.flatMap_append, List.flatMap_cons]; rfl
  refine ⟨?_, ?_⟩
  · unfold takeAt
    rw [if_neg (by omega), Int.toNat_natCast, e2, List.drop_left]
    exact Psp.take_num _ (h _ (List.getElem_mem hj))
  · rw [List.take_succ_eq_append_getElem hj, flat_snoc, List.length_append]

structure Inv (B : Nat) (w0 wr : World) (k : Nat) (ws : List Nat) (b want : Value) : Prop where
  ob : wr.ownsRow B 5 1 b (flat ws).length ((flat ws).map bv)
  ow : wr.ownsRow B 3 1 want ws.length (ws.map fun (n : Nat) => iv (n : Int))
  len : ws.length ≤ k
  size : (flat ws).length ≤ 6 * k
  lt : ∀ n ∈ ws, n < 1099511627776
  bel : Below B w0 wr

theorem Inv.skip {B : Nat} {w0 wr : World} {k : Nat} {ws : List Nat} {b want : Value} (h : Inv B w0 wr k ws b want) : Inv B w0 wr (k + 1) ws b want :=
  ⟨h.ob, h.ow, by have := h.len; omega, by have := h.size; omega, h.lt, h.bel⟩

theorem Inv.put {w0 wr w1 w2 w3 : World} {k N : Nat} {ws : List Nat} {b want b' want' : Value} (h : Inv w0.heap.size w0 wr k ws b want) (hN : N < 1099511627776) (hb1 : Below wr.heap.size wr w1)
    (o1 : w2.ownsRow w0.heap.size 5 1 b' ((flat ws).length + (Psp.num N).length) ((flat ws).map bv ++ (Psp.num N).map bv)) (g1 : w1.grownBy w2 b.ownBlock)
    (o2 : w3.ownsRow w0.heap.size 3 1 want' (ws.length + 1) ((ws.map fun (n : Nat) => iv (n : Int)) ++ [iv (N : Int)])) (g2 : w2.grownBy w3 want.ownBlock) : Inv w0.heap.size w0 w3 (k + 1) (ws ++ [N]) b' want' := by
  have ob1 := own_below h.ob hb1
  have ow1 := own_below h.ow hb1
  have ow2 := ow1.kept g1 (own_apart ow1 ob1 (by decide))
  have s0 := h.bel.size
  have s1 := hb1.size
  have s2 := g1.size
  have n6 := Psp.num_len6 hN
  refine ⟨?_, ?_, ?_, ?_, ?_, ?_⟩
  · rw [flat_snoc, List.length_append, List.map_append]
    exact o1.kept g2 (own_apart o1 ow2 (by decide))
  · rw [List.length_append, List.map_append]; simpa using o2
  · have := h.len; simp; omega
  · rw [flat_snoc, List.length_append]; have := h.size; omega
  · intro n hn
    rcases List.mem_append.1 hn with hn | hn
    · exact h.lt n hn
    · simp at hn; omega
  · exact (((h.bel.trans (hb1.mono s0)).grown g1 (by omega) (own_lt ob1)).grown g2 (by omega) (own_lt ow2))

theorem walk (v : Value) (l : List Int) (w : World) (hr : Rd w w.heap.size 1 v l.length (l.flatMap fun n => [iv n])) (hl : ∀ n ∈ l, isI64 n) :
    Calls Try.prog 11 #[v] w fun e w' => e = .returned (.bool true) ∧ Below w.heap.size w w' := by
  rw [flat_one] at hr
  obtain ⟨hrl, A, c, rfl, hc1, hc2, hcell⟩ := hr
  obtain ⟨len, hlen⟩ : ∃ len, l.length = len := ⟨_, rfl⟩
  rw [hlen] at hcell hc1 ⊢
  unfold maxLen at hc2
  have Hlen := Lib.hid hlen
  have Hl := Lib.hid hl
  have Hcell := Lib.hid hcell
  clear hlen hl hrl hcell
  go_enter Try.func11, Try.ntmps11
  go_wp2
  go_loopw [3, 4, 5] (fun b want i wr => ∃ (k : Nat) (ws : List Nat), i = .int .i64 (k : Int) ∧ k ≤ len ∧ k ≤ 60 ∧ Inv w.heap.size w wr k ws b want) (fun _ _ i _ => 60 - (intOf i).toNat)
  case atStart => exact ⟨0, [], rfl, Nat.zero_le _, Nat.zero_le _, World.ownsRow_nil _ _ _ _, World.ownsRow_nil _ _ _ _, Nat.le_refl _, by simp [flat], fun n h => by simp at h, Below.refl _ _⟩
  case round =>
    obtain ⟨k, ws, rfl, hk, hk60, hI⟩ := hrel
    have HI := Lib.hid hI
    have hs0 := hI.bel.size
    have hwl := hI.len
    have hfs := hI.size
    clear hI
    by_cases hlt : k < len ∧ k < 60
    · obtain ⟨hlt, hlt60⟩ := hlt
      obtain ⟨b, o, hAe, hb, hlies⟩ := Hcell.out (by omega)
      subst hAe
      have hx0 : k < l.length := by have := Hlen.out; omega
      have hc := ((hlies.keep (HI.out.bel.block b hb)).at_ (j := k) (by simpa using hx0))
      obtain ⟨x, hx⟩ : ∃ x, l[k] = x := ⟨_, rfl⟩
      have hx64 : isI64 x := Hl.out x (by rw [← hx]; exact List.getElem_mem hx0)
      obtain ⟨hx1, hx2⟩ := hx64
      simp only [List.getElem_map, hx, iv] at hc
      clear hlies hx
      by_cases hin : 0 ≤ x ∧ x < 1099511627776
      · obtain ⟨N, hN⟩ := Int.eq_ofNat_of_zero_le hin.1
        obtain ⟨hin0, hin1⟩ := hin
        have HN := Lib.hid hN
        clear hN
        go_wp2_with fail
        refine (number_ok _ _ hin0 hin1).mono ?_
        rintro e w1 ⟨v1, rfl, ho1, hb1⟩
        have hN : x.toNat = N := by have := HN.out; omega
        rw [hN] at ho1
        have Ho1 := Lib.hid (Rd.of_own ho1)
        have n6 := Psp.num_len6 (show N < 1099511627776 by omega)
        have hc' : w1.cell? ⟨b, o + k, none⟩ = some (.int .i64 x) := (hb1.cell (p := ⟨b, o + k, none⟩) (by simp; omega)).trans hc
        have hs1 := hb1.size
        have ob1 := Lib.hid (own_below HI.out.ob hb1)
        clear ho1 hc hN
        have ow1 := Lib.hid (own_below HI.out.ow hb1)
        go_wp2_with (first | (at_builtin; refine wpList_app bytesE rfl _ _ rfl w.heap.size u3 _ _ rfl ob1.out _ v1 _ _ rfl Ho1.out (by simp [bv, Value.oneCell']) (by unfold maxLen; omega) (by omega) (by omega) ?_; intro b' w2 o2 g2 _; have c2 := (own_far ob1.out g2 (o := o + k) hb (by omega)).trans hc'; have ow2 := Lib.hid (ow1.out.kept g2 (own_apart ow1.out ob1.out (by decide))); have hs2 := g2.size) | (at_builtin; refine wpList_app1 intsE rfl _ _ rfl w.heap.size u4 _ _ rfl ow2.out _ rfl rfl (by simp [Value.oneCell']) (by omega) (by omega) (by omega) ?_; intro want' w3 o3 g3 _ _))
        go_roundw
        case rel => exact ⟨k + 1, ws ++ [N], by go_num, by omega, by omega, Inv.put HI.out (by have := HN.out; omega) hb1 o2 g2 (by rw [← HN.out]; exact o3) g3⟩
        case measure => simp [intOf]; omega
      · have hno : x < 0 ∨ 1099511627776 ≤ x := by omega
        have Hno := Lib.hid hno
        clear hno
        go_wp2_with (go_at_call 36; refine (number_no _ _ Hno.out).mono ?_; rintro e w' ⟨rfl, rfl⟩)
        go_roundw
        case rel => exact ⟨k + 1, ws, by go_num, by omega, by omega, HI.out.skip⟩
        case measure => simp [intOf]; omega
    · obtain ⟨Ab, cb, hub, hcb1, hcb2, hxx⟩ := own_slice HI.out.ob
      clear hxx
      obtain ⟨Aw, cw, huw, hcw1, hcw2, hxx⟩ := own_slice HI.out.ow
      clear hxx
      subst hub
      subst huw
      have RB := Lib.hid (Rd.of_own HI.out.ob)
      have hend : len ≤ k ∨ (k < len ∧ 60 ≤ k) := by omega
      clear hlt
      rcases hend with hkl | ⟨hkl, h60⟩
      all_goals
        go_wp2
        go_loop [8, 47] (fun at_ j => ∃ q : Nat, j = .int .i64 (q : Int) ∧ q ≤ ws.length ∧ at_ = .int .i64 ((flat (ws.take q)).length : Nat)) (fun _ j => ws.length - (intOf j).toNat)
        case atStart => exact ⟨0, rfl, Nat.zero_le _, by simp [flat]⟩
        case round =>
          obtain ⟨q, rfl, hq, rfl⟩ := hrel
          by_cases hqn : q < ws.length
          · obtain ⟨gw, hge, hqx, hcl⟩ := own_cell HI.out.ow hqn
            subst hge
            obtain ⟨ht, hnext⟩ := flat_at HI.out.lt hqn
            have hpos := Psp.num_pos ws[q]
            obtain ⟨N, hN⟩ : ∃ N, ws[q] = N := ⟨_, rfl⟩
            obtain ⟨p0, hp0⟩ : ∃ p, (flat (ws.take q)).length = p := ⟨_, rfl⟩
            obtain ⟨p1, hp1⟩ : ∃ p, (flat (ws.take (q + 1))).length = p := ⟨_, rfl⟩
            simp only [List.getElem_map, hN, iv] at hcl
            rw [hN] at ht hnext hpos
            rw [hp0] at ht hnext ⊢
            rw [hp1] at hnext
            have hfl := takeAt_bd ht
            have Ht := Lib.hid ht
            have Hnext := Lib.hid hnext
            have Hp1 := Lib.hid hp1
            have hp01 : p0 < p1 := by omega
            have hp1c : (p0 : Int) + ((Psp.num N).length : Int) = (p1 : Int) := by omega
            have hflc : (flat ws).length ≤ 360 := by omega
            have hp0b : p0 ≤ 360 := by omega
            have hNl : (Psp.num N).length ≤ 360 := by omega
            clear ht hnext hp1 hp0 hN hfl
            go_wp2_with (go_at_call 41; refine (taken_yes _ _ _ _ N _ _ RB.out (by omega) Ht.out).mono ?_; rintro e w' ⟨rfl, rfl⟩)
            go_round
            case rel => exact ⟨q + 1, by go_num, by omega, by rw [Hp1.out]⟩
            case measure => simp [intOf]; omega
          · obtain rfl : q = ws.length := by omega
            rw [List.take_length]
            have hno : takeAt (flat ws) ((flat ws).length : Nat) = none := by
              unfold takeAt
              rw [if_neg (by omega), List.drop_eq_nil_of_le (by omega)]; rfl
            have Hno := Lib.hid hno
            clear hno
            go_wp2_with (first | (go_at_call 41; refine (taken_no _ _ _ _ _ RB.out (by omega) (by omega) Hno.out).mono ?_; rintro e w' ⟨rfl, rfl⟩) | (go_at_call 39; refine (wakes1 _).mono ?_; rintro e w' ⟨rfl, hb⟩))
            go_ret
            exact ⟨rfl, HI.out.bel.trans (hb.mono hs0)⟩
end Go.Proofs.Ytekpnihdbfgcdaa.codeRows
