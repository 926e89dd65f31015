/- The walk of the law BallotSets. -/
import Derived.Test.YtekpnihdbfgcdaaWakes4
import Derived.Test.YtekpnihdbfgcdaaOpen
import Derived.Test.YtekpnihdbfgcdaaSet
namespace Go.Proofs.Ytekpnihdbfgcdaa.ballotSets
open Go.RowKit
set_option linter.unusedVariables false

theorem Bools.later {w : World} {g : Nat} {t : TypeId} {s : List Bool} (h : Bools w g t s) (p : Later w) : Bools p.W g t s := h.below p.h h.lt

theorem two_new (w : World) (t t' : TypeId) : Bools ((w.alloc (.cells (Array.replicate 13 (.bool false)) t)).alloc (.cells (Array.replicate 13 (.bool false)) t')) w.heap.size t (List.replicate 13 false) ∧
    Bools ((w.alloc (.cells (Array.replicate 13 (.bool false)) t)).alloc (.cells (Array.replicate 13 (.bool false)) t')) (w.heap.size + 1) t' (List.replicate 13 false) := by
  refine ⟨?_, ?_⟩
  · exact (Bools.new w t).keep (heap_alloc_old _ _ (by simp))
  · have := Bools.new (w.alloc (.cells (Array.replicate 13 (.bool false)) t)) t'
    simpa using this

theorem put_new {s : List Bool} {x : Int} (h0 : 0 ≤ x) (h1 : x ≤ 12) (h : s.getD x.toNat false = false) : Psp.putB s x = true ∧ Psp.put s x = s.set x.toNat true := by
  have e : Psp.putB s x = true := by unfold Psp.putB; rw [h]; simp; omega
  exact ⟨e, by unfold Psp.put; rw [if_pos e]⟩
theorem put_old {s : List Bool} {x : Int} (h : s.getD x.toNat false = true) : Psp.putB s x = false ∧ Psp.put s x = s := by
  have e : Psp.putB s x = false := by unfold Psp.putB; rw [h]; simp
  exact ⟨e, by unfold Psp.put; rw [if_neg (by simp [e])]⟩
theorem put_out {s : List Bool} {x : Int} (h : x < 0 ∨ 12 < x) : Psp.putB s x = false ∧ Psp.put s x = s := by
  have e : Psp.putB s x = false := by unfold Psp.putB; rcases h with h | h <;> simp <;> omega
  exact ⟨e, by unfold Psp.put; rw [if_neg (by simp [e])]⟩

set_option maxRecDepth 100000 in
set_option maxHeartbeats 1000000 in
theorem walk (v : Value) (l : List Int) (w : World) (hr : Rd w w.heap.size 1 v l.length (l.flatMap fun n => [iv n])) (hl : ∀ n ∈ l, isI64 n) :
    Calls Try.prog 7 #[v] w fun e w' => e = .returned (.bool true) ∧ Below w.heap.size w w' := by
  rw [flat_one] at hr
  obtain ⟨hrl, A, c, rfl, hc1, hc2, hcell⟩ := hr
  obtain ⟨len, hlen⟩ : ∃ len, l.length = len := ⟨_, rfl⟩
  rw [hlen] at hcell hc1 ⊢
  unfold maxLen at hc2
  have Hlen := Lib.hid hlen
  have Hl := Lib.hid hl
  have Hcell := Lib.hid hcell
  have Hst := Lib.hid (two_new w 31 29)
  clear hlen hl hrl hcell
  go_enter Try.func7, Try.ntmps7
  go_wp2
  go_loopw [5, 6] (fun n i wr => ∃ (k : Nat) (s : List Bool), i = .int .i64 (k : Int) ∧ k ≤ len ∧ k ≤ 100 ∧ n = .int .i64 (s.countP id : Nat) ∧ s.length = 13 ∧ Bools wr w.heap.size 31 s ∧ Bools wr (w.heap.size + 1) 29 s ∧ Below w.heap.size w wr) (fun _ i _ => 100 - (intOf i).toNat)
  case atStart => exact ⟨0, List.replicate 13 false, rfl, Nat.zero_le _, Nat.zero_le _, rfl, rfl, Hst.out.1, Hst.out.2, ((Below.refl _ _).alloc (Nat.le_refl _) _).alloc (by simp) _⟩
  case round =>
    obtain ⟨k, s, rfl, hk, hk100, rfl, hs, hb1, hb2, hbel⟩ := hrel
    have hs0 := hbel.size
    by_cases hlt : k < len ∧ k < 100
    · obtain ⟨hlt, hlt100⟩ := hlt
      obtain ⟨b, o, hAe, hb, hlies⟩ := Hcell.out (by omega)
      subst hAe
      have hx0 : k < l.length := by have := Hlen.out; omega
      have hc := ((hlies.keep (hbel.block b hb)).at_ (j := k) (by simpa using hx0))
      obtain ⟨x, hx⟩ : ∃ x, l[k] = x := ⟨_, rfl⟩
      have hx64 : isI64 x := Hl.out x (by rw [← hx]; exact List.getElem_mem hx0)
      obtain ⟨hx1, hx2⟩ := hx64
      simp only [List.getElem_map, hx, iv] at hc
      clear hlies hx
      have hcnt := Psp.cnt_put hs x
      have hhas := Psp.has_put hs x
      have hle := Psp.cnt_le s
      obtain ⟨n, hn⟩ : ∃ n, s.countP id = n := ⟨_, rfl⟩
      rw [hn] at hcnt hle ⊢
      have hs' : (Psp.put s x).length = 13 := by rw [Psp.put_len, hs]
      by_cases hin0 : 0 ≤ x
      · by_cases hin1 : x ≤ 12
        · obtain ⟨j, hj⟩ : ∃ j, x.toNat = j := ⟨_, rfl⟩
          have hj13 : j < s.length := by omega
          have hcj := hb2.cell hj13
          cases hold : s.getD j false with
          | false =>
            rw [hold] at hcj
            obtain ⟨e1, e2⟩ := put_new hin0 hin1 (s := s) (by rw [hj]; exact hold)
            rw [hj] at e2
            simp only [e1, if_true] at hcnt
            go_wp2_with (go_at_call 32; refine (put_any s _ _ _ (by omega) (by omega) hs hb1).mono ?_; rintro e w1 ⟨rfl, hb1', honly⟩; have hc1 : w1.cell? ⟨b, o + k, none⟩ = some (.int .i64 x) := (World.cell?_of_block (w := wr) (a := ⟨b, o + k, none⟩) (honly.block b (by omega))).trans hc; have hb2' := hb2.only honly (by omega); have hcj1 := hb2'.cell hj13; rw [hold] at hcj1; have hfj1 := hb2'.frozen j)
            obtain ⟨w2, hw2⟩ : ∃ w2, w1.setCell ⟨w.heap.size + 1, j, none⟩ (.bool true) = w2 := ⟨_, rfl⟩
            have B1 : Bools w2 w.heap.size 31 (Psp.put s x) := by rw [← hw2]; exact hb1'.only (Only.setCell _ _ _ _) (by omega)
            have B2 : Bools w2 (w.heap.size + 1) 29 (Psp.put s x) := by rw [← hw2, e2]; exact hb2'.set j true
            have C2 : w2.cell? ⟨b, o + k, none⟩ = some (.int .i64 x) := by rw [← hw2]; exact (World.cell?_setCell_other _ _ _ _ (by simp only [ne_eq, Addr.mk.injEq]; omega)).trans hc1
            have D2 : Below w.heap.size w w2 := by rw [← hw2]; exact (hbel.trans (honly.below (Nat.le_refl _))).setCell (by simp) _
            rw [hw2]
            have CL := later_cell C2
            have hLen : Hid (∀ p : Later w2, Calls Try.prog 33 #[.pointer (some ⟨w.heap.size, 0, none⟩)] p.W fun e w' => e = .returned (.int .i64 ((n : Int) + 1)) ∧ Below p.W.heap.size p.W w') := Lib.hid fun p => (len_any (Psp.put s x) _ _ hs' (Bools.later B1 p)).mono fun e w' h => ⟨by first | (rw [h.1, hcnt]; done) | (rw [h.1, hcnt]; simp), h.2⟩
            have hHas : Hid (∀ p : Later w2, Calls Try.prog 34 #[.pointer (some ⟨w.heap.size, 0, none⟩), .int .i64 x] p.W fun e w' => e = .returned (.bool true) ∧ p.W = w') := Lib.hid fun p => (has_any (Psp.put s x) x _ _ hx1 hx2 hs' (Bools.later B1 p)).mono fun e w' h => ⟨by rw [h.1, hhas]; first | (simp; done) | (simp; omega), h.2⟩
            have HF := Lib.hid (And.intro B1 (And.intro B2 (And.intro D2 hcnt)))
            clear B1 B2 D2 hcnt hb1' hb2' honly hb1 hb2 hhas C2
            refine wp_region_later (by kernel_rfl) (by kernel_rfl) ?_
            repeat (first | go_big_quiet_step (first | (go_at_call 33; exact later_call _ (hLen.out _)) | (go_at_call 34; exact later_same _ (hHas.out _))) | quiet_step (first | (go_at_call 33; exact later_call _ (hLen.out _)) | (go_at_call 34; exact later_same _ (hHas.out _))))
            refine wpQuiet_nil ?_
            intro _ hw'
            obtain ⟨⟨w3, hb3⟩, hw'⟩ := hw'
            subst hw'
            obtain ⟨B1, B2, D2, hcnt⟩ := HF.out
            go_wp2
            go_roundw
            case rel => exact ⟨k + 1, Psp.put s x, by go_num, by omega, by omega, by rw [hcnt]; simp, hs', B1.below hb3 B1.lt, B2.below hb3 B2.lt, D2.trans (hb3.mono D2.size)⟩
            case measure => simp [intOf]; omega
          | true =>
            rw [hold] at hcj
            obtain ⟨e1, e2⟩ := put_old (s := s) (x := x) (by rw [hj]; exact hold)
            simp only [e1, Bool.false_eq_true, if_false, Nat.add_zero] at hcnt
            go_wp2_with (go_at_call 32; refine (put_any s _ _ _ (by omega) (by omega) hs hb1).mono ?_; rintro e w1 ⟨rfl, hb1', honly⟩; have hc1 : w1.cell? ⟨b, o + k, none⟩ = some (.int .i64 x) := (World.cell?_of_block (w := wr) (a := ⟨b, o + k, none⟩) (honly.block b (by omega))).trans hc; have hb2' := hb2.only honly (by omega))
            obtain ⟨w2, hw2⟩ : ∃ w2, w1 = w2 := ⟨_, rfl⟩
            have B1 : Bools w2 w.heap.size 31 (Psp.put s x) := by rw [← hw2]; exact hb1'
            have B2 : Bools w2 (w.heap.size + 1) 29 (Psp.put s x) := by rw [← hw2, e2]; exact hb2'
            have C2 : w2.cell? ⟨b, o + k, none⟩ = some (.int .i64 x) := by rw [← hw2]; exact hc1
            have D2 : Below w.heap.size w w2 := by rw [← hw2]; exact hbel.trans (honly.below (Nat.le_refl _))
            subst hw2
            have CL := later_cell C2
            have hLen : Hid (∀ p : Later w1, Calls Try.prog 33 #[.pointer (some ⟨w.heap.size, 0, none⟩)] p.W fun e w' => e = .returned (.int .i64 ((n : Int))) ∧ Below p.W.heap.size p.W w') := Lib.hid fun p => (len_any (Psp.put s x) _ _ hs' (Bools.later B1 p)).mono fun e w' h => ⟨by first | (rw [h.1, hcnt]; done) | (rw [h.1, hcnt]; simp), h.2⟩
            have hHas : Hid (∀ p : Later w1, Calls Try.prog 34 #[.pointer (some ⟨w.heap.size, 0, none⟩), .int .i64 x] p.W fun e w' => e = .returned (.bool true) ∧ p.W = w') := Lib.hid fun p => (has_any (Psp.put s x) x _ _ hx1 hx2 hs' (Bools.later B1 p)).mono fun e w' h => ⟨by rw [h.1, hhas]; first | (simp; done) | (simp; omega), h.2⟩
            have HF := Lib.hid (And.intro B1 (And.intro B2 (And.intro D2 hcnt)))
            clear B1 B2 D2 hcnt hb1' hb2' honly hb1 hb2 hhas C2
            refine wp_region_later (by kernel_rfl) (by kernel_rfl) ?_
            repeat (first | go_big_quiet_step (first | (go_at_call 33; exact later_call _ (hLen.out _)) | (go_at_call 34; exact later_same _ (hHas.out _))) | quiet_step (first | (go_at_call 33; exact later_call _ (hLen.out _)) | (go_at_call 34; exact later_same _ (hHas.out _))))
            refine wpQuiet_nil ?_
            intro _ hw'
            obtain ⟨⟨w3, hb3⟩, hw'⟩ := hw'
            subst hw'
            obtain ⟨B1, B2, D2, hcnt⟩ := HF.out
            go_wp2
            go_roundw
            case rel => exact ⟨k + 1, Psp.put s x, by go_num, by omega, by omega, by rw [hcnt], hs', B1.below hb3 B1.lt, B2.below hb3 B2.lt, D2.trans (hb3.mono D2.size)⟩
            case measure => simp [intOf]; omega
        · obtain ⟨e1, e2⟩ := put_out (s := s) (x := x) (by omega)
          simp only [e1, Bool.false_eq_true, if_false, Nat.add_zero] at hcnt
          go_wp2_with (go_at_call 32; refine (put_any s _ _ _ (by omega) (by omega) hs hb1).mono ?_; rintro e w1 ⟨rfl, hb1', honly⟩; have hc1 : w1.cell? ⟨b, o + k, none⟩ = some (.int .i64 x) := (World.cell?_of_block (w := wr) (a := ⟨b, o + k, none⟩) (honly.block b (by omega))).trans hc; have hb2' := hb2.only honly (by omega))
          obtain ⟨w2, hw2⟩ : ∃ w2, w1 = w2 := ⟨_, rfl⟩
          have B1 : Bools w2 w.heap.size 31 (Psp.put s x) := by rw [← hw2]; exact hb1'
          have B2 : Bools w2 (w.heap.size + 1) 29 (Psp.put s x) := by rw [← hw2, e2]; exact hb2'
          have C2 : w2.cell? ⟨b, o + k, none⟩ = some (.int .i64 x) := by rw [← hw2]; exact hc1
          have D2 : Below w.heap.size w w2 := by rw [← hw2]; exact hbel.trans (honly.below (Nat.le_refl _))
          subst hw2
          have CL := later_cell C2
          have hLen : Hid (∀ p : Later w1, Calls Try.prog 33 #[.pointer (some ⟨w.heap.size, 0, none⟩)] p.W fun e w' => e = .returned (.int .i64 ((n : Int))) ∧ Below p.W.heap.size p.W w') := Lib.hid fun p => (len_any (Psp.put s x) _ _ hs' (Bools.later B1 p)).mono fun e w' h => ⟨by first | (rw [h.1, hcnt]; done) | (rw [h.1, hcnt]; simp), h.2⟩
          have hHas : Hid (∀ p : Later w1, Calls Try.prog 34 #[.pointer (some ⟨w.heap.size, 0, none⟩), .int .i64 x] p.W fun e w' => e = .returned (.bool false) ∧ p.W = w') := Lib.hid fun p => (has_any (Psp.put s x) x _ _ hx1 hx2 hs' (Bools.later B1 p)).mono fun e w' h => ⟨by rw [h.1, hhas]; first | (simp; done) | (simp; omega), h.2⟩
          have HF := Lib.hid (And.intro B1 (And.intro B2 (And.intro D2 hcnt)))
          clear B1 B2 D2 hcnt hb1' hb2' honly hb1 hb2 hhas C2
          refine wp_region_later (by kernel_rfl) (by kernel_rfl) ?_
          repeat (first | go_big_quiet_step (first | (go_at_call 33; exact later_call _ (hLen.out _)) | (go_at_call 34; exact later_same _ (hHas.out _))) | quiet_step (first | (go_at_call 33; exact later_call _ (hLen.out _)) | (go_at_call 34; exact later_same _ (hHas.out _))))
          refine wpQuiet_nil ?_
          intro _ hw'
          obtain ⟨⟨w3, hb3⟩, hw'⟩ := hw'
          subst hw'
          obtain ⟨B1, B2, D2, hcnt⟩ := HF.out
          go_wp2
          go_roundw
          case rel => exact ⟨k + 1, Psp.put s x, by go_num, by omega, by omega, by rw [hcnt], hs', B1.below hb3 B1.lt, B2.below hb3 B2.lt, D2.trans (hb3.mono D2.size)⟩
          case measure => simp [intOf]; omega
      · obtain ⟨e1, e2⟩ := put_out (s := s) (x := x) (by omega)
        have hin0' : x < 0 := by omega
        have hd0 : decide (0 ≤ x) = false := by simp; omega
        clear hin0
        simp only [e1, Bool.false_eq_true, if_false, Nat.add_zero] at hcnt
        go_wp2_with (go_at_call 32; refine (put_any s _ _ _ (by omega) (by omega) hs hb1).mono ?_; rintro e w1 ⟨rfl, hb1', honly⟩; have hc1 : w1.cell? ⟨b, o + k, none⟩ = some (.int .i64 x) := (World.cell?_of_block (w := wr) (a := ⟨b, o + k, none⟩) (honly.block b (by omega))).trans hc; have hb2' := hb2.only honly (by omega))
        obtain ⟨w2, hw2⟩ : ∃ w2, w1 = w2 := ⟨_, rfl⟩
        have B1 : Bools w2 w.heap.size 31 (Psp.put s x) := by rw [← hw2]; exact hb1'
        have B2 : Bools w2 (w.heap.size + 1) 29 (Psp.put s x) := by rw [← hw2, e2]; exact hb2'
        have C2 : w2.cell? ⟨b, o + k, none⟩ = some (.int .i64 x) := by rw [← hw2]; exact hc1
        have D2 : Below w.heap.size w w2 := by rw [← hw2]; exact hbel.trans (honly.below (Nat.le_refl _))
        subst hw2
        have CL := later_cell C2
        have hLen : Hid (∀ p : Later w1, Calls Try.prog 33 #[.pointer (some ⟨w.heap.size, 0, none⟩)] p.W fun e w' => e = .returned (.int .i64 ((n : Int))) ∧ Below p.W.heap.size p.W w') := Lib.hid fun p => (len_any (Psp.put s x) _ _ hs' (Bools.later B1 p)).mono fun e w' h => ⟨by first | (rw [h.1, hcnt]; done) | (rw [h.1, hcnt]; simp), h.2⟩
        have hHas : Hid (∀ p : Later w1, Calls Try.prog 34 #[.pointer (some ⟨w.heap.size, 0, none⟩), .int .i64 x] p.W fun e w' => e = .returned (.bool false) ∧ p.W = w') := Lib.hid fun p => (has_any (Psp.put s x) x _ _ hx1 hx2 hs' (Bools.later B1 p)).mono fun e w' h => ⟨by rw [h.1, hhas]; first | (simp; done) | (simp; omega), h.2⟩
        have HF := Lib.hid (And.intro B1 (And.intro B2 (And.intro D2 hcnt)))
        clear B1 B2 D2 hcnt hb1' hb2' honly hb1 hb2 hhas C2
        refine wp_region_later (by kernel_rfl) (by kernel_rfl) ?_
        repeat (first | go_big_quiet_step (first | (go_at_call 33; exact later_call _ (hLen.out _)) | (go_at_call 34; exact later_same _ (hHas.out _))) | quiet_step (first | (go_at_call 33; exact later_call _ (hLen.out _)) | (go_at_call 34; exact later_same _ (hHas.out _))))
        refine wpQuiet_nil ?_
        intro _ hw'
        obtain ⟨⟨w3, hb3⟩, hw'⟩ := hw'
        subst hw'
        obtain ⟨B1, B2, D2, hcnt⟩ := HF.out
        go_wp2
        go_roundw
        case rel => exact ⟨k + 1, Psp.put s x, by go_num, by omega, by omega, by rw [hcnt], hs', B1.below hb3 B1.lt, B2.below hb3 B2.lt, D2.trans (hb3.mono D2.size)⟩
        case measure => simp [intOf]; omega
    · have hend : len ≤ k ∨ (k < len ∧ 100 ≤ k) := by omega
      clear hlt
      obtain ⟨n, hn⟩ : ∃ n, s.countP id = n := ⟨_, rfl⟩
      have hml := Psp.members_len s 0
      have hle := Psp.cnt_le s
      rw [hn] at hml hle ⊢
      have Hml := Lib.hid hml
      clear hml
      rcases hend with hkl | ⟨hkl, h100⟩
      all_goals
        go_wp2_with (go_at_call 35; refine (all_any s _ _ hs hb1).mono ?_; rintro e w2 ⟨v2, rfl, hown, hbel2⟩; rw [Hml.out] at hown; obtain ⟨A2, c2, rfl, hc21, hc22, hxx⟩ := own_slice hown; clear hxx)
        have Hown := Lib.hid hown
        have HB2 := Lib.hid (hb2.below hbel2 hb2.lt)
        have hs2 := hbel2.size
        clear hown hb1 hb2
        go_loopw [82] (fun j wr2 => ∃ q : Nat, j = .int .i64 (q : Int) ∧ q ≤ n ∧ Below w2.heap.size w2 wr2) (fun j _ => n - (intOf j).toNat)
        case atStart => exact ⟨0, rfl, Nat.zero_le _, Below.refl _ _⟩
        case round =>
          obtain ⟨q, rfl, hq, hbel3⟩ := hrel
          by_cases hqn : q < n
          · have hqm : q < (Psp.members s 0).length := by rw [Hml.out]; exact hqn
            obtain ⟨g2, rfl, hqx, hcq⟩ := own_cell Hown.out hqn
            obtain ⟨m, hm⟩ : ∃ m, (Psp.members s 0)[q] = m := ⟨_, rfl⟩
            simp only [List.getElem_map, hm, iv] at hcq
            obtain ⟨m0, m1, m2⟩ := Psp.members_bd s 0 m (by rw [← hm]; exact List.getElem_mem hqm)
            rw [Int.sub_zero] at m2
            obtain ⟨j, hj⟩ : ∃ j, m.toNat = j := ⟨_, rfl⟩
            have hj13 : j < s.length := by omega
            have hcb := HB2.out.cell hj13
            rw [hj, List.getElem?_eq_getElem hj13] at m2
            injection m2 with m2
            rw [List.getD_eq_getElem?_getD, List.getElem?_eq_getElem hj13, m2] at hcb
            simp only [Option.getD_some] at hcb
            have hcq' := (hbel3.cell (p := ⟨g2, q, none⟩) (World.block_lt_of_cell? w2 ⟨g2, q, none⟩ hcq)).trans hcq
            have hcb' := (hbel3.cell (p := ⟨w.heap.size + 1, j, none⟩) (World.block_lt_of_cell? w2 _ hcb)).trans hcb
            rw [hs] at m1 hj13
            clear m2
            by_cases hq0 : 0 < q
            · obtain ⟨p, hp⟩ : ∃ p, ((q : Int) - 1).toNat = p := ⟨_, rfl⟩
              have hpn : p < n := by omega
              have hpm : p < (Psp.members s 0).length := by rw [Hml.out]; exact hpn
              obtain ⟨g2', hge, hpx, hcp⟩ := own_cell Hown.out hpn
              injection hge with hge
              injection hge with hge
              subst hge
              have hlt := (List.pairwise_iff_getElem.1 (Psp.members_sorted s 0)) p q hpm hqm (by omega)
              rw [hm] at hlt
              obtain ⟨m', hm'⟩ : ∃ m, (Psp.members s 0)[p] = m := ⟨_, rfl⟩
              simp only [List.getElem_map, hm', iv] at hcp
              rw [hm'] at hlt
              have hcp' := (hbel3.cell (p := ⟨g2, p, none⟩) (World.block_lt_of_cell? w2 ⟨g2, p, none⟩ hcp)).trans hcp
              have t1 : decide (0 < (q : Int)) = true := by simp; omega
              have t2 : decide (m ≤ m') = false := by simp; omega
              have t3 : decide (m < 0) = false := by simp; omega
              have t4 : decide (13 ≤ m) = false := by simp; omega
              clear hcq hcb hcp hqx hpx hqm hpm hm hm'
              go_wp2_with fail
              go_quiet (fail)
              go_wp2_with fail
              go_roundw
              case rel => exact ⟨q + 1, by go_num, by omega, below_drewN hbel3 _⟩
              case measure => simp [intOf]; omega
            · obtain rfl : q = 0 := by omega
              have t3 : decide (m < 0) = false := by simp; omega
              have t4 : decide (13 ≤ m) = false := by simp; omega
              clear hcq hcb hqx hqm hm
              go_wp2_with fail
              go_quiet (fail)
              go_wp2_with fail
              go_roundw
              case rel => exact ⟨1, by first | rfl | go_num, by omega, below_drewN hbel3 _⟩
              case measure => simp [intOf]; omega
          · have hqe : q = n := by omega
            subst hqe
            go_wp2_with (go_at_call 23; refine (wakes4 _).mono ?_; rintro e w' ⟨rfl, rfl⟩)
            go_ret
            exact ⟨rfl, (hbel.trans (hbel2.mono hs0)).trans (hbel3.mono (by omega))⟩
end Go.Proofs.Ytekpnihdbfgcdaa.ballotSets
