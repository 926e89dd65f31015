/- The walk of the law BallotPrimaries. -/
import Derived.Test.YtekpnihdbfgcdaaWakes4
import Derived.Test.YtekpnihdbfgcdaaOpen
import Derived.Test.YtekpnihdbfgcdaaSet
namespace Go.Proofs.Ytekpnihdbfgcdaa.ballotPrimaries
open Go.RowKit
set_option linter.unusedVariables false

theorem prim_in {f v i : Int} (h1 : 1 ≤ f) (h2 : f ≤ 4) (h3 : 0 ≤ v) (h4 : v ≤ 12) (h5 : 0 ≤ i) (h6 : i ≤ f) : Psp.primary f v i = (v + i) % (3 * f + 1) := by
  unfold Psp.primary; rw [if_pos ⟨h1, h2, h3, h4, h5, h6⟩]

theorem cases4 {f : Int} (h1 : 1 ≤ f) (h2 : f ≤ 4) : f = 1 ∨ f = 2 ∨ f = 3 ∨ f = 4 := by omega

theorem prim_ne {f v i j : Int} (h1 : 1 ≤ f) (h2 : f ≤ 4) (h3 : 0 ≤ v) (h4 : v ≤ 12) (h5 : 0 ≤ i) (h6 : i < j) (h7 : j ≤ f) : (Psp.primary f v i).toNat ≠ (Psp.primary f v j).toNat := by
  rw [prim_in h1 h2 h3 h4 h5 (by omega), prim_in h1 h2 h3 h4 (by omega) h7]
  rcases cases4 h1 h2 with rfl | rfl | rfl | rfl <;> omega

theorem prim_before {f v i : Int} (h1 : 1 ≤ f) (h2 : f ≤ 4) (h3 : 0 < v) (h4 : v ≤ 12) (h5 : 0 ≤ i) (h7 : i ≤ f) : Psp.primary f (v - 1) i ≠ Psp.primary f v i := by
  rw [prim_in h1 h2 (by omega) (by omega) h5 (by omega), prim_in h1 h2 (by omega) h4 (by omega) h7]
  rcases cases4 h1 h2 with rfl | rfl | rfl | rfl <;> omega

theorem prim_lo {f v i : Int} (h1 : 1 ≤ f) (h2 : f ≤ 4) (h3 : 0 ≤ v) (h4 : v ≤ 12) (h5 : 0 ≤ i) (h7 : i ≤ f) : 0 ≤ Psp.primary f v i ∧ Psp.primary f v i < 3 * f + 1 := by
  rw [prim_in h1 h2 h3 h4 h5 h7]
  exact ⟨Int.emod_nonneg _ (by omega), Int.emod_lt_of_pos _ (by omega)⟩

/-- The loop's set: the next instances' primaries are not in it. -/
def Inv (f v i : Int) (s : List Bool) : Prop := s.length = 13 ∧ (s.countP id : Nat) = i ∧ ∀ j, i ≤ j → j ≤ f → s.getD (Psp.primary f v j).toNat false = false

theorem Inv.start (f v : Int) : Inv f v 0 (List.replicate 13 false) := by
  refine ⟨rfl, rfl, fun j _ _ => ?_⟩
  rw [List.getD_eq_getElem?_getD, List.getElem?_replicate]
  split <;> rfl

theorem Inv.ok {f v i : Int} {s : List Bool} (h : Inv f v i s) (h1 : 1 ≤ f) (h2 : f ≤ 4) (h3 : 0 ≤ v) (h4 : v ≤ 12) (h5 : 0 ≤ i) (h7 : i ≤ f) : Psp.putB s (Psp.primary f v i) = true := by
  obtain ⟨p0, p1⟩ := prim_lo h1 h2 h3 h4 h5 h7
  unfold Psp.putB
  rw [h.2.2 i (by omega) h7]
  simp
  omega

theorem Inv.next {f v i : Int} {s : List Bool} (h : Inv f v i s) (h1 : 1 ≤ f) (h2 : f ≤ 4) (h3 : 0 ≤ v) (h4 : v ≤ 12) (h5 : 0 ≤ i) (h7 : i ≤ f) : Inv f v (i + 1) (Psp.put s (Psp.primary f v i)) := by
  have hok := h.ok h1 h2 h3 h4 h5 h7
  refine ⟨by rw [Psp.put_len]; exact h.1, ?_, fun j hj hjf => ?_⟩
  · have := Psp.cnt_put h.1 (Psp.primary f v i)
    rw [if_pos hok] at this
    have := h.2.1
    omega
  · unfold Psp.put
    rw [if_pos hok, List.getD_eq_getElem?_getD, List.getElem?_set_ne (prim_ne h1 h2 h3 h4 h5 (by omega) hjf), ← List.getD_eq_getElem?_getD]
    exact h.2.2 j (by omega) hjf

theorem walk (a0 a1 : Int) (w : World) (b0 : isI64 a0) (b1 : isI64 a1) :
    Calls Try.prog 6 #[.int .i64 a0, .int .i64 a1] w fun e w' => e = .returned (.bool true) ∧ Below w.heap.size w w' := by
  obtain ⟨c0, d0⟩ := b0
  obtain ⟨c1, d1⟩ := b1
  have x0 := Psp.within_lo a0 4
  have x1 := Psp.within_hi a0 4 (by omega)
  obtain ⟨x, hx⟩ : ∃ x, Psp.within a0 4 = x := ⟨_, rfl⟩
  rw [hx] at x0 x1
  have y0 := Psp.within_lo a1 13
  have y1 := Psp.within_hi a1 13 (by omega)
  obtain ⟨y, hy⟩ : ∃ x, Psp.within a1 13 = x := ⟨_, rfl⟩
  rw [hy] at y0 y1
  have hn' : Psp.nodes (1 + x) = 3 * (1 + x) + 1 := by unfold Psp.nodes; rw [if_pos ⟨by omega, by omega⟩]
  obtain ⟨f, hf⟩ : ∃ f, 1 + x = f := ⟨_, rfl⟩
  have f1 : 1 ≤ f := by omega
  have f2 : f ≤ 4 := by omega
  rw [hf] at hn'
  go_enter Try.func6, Try.ntmps6
  go_wp2_with (first | (go_at_call 20; refine (within_any _ _ _ (by omega) (by omega) (by omega) (by omega)).mono ?_; rintro e w' ⟨rfl, rfl⟩))
  go_loopw [6] (fun n wr => ∃ i : Int, n = .int .i64 i ∧ 0 ≤ i ∧ i ≤ f + 1 ∧ ∃ s, Bools wr w.heap.size 31 s ∧ Inv f y i s ∧ Below w.heap.size w wr) (fun n _ => (f + 1 - intOf n).toNat)
  case atStart => exact ⟨0, rfl, by omega, by omega, _, Bools.new _ _, Inv.start _ _, (Below.refl _ _).alloc (Nat.le_refl _) _⟩
  case round =>
    obtain ⟨i, rfl, i0, i1, s, hb, hinv, hbel⟩ := hrel
    have hs := hinv.1
    by_cases hlt : i ≤ f
    · have hok := hinv.ok f1 f2 y0 (by omega) i0 hlt
      have hnext := hinv.next f1 f2 y0 (by omega) i0 hlt
      obtain ⟨p0, p1⟩ := prim_lo f1 f2 y0 (by omega) i0 hlt
      have hbef : 0 < y → Psp.primary f (y - 1) i ≠ Psp.primary f y i := fun h => prim_before f1 f2 h (by omega) i0 hlt
      obtain ⟨p, hp⟩ : ∃ p, Psp.primary f y i = p := ⟨_, rfl⟩
      obtain ⟨q, hq⟩ : ∃ p, Psp.primary f (y - 1) i = p := ⟨_, rfl⟩
      rw [hp] at hok hnext p0 p1 hbef
      rw [hq] at hbef
      have Hinv := Lib.hid hinv
      have Hnext := Lib.hid hnext
      clear hinv hnext
      by_cases hy1 : 0 < y
      · have hne := hbef hy1
        clear hbef
        have hne' : (q == p) = false := by simpa using hne
        have hne2 : decide (q = p) = false := by simpa using hne
        go_wp2_with (first | (go_at_call 21; refine (b_nodes_any _ _).mono ?_; rintro e w' ⟨rfl, rfl⟩) | (go_at_call 22; refine (b_primary_any _ _ _ _ (by omega) (by omega) (by omega) (by omega)).mono ?_; rintro e w' ⟨rfl, rfl⟩) | (go_at_call 32; refine (put_any s _ _ _ (by omega) (by omega) hs hb).mono ?_; rintro e w' ⟨rfl, hb', honly⟩))
        go_roundw
        case rel => exact ⟨i + 1, rfl, by omega, by omega, _, hb', Hnext.out, hbel.trans (honly.below (Nat.le_refl _))⟩
        case measure => simp [intOf]; omega
      · have hy2 : y ≤ 0 := by omega
        clear hbef hy1
        go_wp2_with (first | (go_at_call 21; refine (b_nodes_any _ _).mono ?_; rintro e w' ⟨rfl, rfl⟩) | (go_at_call 22; refine (b_primary_any _ _ _ _ (by omega) (by omega) (by omega) (by omega)).mono ?_; rintro e w' ⟨rfl, rfl⟩) | (go_at_call 32; refine (put_any s _ _ _ (by omega) (by omega) hs hb).mono ?_; rintro e w' ⟨rfl, hb', honly⟩))
        go_roundw
        case rel => exact ⟨i + 1, rfl, by omega, by omega, _, hb', Hnext.out, hbel.trans (honly.below (Nat.le_refl _))⟩
        case measure => simp [intOf]; omega
    · have hi : i = f + 1 := by omega
      have hc := hinv.2.1
      clear hinv
      rw [hi] at hc
      go_wp2_with (first | (go_at_call 33; refine (len_any s _ _ hs hb).mono ?_; rintro e w' ⟨rfl, hbel'⟩; rw [hc]) | (go_at_call 23; refine (wakes4 _).mono ?_; rintro e w' ⟨rfl, rfl⟩))
      go_ret
      exact ⟨rfl, hbel.trans (hbel'.mono hbel.size)⟩
end Go.Proofs.Ytekpnihdbfgcdaa.ballotPrimaries
