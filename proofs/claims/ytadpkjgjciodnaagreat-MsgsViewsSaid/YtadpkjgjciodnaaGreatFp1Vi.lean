/- Package msgs: the small looks at forms. -/
import Derived.Test.YtadpkjgjciodnaaGreatBxVi
import Derived.Test.YtadpkjgjciodnaaGreatGaVi
import Derived.BigQuiet
namespace Go.Proofs.YtadpkjgjciodnaaGreat
open Go.RowKit
set_option linter.unusedVariables false

theorem win_any (n lo hi : Int) (w : World) : Calls Tryz.prog 63 #[.int .i64 n, .int .i64 lo, .int .i64 hi] w fun e w' => e = .returned (.bool (Psp.win n lo hi)) ∧ w = w' := by
  by_cases h1 : lo ≤ n
  · have d1 : decide (n ≥ lo) = true := decide_eq_true h1
    by_cases h2 : n ≤ hi
    · go_enter Tryz.func63, Tryz.ntmps63
      go_wp2_with fail
      go_ret
      exact ⟨by simp [Psp.win, h1, h2], rfl⟩
    · go_enter Tryz.func63, Tryz.ntmps63
      go_wp2_with fail
      go_ret
      exact ⟨by simp [Psp.win, h2], rfl⟩
  · have d1 : decide (n ≥ lo) = false := decide_eq_false h1
    go_enter Tryz.func63, Tryz.ntmps63
    go_wp2_with fail
    go_ret
    exact ⟨by rw [(Psp.win_no n lo hi).2 (by omega)]; rfl, rfl⟩

theorem noB_take {l : List Int} {k : Nat} {x : Int} (hx : l[k]? = some x) (h : x ≠ 0) : Psp.noB l = false := Psp.all_not hx (by simpa using h)
theorem nou_any (l : List Int) (b n : Nat) (w : World) (hn : l.length = n) (hl : Lies w b 0 (l.map iv)) (h10 : n ≤ 10) : Calls Tryz.prog 90 #[.slice (some ⟨b, 0, none⟩) n n] w fun e w' => e = .returned (.bool (Psp.noB l)) ∧ w = w' := by
  have Hn := Lib.hid hn
  have Hl := Lib.hid hl
  clear hn hl
  go_enter Tryz.func90, Tryz.ntmps90
  go_wp2_with fail
  go_loopw [7] (fun i wr => ∃ k : Nat, i = .int .i64 (k : Int) ∧ k ≤ n ∧ wr = w ∧ Hid (∀ j x, j < k → l[j]? = some x → x = 0)) (fun i _ => n - (intOf i).toNat)
  case atStart => exact ⟨0, rfl, Nat.zero_le _, rfl, Lib.hid fun j x h => by omega⟩
  case round =>
    obtain ⟨k, rfl, hk, rfl, HI⟩ := hrel
    by_cases hlt : k < n
    · obtain ⟨x, hx⟩ : ∃ x, l[k]? = some x := ⟨_, List.getElem?_eq_getElem (by rw [Hn.out]; exact hlt)⟩
      have hc : wr.cell? ⟨b, k, none⟩ = some (.int .i64 x) := by
        have := Hl.out k (iv x) (by rw [List.getElem?_map, hx]; rfl)
        rwa [Nat.zero_add] at this
      have Hx := Lib.hid hx
      clear hx
      by_cases h0 : x = 0
      · have d1 : (x != 0) = false := by rw [h0]; rfl
        have HI2 : Hid (∀ j y, j < k + 1 → l[j]? = some y → y = 0) := Lib.hid fun j y hj hy => by
          by_cases he : j = k
          · subst he; rw [Hx.out] at hy; injection hy with hy; omega
          · exact HI.out j y (by omega) hy
        clear HI Hx h0
        go_wp2_with fail
        go_roundw
        case rel => exact ⟨k + 1, by go_num, by omega, (by first | rfl | trivial), HI2⟩
        case measure => simp [intOf]; omega
      · have d1 : (x != 0) = true := by rw [bne_iff_ne]; exact h0
        have Hf := Lib.hid (noB_take Hx.out h0)
        clear HI Hx h0
        go_wp2_with fail
        go_ret
        exact ⟨by rw [Hf.out]; rfl, rfl⟩
    · obtain rfl : k = n := by omega
      have Hf : Hid (Psp.noB l = true) := Lib.hid (Psp.all_take fun j hj x hx => by have := HI.out j x (by rw [← Hn.out]; exact hj) hx; rw [this]; rfl)
      clear HI
      go_wp2_with fail
      go_ret
      exact ⟨by rw [Hf.out]; rfl, rfl⟩

theorem node_any (n f cl : Int) (w : World) : Calls Tryz.prog 93 #[.agg #[.int .i64 f, .int .i64 cl], .int .i64 n] w fun e w' => e = .returned (.bool (Psp.nodeB n f)) ∧ Below w.heap.size w w' := by
  obtain ⟨z0, z1⟩ := Psp.nodes_bd f
  have Hf : Hid (Psp.nodeB n f = Psp.win n 0 (Psp.nodes f - 1)) := Lib.hid rfl
  obtain ⟨q, hq⟩ : ∃ q, Psp.nodes f = q := ⟨_, rfl⟩
  rw [hq] at z0 z1 Hf
  have hb := alloc_below w (.cells #[.int .i64 f, .int .i64 cl] 104)
  have Hb := Lib.hid hb
  have hn := b_nodes_any f
  rw [hq] at hn
  have Hn := Lib.hid hn
  clear hq hb hn
  go_enter Tryz.func93, Tryz.ntmps93
  go_wp2_with (first | (go_at_call 89; refine (Hn.out _).mono ?_; rintro e w' ⟨rfl, rfl⟩) | (go_at_call 63; refine (win_any _ _ _ _).mono ?_; rintro e w' ⟨rfl, rfl⟩))
  go_ret
  exact ⟨by rw [Hf.out]; rfl, Hb.out⟩
theorem place_any (v i q f cl : Int) (w : World) : Calls Tryz.prog 55 #[.agg #[.int .i64 f, .int .i64 cl], .int .i64 v, .int .i64 i, .int .i64 q] w fun e w' => e = .returned (.bool (Psp.placeB v i q f)) ∧ Below w.heap.size w w' := by
  have Hb := Lib.hid (alloc_below w (.cells #[.int .i64 f, .int .i64 cl] 104))
  cases h1 : Psp.win v 0 12 with
  | false =>
    go_enter Tryz.func55, Tryz.ntmps55
    go_wp2_with (first | (go_at_call 63; refine (win_any _ _ _ _).mono ?_; rintro e w' ⟨rfl, rfl⟩))
    go_ret
    exact ⟨by rw [Psp.placeB, h1]; rfl, Hb.out⟩
  | true =>
    cases h2 : Psp.win i 0 f with
    | false =>
      go_enter Tryz.func55, Tryz.ntmps55
      go_wp2_with (first | (go_at_call 63; refine (win_any _ _ _ _).mono ?_; rintro e w' ⟨rfl, rfl⟩))
      go_ret
      exact ⟨by rw [Psp.placeB, h1, h2]; rfl, Hb.out⟩
    | true =>
      go_enter Tryz.func55, Tryz.ntmps55
      go_wp2_with (first | (go_at_call 63; refine (win_any _ _ _ _).mono ?_; rintro e w' ⟨rfl, rfl⟩))
      go_ret
      exact ⟨by rw [Psp.placeB, h1, h2]; rfl, Hb.out⟩
end Go.Proofs.YtadpkjgjciodnaaGreat
