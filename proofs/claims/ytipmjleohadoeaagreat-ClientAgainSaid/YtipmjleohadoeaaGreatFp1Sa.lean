/- Package msgs: the small looks at forms. -/
import Derived.Test.YtipmjleohadoeaaGreatBxSa
import Derived.Test.YtipmjleohadoeaaGreatGaSa
import Derived.BigQuiet
namespace Go.Proofs.YtipmjleohadoeaaGreat
open Go.RowKit
set_option linter.unusedVariables false

theorem win_any (n lo hi : Int) (w : World) : Calls Tryz.prog 93 #[.int .i64 n, .int .i64 lo, .int .i64 hi] w fun e w' => e = .returned (.bool (Psp.win n lo hi)) ∧ w = w' := by
  by_cases h1 : lo ≤ n
  · have d1 : decide (n ≥ lo) = true := decide_eq_true h1
    by_cases h2 : n ≤ hi
    · go_enter Tryz.func93, Tryz.ntmps93
      go_wp2_with fail
      go_ret
      exact ⟨by simp [Psp.win, h1, h2], rfl⟩
    · go_enter Tryz.func93, Tryz.ntmps93
      go_wp2_with fail
      go_ret
      exact ⟨by simp [Psp.win, h2], rfl⟩
  · have d1 : decide (n ≥ lo) = false := decide_eq_false h1
    go_enter Tryz.func93, Tryz.ntmps93
    go_wp2_with fail
    go_ret
    exact ⟨by rw [(Psp.win_no n lo hi).2 (by omega)]; rfl, rfl⟩

theorem node_any (n f cl : Int) (w : World) : Calls Tryz.prog 90 #[.agg #[.int .i64 f, .int .i64 cl], .int .i64 n] w fun e w' => e = .returned (.bool (Psp.nodeB n f)) ∧ Below w.heap.size w w' := by
  obtain ⟨z0, z1⟩ := Psp.nodes_bd f
  have Hf : Hid (Psp.nodeB n f = Psp.win n 0 (Psp.nodes f - 1)) := Lib.hid rfl
  obtain ⟨q, hq⟩ : ∃ q, Psp.nodes f = q := ⟨_, rfl⟩
  rw [hq] at z0 z1 Hf
  have hb := alloc_below w (.cells #[.int .i64 f, .int .i64 cl] 153)
  have Hb := Lib.hid hb
  have hn := b_nodes_any f
  rw [hq] at hn
  have Hn := Lib.hid hn
  clear hq hb hn
  go_enter Tryz.func90, Tryz.ntmps90
  go_wp2_with (first | (go_at_call 58; refine (Hn.out _).mono ?_; rintro e w' ⟨rfl, rfl⟩) | (go_at_call 93; refine (win_any _ _ _ _).mono ?_; rintro e w' ⟨rfl, rfl⟩))
  go_ret
  exact ⟨by rw [Hf.out]; rfl, Hb.out⟩
end Go.Proofs.YtipmjleohadoeaaGreat
