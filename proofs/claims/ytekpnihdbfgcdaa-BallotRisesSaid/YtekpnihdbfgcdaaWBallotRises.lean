/- The walk of the law BallotRises. -/
import Derived.Test.YtekpnihdbfgcdaaWakes4
import Derived.Test.YtekpnihdbfgcdaaVote
namespace Go.Proofs.Ytekpnihdbfgcdaa.ballotRises
open Go.RowKit
set_option linter.unusedVariables false

theorem walk (v : Value) (l : List (Int × Int)) (f : Int) (w : World) (hr : Rd w w.heap.size 2 v l.length (l.flatMap vv)) (hl : ∀ a ∈ l, isI64 a.1 ∧ isI64 a.2) (b1 : isI64 f) :
    Calls Try.prog 5 #[v, .int .i64 f] w fun e w' => e = .returned (.bool true) ∧ Below w.heap.size w w' := by
  go_enter Try.func5, Try.ntmps5
  go_wp2_with fail
  refine (rising_any l v f _ hr hl).mono ?_
  rintro e w1 ⟨rfl, hb1⟩
  have hr1 := (hr.below hb1).more hb1.size
  go_wp2_with (go_at_call 31; refine (r_rising_any l v f _ hr1 hl).mono ?_; rintro e w2 ⟨rfl, hb2⟩)
  go_wp2_with (go_at_call 23; refine (wakes4 _).mono ?_; rintro e w' ⟨rfl, rfl⟩)
  go_ret
  exact ⟨rfl, hb1.trans (hb2.mono hb1.size)⟩
end Go.Proofs.Ytekpnihdbfgcdaa.ballotRises
