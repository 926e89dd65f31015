/- psephoslaw06.quorum: a quorum's votes without seals. -/
import Derived.Test.YtljfoajhobambaaCpySp
import Derived.Test.YtljfoajhobambaaTwSp
import Derived.Test.YtljfoajhobambaaFp2Sp
import Derived.Test.YtljfoajhobambaaOpSp
import Derived.Test.YtljfoajhobambaaPhSSp
namespace Go.Proofs.Ytljfoajhobambaa
open Go.RowKit
set_option linter.unusedVariables false
set_option linter.unusedSimpArgs false

def qL (q : Nat) : List Psp.Vote := (List.range q).map fun (j : Nat) => (⟨(j : Int), 0⟩ : Psp.Vote)
theorem qL_len (q : Nat) : (qL q).length = q := by unfold qL; simp
theorem qL_step (q : Nat) : qL (q + 1) = qL q ++ [⟨(q : Int), 0⟩] := by unfold qL; rw [List.range_succ, List.map_append]; rfl

set_option maxRecDepth 100000 in
set_option maxHeartbeats 2000000 in
theorem quorum_m (f : Int) (w : World) (q : Nat) (hq : Psp.quorum f = (q : Int)) (hq9 : q ≤ 9) :
    Calls Try.prog 93 #[.int .i64 f] w fun e w' => ∃ A c, e = .returned (.slice A q c) ∧ w'.ownsRow w.heap.size 52 2 (.slice A q c) q ((qL q).flatMap vt) ∧ Below w.heap.size w w' := by
  have HQn : Hid (∀ W : World, Calls Try.prog 94 #[.int .i64 f] W fun e w' => e = .returned (.int .i64 (q : Int)) ∧ W = w') := Lib.hid fun W => by rw [← hq]; exact r_quorum_any f W
  clear hq
  go_enter Try.func93, Try.ntmps93
  go_wp2_with fail
  go_loopw [3, 4] (fun out i wr => ∃ (k : Nat) (A : Option Addr) (c : Nat), i = .int .i64 (k : Int) ∧ k ≤ q ∧ out = .slice A k c ∧ Hid (wr.ownsRow w.heap.size 52 2 (.slice A k c) k ((qL k).flatMap vt)) ∧ Hid (Below w.heap.size w wr)) (fun _ i _ => q - (intOf i).toNat)
  case atStart => exact ⟨0, none, 0, rfl, Nat.zero_le _, rfl, Lib.hid (World.ownsRow_nil _ _ _ _), Lib.hid (Below.refl _ _)⟩
  case round =>
    obtain ⟨k, A, c, rfl, hk, rfl, HO, HB⟩ := hrel
    have hz := HB.out.size
    by_cases hlt : k < q
    · have hqk : decide ((k : Int) < (q : Int)) = true := by simp; omega
      go_wp2_with (first | (go_at_call 94; refine (HQn.out _).mono ?_; rintro e w' ⟨rfl, rfl⟩) | (at_builtin; refine wpList_app1 votE rfl _ _ rfl w.heap.size (.slice A k c) k _ rfl HO.out _ rfl rfl (by simp [Value.oneCell']) (by omega) (by decide) hz ?_; intro v' w4 hown4 hg4 hb4 _; have Hown4 := Lib.hid hown4; have HB4 := Lib.hid (HB.out.trans hb4); clear hown4 hg4 hb4; obtain ⟨A4, c4, rfl, _, _, _⟩ := own_slice Hown4.out))
      refine ⟨⟨k + 1, A4, c4, by go_num, by omega, rfl, Lib.hid ?_, HB4⟩, ?_⟩
      · rw [qL_step, List.flatMap_append]
        have h4 := Hown4.out
        simpa [vt, iv] using h4
      · simp [intOf]; omega
    · have hkq : k = q := by omega
      subst hkq
      have hqk : decide ((k : Int) < (k : Int)) = false := by simp
      go_wp2_with (go_at_call 94; refine (HQn.out _).mono ?_; rintro e w' ⟨rfl, rfl⟩)
      go_ret
      exact ⟨A, c, rfl, HO.out, HB.out⟩
end Go.Proofs.Ytljfoajhobambaa
