/- Package code by its contracts: TakeNumber at any place, TakeSigned, Signed. -/
import Derived.Test.YtnlnkcljehafkaaCode
import Derived.Test.YtnlnkcljehafkaaInts
namespace Go.Proofs.Ytnlnkcljehafkaa
open Go.RowKit
set_option linter.unusedVariables false

/-- What is taken at a place. -/
def takeAt (l : List UInt8) (a : Int) : Option (Nat × Nat) := if a < 0 then none else Psp.take (l.drop a.toNat)

theorem takeAt_bd {l : List UInt8} {a : Int} {v m : Nat} (h : takeAt l a = some (v, m)) : 0 ≤ a ∧ v < 1099511627776 ∧ 1 ≤ m ∧ a + m ≤ l.length := by
  unfold takeAt at h
  split at h
  · cases h
  · have := Psp.take_bound h
    simp only [List.length_drop] at this
    omega



theorem signed_ok (x : Int) (w : World) (h0 : -549755813888 ≤ x) (h1 : x < 549755813888) :
    Calls Try.prog 69 #[.int .i64 x] w (NumOk w.heap.size w (Psp.zig x).toNat) := by
  have hz := Psp.zig_bd x
  go_enter Try.func69, Try.ntmps69
  go_wp2_with (first | (go_at_call 70; refine (zig_any _ _ (by omega) (by omega)).mono ?_; rintro e w' ⟨rfl, rfl⟩) | (go_at_call 68; refine (number_ok _ _ hz.1 hz.2).mono ?_; rintro e w' ⟨v, rfl, hown, hbel⟩))
  go_ret2
  exact ⟨_, rfl, hown, hbel⟩

theorem signed_no (x : Int) (w : World) (h : x < -549755813888 ∨ 549755813888 ≤ x) :
    Calls Try.prog 69 #[.int .i64 x] w fun e w' => e = .returned (.tuple #[.slice none 0 0, .bool false]) ∧ w = w' := by
  by_cases h1 : x < -549755813888
  · clear h
    go_enter Try.func69, Try.ntmps69
    go_wp2
    go_ret2
    exact ⟨rfl, rfl⟩
  · have h2 : 549755813888 ≤ x := by omega
    clear h
    go_enter Try.func69, Try.ntmps69
    go_wp2
    go_ret2
    exact ⟨rfl, rfl⟩

end Go.Proofs.Ytnlnkcljehafkaa
