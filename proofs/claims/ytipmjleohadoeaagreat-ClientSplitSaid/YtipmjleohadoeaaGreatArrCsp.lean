/- Small arrays in memory of their own: a box whose cells are set one by one. -/
import Derived.Test.YtipmjleohadoeaaGreatCwCsp
import Derived.Test.YtipmjleohadoeaaGreatWrwCsp
namespace Go.Proofs.YtipmjleohadoeaaGreat
open Go.RowKit
set_option linter.unusedVariables false
section
variable {W : World} {S : Nat → Prop} {bm j : Nat} {cs : Array Value} {T : TypeId}
theorem put_fp (W : World) (j k : Nat) (u : Value) : Fp (fun b => b = j) W (W.setCell ⟨j, k, none⟩ u) := (Fp.refl (fun b => b = j) W).setCell (p := ⟨j, k, none⟩) (Or.inl (show j = j from rfl)) u
theorem Rw.put (h : Rw W S bm j (.cells cs T (0, 0))) (k : Nat) (u : Value) : Rw (W.setCell ⟨j, k, none⟩ u) S bm j (.cells (cs.setIfInBounds k u) T (0, 0)) :=
  ⟨heap_setCell_same W j k cs T u h.row, h.off.seal (put_fp W j k u) fun b hb => .inl hb⟩
end
/-- The array of Bools, of numbers. -/
def arB (l : List Bool) : Array Value := (l.map Value.bool).toArray
def arI (l : List Int) : Array Value := (l.map iv).toArray
theorem arB_at {l : List Bool} {n : Nat} {b : Bool} (h : l[n]? = some b) : (arB l)[n]? = some (.bool b) := by simp [arB, h]
theorem arI_at {l : List Int} {n : Nat} {b : Int} (h : l[n]? = some b) : (arI l)[n]? = some (.int .i64 b) := by simp [arI, h, iv]
theorem arB_set (l : List Bool) (n : Nat) (b : Bool) : (arB l).setIfInBounds n (.bool b) = arB (l.set n b) := by simp [arB, List.map_set]
theorem arI_set (l : List Int) (n : Nat) (b : Int) : (arI l).setIfInBounds n (.int .i64 b) = arI (l.set n b) := by simp [arI, List.map_set, iv]
end Go.Proofs.YtipmjleohadoeaaGreat
