/- The walks of package pack's writer: lists. Printed by gen_pack.py. -/
import Derived.Test.YtnlnkcljehafkaaPw2
namespace Go.Proofs.Ytnlnkcljehafkaa
open Go.RowKit
set_option linter.unusedVariables false

theorem range_elem {α : Type} {f : α → List Value} {k : Nat} (hf : ∀ a, (f a).length = k) {w : World} {b o : Nat} {l : List α} (h : Lies w b o (l.flatMap f)) {i : Nat} (hi : i < l.length) : w.rangeAt b (o + i * k) (f l[i]) := by
  intro j v hv
  have hj : j < k := by have := (List.getElem?_eq_some_iff.1 hv).1; rwa [hf] at this
  have h1 := flat_get (f := f) (k := k) hf l i j hj
  rw [List.getElem?_eq_getElem hi] at h1
  rw [Nat.add_assoc]
  exact h _ v (by rw [h1]; exact hv)
theorem sizeR : (Try.prog.info? 26).map (·.size) = some 6 := by kernel_rfl
theorem sizeV : (Try.prog.info? 125).map (·.size) = some 2 := by kernel_rfl

end Go.Proofs.Ytnlnkcljehafkaa
