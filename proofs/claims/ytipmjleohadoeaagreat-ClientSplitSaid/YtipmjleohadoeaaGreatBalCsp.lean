/- A node's vote for a certificate's batch: msgs.Ballot, the reference's. -/
import Derived.Test.YtipmjleohadoeaaGreatPhaseCsp
import Derived.Test.YtipmjleohadoeaaGreatTkCsp
namespace Go.Proofs.YtipmjleohadoeaaGreat
open Go.RowKit
set_option linter.unusedVariables false
set_option linter.unusedSimpArgs false

theorem range_of_row {W : World} {g : Nat} {cs : Array Value} {T : TypeId} (h : W.heap[g]? = some (.cells cs T (0, 0))) : W.rangeAt g 0 cs.toList := fun j v hv => by
  rw [Nat.zero_add, cell_of_row _ _ j _ _ _ h]; simpa using hv
end Go.Proofs.YtipmjleohadoeaaGreat
