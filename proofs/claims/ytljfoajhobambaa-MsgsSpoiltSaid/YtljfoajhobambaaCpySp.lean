/- psephoskeep.Copy, CopyCerts: what is copied reads as it did, in new memory. Printed by gen_cpy.py. -/
import Derived.Test.YtljfoajhobambaaPhaseSp
import Derived.Test.YtljfoajhobambaaBalSp
import Derived.Test.YtljfoajhobambaaGfSp
namespace Go.Proofs.Ytljfoajhobambaa
open Go.RowKit
set_option linter.unusedVariables false
set_option linter.unusedSimpArgs false

theorem obj_below {W W' : World} {g : Nat} {o : Obj} {B : Nat} (h : W.heap[g]? = some o) (hb : Below B W W') (hB : W.heap.size ≤ B) : W'.heap[g]? = some o :=
  (hb.block g (Nat.lt_of_lt_of_le (Array.getElem?_eq_some_iff.1 h).1 hB)).trans h


end Go.Proofs.Ytljfoajhobambaa
