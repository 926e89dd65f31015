/- The plain law of MsgsChanged: a quorum's votes to leave a view, made so, turned. -/
import Derived.Test.YtljfoajhobambaaTwSp
import Derived.Test.YtljfoajhobambaaFp2Sp
import Derived.Test.YtljfoajhobambaaOpSp
import Derived.Test.YtljfoajhobambaaPhSSp
import Derived.Test.YtljfoajhobambaaGgSp
namespace Go.Proofs.Ytljfoajhobambaa
open Go.RowKit
set_option linter.unusedVariables false
set_option linter.unusedSimpArgs false

theorem may_of {f : Int} (hf : 1 ≤ f ∧ f ≤ 4) : Psp.may f = true := by unfold Psp.may; simp; omega
end Go.Proofs.Ytljfoajhobambaa
