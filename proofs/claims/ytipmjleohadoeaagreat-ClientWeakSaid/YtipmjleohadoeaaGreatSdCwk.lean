/- Package msgs: sealed, Changed. -/
import Derived.Test.YtipmjleohadoeaaGreatTwCwk
import Derived.Test.YtipmjleohadoeaaGreatFp2Cwk
import Derived.Test.YtipmjleohadoeaaGreatOpCwk
namespace Go.Proofs.YtipmjleohadoeaaGreat
open Go.RowKit
set_option linter.unusedVariables false
set_option linter.unusedSimpArgs false

/-- Is it its sender's seal of a message? -/
def sealedB (K : List Key) (m : Psp.Msg) (s : Int) : Bool := Psp.okB m && chkB K (kM m) s

end Go.Proofs.YtipmjleohadoeaaGreat
