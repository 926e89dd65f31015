/- Package msgs: sealed, Changed. -/
import Derived.Test.YtipmjleohadoeaaGreatTwCsp
import Derived.Test.YtipmjleohadoeaaGreatFp2Csp
import Derived.Test.YtipmjleohadoeaaGreatOpCsp
namespace Go.Proofs.YtipmjleohadoeaaGreat
open Go.RowKit
set_option linter.unusedVariables false
set_option linter.unusedSimpArgs false

/-- Is it its sender's seal of a message? -/
def sealedB (K : List Key) (m : Psp.Msg) (s : Int) : Bool := Psp.okB m && chkB K (kM m) s

end Go.Proofs.YtipmjleohadoeaaGreat
