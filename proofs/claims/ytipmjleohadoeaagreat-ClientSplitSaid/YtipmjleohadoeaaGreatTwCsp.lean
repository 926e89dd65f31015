/- Two notaries that have sealed the same: begin, Two.Seal, Two.Msg. -/
import Derived.Test.YtipmjleohadoeaaGreatSlCsp
import Derived.Test.YtipmjleohadoeaaGreatMrCsp
import Derived.Test.YtipmjleohadoeaaGreatGgCsp
import Derived.Test.YtipmjleohadoeaaGreatMxCsp
import Derived.Test.YtipmjleohadoeaaGreatPhSCsp
namespace Go.Proofs.YtipmjleohadoeaaGreat
open Go.RowKit
set_option linter.unusedVariables false
set_option linter.unusedSimpArgs false

/-- A party's seal of a message: 0 where it has no bytes. -/
def sealM (K : List Key) (m : Psp.Msg) : Int := if Psp.okB m then sealN K (kM m) else 0
end Go.Proofs.YtipmjleohadoeaaGreat
