/- The reference: Sealed. -/
import Derived.Test.YtnlnkcljehafkaaNr2
import Derived.Test.YtnlnkcljehafkaaRq
namespace Go.Proofs.Ytnlnkcljehafkaa
open Go.RowKit
set_option linter.unusedVariables false

end Go.Proofs.Ytnlnkcljehafkaa
