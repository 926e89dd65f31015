/- Joined texts: Pq Pr Ps Same Pe Pf Ph. -/
import Derived.Test.YtljfoajhobambaaGcSp
import Derived.Test.YtljfoajhobambaaGaSp
import Derived.Test.YtljfoajhobambaaProg
import Derived.WalkKit
import Derived.WalkSpells
import Derived.BigQuiet
import Derived.Deep.QuietTactic
section
/- The walks of the reference's pen. Printed by gen_pen.py. -/
namespace Go.Proofs.Ytljfoajhobambaa
open Go.RowKit
set_option linter.unusedVariables false

end Go.Proofs.Ytljfoajhobambaa

end

section
/- The walks of the reference's pen: requests, lists, certificates, parts. Printed by gen_pen2.py. -/
namespace Go.Proofs.Ytljfoajhobambaa
open Go.RowKit
set_option linter.unusedVariables false

end Go.Proofs.Ytljfoajhobambaa

end

section
/- The reference: Req, Batch, Votes, Certs, Parts. Printed by gen_top.py. -/
namespace Go.Proofs.Ytljfoajhobambaa
open Go.RowKit
set_option linter.unusedVariables false

end Go.Proofs.Ytljfoajhobambaa

end

section
/- The walks of psephoskeep.Same, psephoskeep.Copy. -/
namespace Go.Proofs.Ytljfoajhobambaa
open Go.RowKit
set_option linter.unusedVariables false

end Go.Proofs.Ytljfoajhobambaa

end

section
/- The walks of psephoskeep.Same on requests and votes, of Cert, Certs, Parts. Printed by gen_same2.py. -/
namespace Go.Proofs.Ytljfoajhobambaa
open Go.RowKit
set_option linter.unusedVariables false

end Go.Proofs.Ytljfoajhobambaa

end

section
/- The walks of psephoskeep.Certs, Parts. Printed by gen_same3.py. -/
namespace Go.Proofs.Ytljfoajhobambaa
open Go.RowKit
set_option linter.unusedVariables false

end Go.Proofs.Ytljfoajhobambaa

end

section
/- The example of the document's chapter 2; HeavyCerts, Heavy. -/
namespace Go.Proofs.Ytljfoajhobambaa
open Go.RowKit
set_option linter.unusedVariables false

theorem Keeps.on {w w' : World} (hb : Below w.heap.size w w') : Keeps (fun b => b < w.heap.size) (fun b => b < w'.heap.size) w w' := ⟨hb.size, fun b h _ => ⟨hb.block b h, Nat.lt_of_lt_of_le h hb.size⟩⟩
theorem Below.then {B : Nat} {w w' w'' : World} (h : Below B w w') (g : Below w'.heap.size w' w'') (hB : B ≤ w'.heap.size) : Below B w w'' := h.trans (g.mono hB)
end Go.Proofs.Ytljfoajhobambaa

end
