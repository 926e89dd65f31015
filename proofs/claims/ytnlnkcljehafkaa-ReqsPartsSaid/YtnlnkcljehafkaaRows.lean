/-
  No cell of these rows narrows 'for every input' (looked for: loops, veiled, ifaces, maps, wideKeys, modest, calm, conditions, laid).
  DERIVED. THE GIVEN ROWS OF THIS SEAT. 3 by the template 'for every input the law returns true; each argument reads behind the call as it read before'; 0 by the template 'total and deterministic' (their statements: YtnlnkcljehafkaaTotals.lean).
  GIVEN WITH THE SEED: the statements are not yours to turn. If you find one false, say at which input.
  Laid BY PROGRAM, IN A SANDBOX (cutbox-rows.mjs): the forced cells as the released guide's own fill.sh prints them over the translation d3c69da09ace423f… (all of the seat's roots in one cut). By AI agents, Wed Nov 11 2026. No macro, syntax, notation, axiom, sorry.
-/
import Derived.Test.YtnlnkcljehafkaaChecked
import GoSem.Claim
import GoSem.ClaimJoined
import GoSem.ClaimMapViews
import Derived.JoinedTies
import Derived.KernelRfl
namespace Go.Proofs.Ytnlnkcljehafkaa
/- THE CELL 'sum', in the pinned program and in every row, IS THE sha256 OF THE DUMP (.gsa) THAT YtnlnkcljehafkaaProg.lean LOADS. Nothing in Lean hashes anything: it is a label: what it is worth is what the hold of that sum in a sandbox is worth. -/
noncomputable def Try.pinned : Pinned := { name := "ytnlnkcljehafkaa", sum := "d3c69da09ace423f025fb0e8d575bbd9999b90c97e485cbeedef167083a2b053", checked := Try.checked }
namespace Rows
def none {H : Type} : Left H := { results := [], args := [] }

/-- 'psephoslaw05.ReqsOrders': WHATEVER THE INPUT: true; the input reads as it did. -/
def reqsOrdersSpec : ChangeSpec := { name := "reqsOrders", fn := fun _ => fun
  | [d1, d2, d3] => { results := [.lit (.bool true)], args := [d1, d2, d3] }
  | _ => none }
def reqsOrdersRow : OpenClaim := { program := "ytnlnkcljehafkaa", sum := "d3c69da09ace423f025fb0e8d575bbd9999b90c97e485cbeedef167083a2b053", func := "psephos/psephoslaw05.ReqsOrders", spec := "reqsOrders", unfollowed := true, recurses := true, plainKeys := false, apart := false }
def ReqsOrdersSaid : Prop := reqsOrdersRow.holds Try.pinned (OpenSpec.ofChange reqsOrdersSpec)

/-- ITS FALSE NEIGHBOUR: 'it returns false'. Refute it at one input. -/
def reqsOrdersWrong : ChangeSpec := { name := "reqsOrders", fn := fun _ => fun
  | [d1, d2, d3] => { results := [.lit (.bool false)], args := [d1, d2, d3] }
  | _ => none }
def ReqsOrdersWrongFalsely : Prop := reqsOrdersRow.holds Try.pinned (OpenSpec.ofChange reqsOrdersWrong)

/-- 'psephoslaw05.ReqsRows': WHATEVER THE INPUT: true; the input reads as it did. -/
def reqsRowsSpec : ChangeSpec := { name := "reqsRows", fn := fun _ => fun
  | [d] => { results := [.lit (.bool true)], args := [d] }
  | _ => none }
def reqsRowsRow : OpenClaim := { program := "ytnlnkcljehafkaa", sum := "d3c69da09ace423f025fb0e8d575bbd9999b90c97e485cbeedef167083a2b053", func := "psephos/psephoslaw05.ReqsRows", spec := "reqsRows", unfollowed := true, recurses := true, plainKeys := false, apart := false }
def ReqsRowsSaid : Prop := reqsRowsRow.holds Try.pinned (OpenSpec.ofChange reqsRowsSpec)

/-- ITS FALSE NEIGHBOUR: 'it returns false'. Refute it at one input. -/
def reqsRowsWrong : ChangeSpec := { name := "reqsRows", fn := fun _ => fun
  | [d] => { results := [.lit (.bool false)], args := [d] }
  | _ => none }
def ReqsRowsWrongFalsely : Prop := reqsRowsRow.holds Try.pinned (OpenSpec.ofChange reqsRowsWrong)

/-- 'psephoslaw05.ReqsParts': WHATEVER THE INPUT: true; the input reads as it did. -/
def reqsPartsSpec : ChangeSpec := { name := "reqsParts", fn := fun _ => fun
  | [d1, d2] => { results := [.lit (.bool true)], args := [d1, d2] }
  | _ => none }
def reqsPartsRow : OpenClaim := { program := "ytnlnkcljehafkaa", sum := "d3c69da09ace423f025fb0e8d575bbd9999b90c97e485cbeedef167083a2b053", func := "psephos/psephoslaw05.ReqsParts", spec := "reqsParts", unfollowed := true, recurses := true, plainKeys := false, apart := false }
def ReqsPartsSaid : Prop := reqsPartsRow.holds Try.pinned (OpenSpec.ofChange reqsPartsSpec)

/-- ITS FALSE NEIGHBOUR: 'it returns false'. Refute it at one input. -/
def reqsPartsWrong : ChangeSpec := { name := "reqsParts", fn := fun _ => fun
  | [d1, d2] => { results := [.lit (.bool false)], args := [d1, d2] }
  | _ => none }
def ReqsPartsWrongFalsely : Prop := reqsPartsRow.holds Try.pinned (OpenSpec.ofChange reqsPartsWrong)

/- THE SECOND FORM. 'bulk': how many values and letters a reading holds, each counted each time it is reached (what is shared counts as often as it is met; a slice's spare places count too). A statement '..UptoSaid' is the law's where the arguments, and the package variables that the reading takes, are together of bulk at most 1048576: NARROWER than '..Said'. Prove '..Said' where nothing that the law and all that it calls make is longer than what came in: it says more and counts as full. Else prove '..UptoSaid'. A law counts once. -/
mutual
def uptoBulk {H : Type} : DataW H → Nat
  | .lit (.string bytes) => bytes.length + 1
  | .lit _ => 1
  | .nil => 1
  | .ptr d => uptoBulk d + 1
  | .slice elems spare => uptoBulkAll elems + uptoBulkAll spare + 1
  | .agg parts => uptoBulkAll parts + 1
  | .iface _ d => uptoBulk d + 1
  | .map entries => uptoBulkEntries entries + 1
  | .held _ => 1
def uptoBulkAll {H : Type} : List (DataW H) → Nat
  | [] => 0
  | d :: r => uptoBulk d + uptoBulkAll r
def uptoBulkEntries {H : Type} : List (Lit × DataW H) → Nat
  | [] => 0
  | x :: r => uptoBulkEntry x + uptoBulkEntries r
def uptoBulkEntry {H : Type} : Lit × DataW H → Nat
  | (.string bytes, d) => bytes.length + uptoBulk d + 1
  | (_, d) => uptoBulk d + 1
 end
def uptoSmall : (H : Type) → List (DataW H) → Bool := fun _ ds => decide (uptoBulkAll ds ≤ 1048576)
def OpenSpec.upto (s : _root_.Go.ChangeSpec) : _root_.Go.OpenSpec := { _root_.Go.OpenSpec.ofChange s with cond := some uptoSmall }

/-- 'psephoslaw05.ReqsOrders', WHERE WHAT IT READS IS OF BULK AT MOST 1048576: true; the input reads as it did. -/
def reqsOrdersUptoRow : OpenClaim := { program := "ytnlnkcljehafkaa", sum := "d3c69da09ace423f025fb0e8d575bbd9999b90c97e485cbeedef167083a2b053", func := "psephos/psephoslaw05.ReqsOrders", spec := "reqsOrders", unfollowed := true, recurses := true, plainKeys := false, apart := false, narrowed := true }
def ReqsOrdersUptoSaid : Prop := reqsOrdersUptoRow.holds Try.pinned (OpenSpec.upto reqsOrdersSpec)

/-- 'psephoslaw05.ReqsRows', WHERE WHAT IT READS IS OF BULK AT MOST 1048576: true; the input reads as it did. -/
def reqsRowsUptoRow : OpenClaim := { program := "ytnlnkcljehafkaa", sum := "d3c69da09ace423f025fb0e8d575bbd9999b90c97e485cbeedef167083a2b053", func := "psephos/psephoslaw05.ReqsRows", spec := "reqsRows", unfollowed := true, recurses := true, plainKeys := false, apart := false, narrowed := true }
def ReqsRowsUptoSaid : Prop := reqsRowsUptoRow.holds Try.pinned (OpenSpec.upto reqsRowsSpec)

/-- 'psephoslaw05.ReqsParts', WHERE WHAT IT READS IS OF BULK AT MOST 1048576: true; the input reads as it did. -/
def reqsPartsUptoRow : OpenClaim := { program := "ytnlnkcljehafkaa", sum := "d3c69da09ace423f025fb0e8d575bbd9999b90c97e485cbeedef167083a2b053", func := "psephos/psephoslaw05.ReqsParts", spec := "reqsParts", unfollowed := true, recurses := true, plainKeys := false, apart := false, narrowed := true }
def ReqsPartsUptoSaid : Prop := reqsPartsUptoRow.holds Try.pinned (OpenSpec.upto reqsPartsSpec)

end Rows
end Go.Proofs.Ytnlnkcljehafkaa
