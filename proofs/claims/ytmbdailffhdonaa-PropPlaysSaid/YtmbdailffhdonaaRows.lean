/-
  No cell of these rows narrows 'for every input' (looked for: loops, veiled, ifaces, maps, wideKeys, modest, calm, conditions, laid).
  DERIVED. THE GIVEN ROWS OF THIS SEAT. 6 by the template 'for every input the law returns true; each argument reads behind the call as it read before'; 0 by the template 'total and deterministic' (their statements: YtmbdailffhdonaaTotals.lean).
  GIVEN WITH THE SEED: the statements are not yours to turn. If you find one false, say at which input.
  Laid BY PROGRAM, IN A SANDBOX (cutbox-rows.mjs): the forced cells as the released guide's own fill.sh prints them over the translation 2e6eb9a388aefe93… (all of the seat's roots in one cut). By AI agents, Wed Nov 11 2026. No macro, syntax, notation, axiom, sorry.
-/
import Derived.Test.YtmbdailffhdonaaChecked
import GoSem.Claim
import GoSem.ClaimJoined
import GoSem.ClaimMapViews
import Derived.JoinedTies
import Derived.KernelRfl
namespace Go.Proofs.Ytmbdailffhdonaa
/- THE CELL 'sum', in the pinned program and in every row, IS THE sha256 OF THE DUMP (.gsa) THAT YtmbdailffhdonaaProg.lean LOADS. Nothing in Lean hashes anything: it is a label: what it is worth is what the hold of that sum in a sandbox is worth. -/
noncomputable def Try.pinned : Pinned := { name := "ytmbdailffhdonaa", sum := "2e6eb9a388aefe9331ccaa74b11daf8228ed773d169065eb48210eeeb36225fd", checked := Try.checked }
namespace Rows
def none {H : Type} : Left H := { results := [], args := [] }

/-- 'psephoslaw13.PropReady': WHATEVER THE INPUT: true; the input reads as it did. -/
def propReadySpec : ChangeSpec := { name := "propReady", fn := fun _ => fun
  | [d1, d2, d3] => { results := [.lit (.bool true)], args := [d1, d2, d3] }
  | _ => none }
def propReadyRow : OpenClaim := { program := "ytmbdailffhdonaa", sum := "2e6eb9a388aefe9331ccaa74b11daf8228ed773d169065eb48210eeeb36225fd", func := "psephos/psephoslaw13.PropReady", spec := "propReady", apart := false }
def PropReadySaid : Prop := propReadyRow.holds Try.pinned (OpenSpec.ofChange propReadySpec)

/-- ITS FALSE NEIGHBOUR: 'it returns false'. Refute it at one input. -/
def propReadyWrong : ChangeSpec := { name := "propReady", fn := fun _ => fun
  | [d1, d2, d3] => { results := [.lit (.bool false)], args := [d1, d2, d3] }
  | _ => none }
def PropReadyWrongFalsely : Prop := propReadyRow.holds Try.pinned (OpenSpec.ofChange propReadyWrong)

/-- 'psephoslaw13.PropRooms': WHATEVER THE INPUT: true; the input reads as it did. -/
def propRoomsSpec : ChangeSpec := { name := "propRooms", fn := fun _ => fun
  | [d1, d2, d3] => { results := [.lit (.bool true)], args := [d1, d2, d3] }
  | _ => none }
def propRoomsRow : OpenClaim := { program := "ytmbdailffhdonaa", sum := "2e6eb9a388aefe9331ccaa74b11daf8228ed773d169065eb48210eeeb36225fd", func := "psephos/psephoslaw13.PropRooms", spec := "propRooms", apart := false }
def PropRoomsSaid : Prop := propRoomsRow.holds Try.pinned (OpenSpec.ofChange propRoomsSpec)

/-- ITS FALSE NEIGHBOUR: 'it returns false'. Refute it at one input. -/
def propRoomsWrong : ChangeSpec := { name := "propRooms", fn := fun _ => fun
  | [d1, d2, d3] => { results := [.lit (.bool false)], args := [d1, d2, d3] }
  | _ => none }
def PropRoomsWrongFalsely : Prop := propRoomsRow.holds Try.pinned (OpenSpec.ofChange propRoomsWrong)

/-- 'psephoslaw13.PropOrders': WHATEVER THE INPUT: true; the input reads as it did. -/
def propOrdersSpec : ChangeSpec := { name := "propOrders", fn := fun _ => fun
  | [d1, d2, d3] => { results := [.lit (.bool true)], args := [d1, d2, d3] }
  | _ => none }
def propOrdersRow : OpenClaim := { program := "ytmbdailffhdonaa", sum := "2e6eb9a388aefe9331ccaa74b11daf8228ed773d169065eb48210eeeb36225fd", func := "psephos/psephoslaw13.PropOrders", spec := "propOrders", apart := false }
def PropOrdersSaid : Prop := propOrdersRow.holds Try.pinned (OpenSpec.ofChange propOrdersSpec)

/-- ITS FALSE NEIGHBOUR: 'it returns false'. Refute it at one input. -/
def propOrdersWrong : ChangeSpec := { name := "propOrders", fn := fun _ => fun
  | [d1, d2, d3] => { results := [.lit (.bool false)], args := [d1, d2, d3] }
  | _ => none }
def PropOrdersWrongFalsely : Prop := propOrdersRow.holds Try.pinned (OpenSpec.ofChange propOrdersWrong)

/-- 'psephoslaw13.PropDrops': WHATEVER THE INPUT: true; the input reads as it did. -/
def propDropsSpec : ChangeSpec := { name := "propDrops", fn := fun _ => fun
  | [d1, d2, d3] => { results := [.lit (.bool true)], args := [d1, d2, d3] }
  | _ => none }
def propDropsRow : OpenClaim := { program := "ytmbdailffhdonaa", sum := "2e6eb9a388aefe9331ccaa74b11daf8228ed773d169065eb48210eeeb36225fd", func := "psephos/psephoslaw13.PropDrops", spec := "propDrops", apart := false }
def PropDropsSaid : Prop := propDropsRow.holds Try.pinned (OpenSpec.ofChange propDropsSpec)

/-- ITS FALSE NEIGHBOUR: 'it returns false'. Refute it at one input. -/
def propDropsWrong : ChangeSpec := { name := "propDrops", fn := fun _ => fun
  | [d1, d2, d3] => { results := [.lit (.bool false)], args := [d1, d2, d3] }
  | _ => none }
def PropDropsWrongFalsely : Prop := propDropsRow.holds Try.pinned (OpenSpec.ofChange propDropsWrong)

/-- 'psephoslaw13.PropSince': WHATEVER THE INPUT: true; the input reads as it did. -/
def propSinceSpec : ChangeSpec := { name := "propSince", fn := fun _ => fun
  | [d1, d2, d3] => { results := [.lit (.bool true)], args := [d1, d2, d3] }
  | _ => none }
def propSinceRow : OpenClaim := { program := "ytmbdailffhdonaa", sum := "2e6eb9a388aefe9331ccaa74b11daf8228ed773d169065eb48210eeeb36225fd", func := "psephos/psephoslaw13.PropSince", spec := "propSince", unfollowed := true, recurses := true, apart := false }
def PropSinceSaid : Prop := propSinceRow.holds Try.pinned (OpenSpec.ofChange propSinceSpec)

/-- ITS FALSE NEIGHBOUR: 'it returns false'. Refute it at one input. -/
def propSinceWrong : ChangeSpec := { name := "propSince", fn := fun _ => fun
  | [d1, d2, d3] => { results := [.lit (.bool false)], args := [d1, d2, d3] }
  | _ => none }
def PropSinceWrongFalsely : Prop := propSinceRow.holds Try.pinned (OpenSpec.ofChange propSinceWrong)

/-- 'psephoslaw13.PropPlays': WHATEVER THE INPUT: true; the input reads as it did. -/
def propPlaysSpec : ChangeSpec := { name := "propPlays", fn := fun _ => fun
  | [d1, d2, d3, d4] => { results := [.lit (.bool true)], args := [d1, d2, d3, d4] }
  | _ => none }
def propPlaysRow : OpenClaim := { program := "ytmbdailffhdonaa", sum := "2e6eb9a388aefe9331ccaa74b11daf8228ed773d169065eb48210eeeb36225fd", func := "psephos/psephoslaw13.PropPlays", spec := "propPlays", apart := false }
def PropPlaysSaid : Prop := propPlaysRow.holds Try.pinned (OpenSpec.ofChange propPlaysSpec)

/-- ITS FALSE NEIGHBOUR: 'it returns false'. Refute it at one input. -/
def propPlaysWrong : ChangeSpec := { name := "propPlays", fn := fun _ => fun
  | [d1, d2, d3, d4] => { results := [.lit (.bool false)], args := [d1, d2, d3, d4] }
  | _ => none }
def PropPlaysWrongFalsely : Prop := propPlaysRow.holds Try.pinned (OpenSpec.ofChange propPlaysWrong)

/- THE SECOND FORM. 'bulk': how many values and letters a reading holds, each counted each time it is reached (what is shared counts as often as it is met; a slice's spare places count too). A statement '..UptoSaid' is the law's where the arguments, and the package variables that the reading takes, are together of bulk at most 1048576: NARROWER than '..Said'. Prove '..Said' where nothing that the law and all that it calls make is longer than what came in: it says more and counts as full. Else prove '..UptoSaid'. A law counts once. -/
mutual
def uptoBulk {H : Type} : DataW H → Nat
  | .lit (.string bytes) => bytes.length + 1
  | .lit _ => 1
  | .nil => 1
  | .ptr d => uptoBulk d + 1
  | .slice elems spare => uptoBulkAll elems + uptoBulkAll spare + 1
  | .agg parts => uptoBulkAll parts + 1
  | .iface _ d => uptoBulk d + 1
  | .map entries => uptoBulkEntries entries + 1
  | .held _ => 1
def uptoBulkAll {H : Type} : List (DataW H) → Nat
  | [] => 0
  | d :: r => uptoBulk d + uptoBulkAll r
def uptoBulkEntries {H : Type} : List (Lit × DataW H) → Nat
  | [] => 0
  | x :: r => uptoBulkEntry x + uptoBulkEntries r
def uptoBulkEntry {H : Type} : Lit × DataW H → Nat
  | (.string bytes, d) => bytes.length + uptoBulk d + 1
  | (_, d) => uptoBulk d + 1
 end
def uptoSmall : (H : Type) → List (DataW H) → Bool := fun _ ds => decide (uptoBulkAll ds ≤ 1048576)
def OpenSpec.upto (s : _root_.Go.ChangeSpec) : _root_.Go.OpenSpec := { _root_.Go.OpenSpec.ofChange s with cond := some uptoSmall }

/-- 'psephoslaw13.PropReady', WHERE WHAT IT READS IS OF BULK AT MOST 1048576: true; the input reads as it did. -/
def propReadyUptoRow : OpenClaim := { program := "ytmbdailffhdonaa", sum := "2e6eb9a388aefe9331ccaa74b11daf8228ed773d169065eb48210eeeb36225fd", func := "psephos/psephoslaw13.PropReady", spec := "propReady", apart := false, narrowed := true }
def PropReadyUptoSaid : Prop := propReadyUptoRow.holds Try.pinned (OpenSpec.upto propReadySpec)

/-- 'psephoslaw13.PropRooms', WHERE WHAT IT READS IS OF BULK AT MOST 1048576: true; the input reads as it did. -/
def propRoomsUptoRow : OpenClaim := { program := "ytmbdailffhdonaa", sum := "2e6eb9a388aefe9331ccaa74b11daf8228ed773d169065eb48210eeeb36225fd", func := "psephos/psephoslaw13.PropRooms", spec := "propRooms", apart := false, narrowed := true }
def PropRoomsUptoSaid : Prop := propRoomsUptoRow.holds Try.pinned (OpenSpec.upto propRoomsSpec)

/-- 'psephoslaw13.PropOrders', WHERE WHAT IT READS IS OF BULK AT MOST 1048576: true; the input reads as it did. -/
def propOrdersUptoRow : OpenClaim := { program := "ytmbdailffhdonaa", sum := "2e6eb9a388aefe9331ccaa74b11daf8228ed773d169065eb48210eeeb36225fd", func := "psephos/psephoslaw13.PropOrders", spec := "propOrders", apart := false, narrowed := true }
def PropOrdersUptoSaid : Prop := propOrdersUptoRow.holds Try.pinned (OpenSpec.upto propOrdersSpec)

/-- 'psephoslaw13.PropDrops', WHERE WHAT IT READS IS OF BULK AT MOST 1048576: true; the input reads as it did. -/
def propDropsUptoRow : OpenClaim := { program := "ytmbdailffhdonaa", sum := "2e6eb9a388aefe9331ccaa74b11daf8228ed773d169065eb48210eeeb36225fd", func := "psephos/psephoslaw13.PropDrops", spec := "propDrops", apart := false, narrowed := true }
def PropDropsUptoSaid : Prop := propDropsUptoRow.holds Try.pinned (OpenSpec.upto propDropsSpec)

/-- 'psephoslaw13.PropSince', WHERE WHAT IT READS IS OF BULK AT MOST 1048576: true; the input reads as it did. -/
def propSinceUptoRow : OpenClaim := { program := "ytmbdailffhdonaa", sum := "2e6eb9a388aefe9331ccaa74b11daf8228ed773d169065eb48210eeeb36225fd", func := "psephos/psephoslaw13.PropSince", spec := "propSince", unfollowed := true, recurses := true, apart := false, narrowed := true }
def PropSinceUptoSaid : Prop := propSinceUptoRow.holds Try.pinned (OpenSpec.upto propSinceSpec)

/-- 'psephoslaw13.PropPlays', WHERE WHAT IT READS IS OF BULK AT MOST 1048576: true; the input reads as it did. -/
def propPlaysUptoRow : OpenClaim := { program := "ytmbdailffhdonaa", sum := "2e6eb9a388aefe9331ccaa74b11daf8228ed773d169065eb48210eeeb36225fd", func := "psephos/psephoslaw13.PropPlays", spec := "propPlays", apart := false, narrowed := true }
def PropPlaysUptoSaid : Prop := propPlaysUptoRow.holds Try.pinned (OpenSpec.upto propPlaysSpec)

end Rows
end Go.Proofs.Ytmbdailffhdonaa
