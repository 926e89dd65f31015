/-
  No cell of these rows narrows 'for every input' (looked for: loops, veiled, ifaces, maps, wideKeys, modest, calm, conditions, laid).
  DERIVED. THE GIVEN ROWS OF THIS SEAT. 8 by the template 'for every input the law returns true; each argument reads behind the call as it read before'; 0 by the template 'total and deterministic' (their statements: YtljfoajhobambaaTotals.lean).
  GIVEN WITH THE SEED: the statements are not yours to turn. If you find one false, say at which input.
  Laid BY PROGRAM, IN A SANDBOX (cutbox-rows.mjs): the forced cells as the released guide's own fill.sh prints them over the translation 238e71523105f5f0… (all of the seat's roots in one cut). By AI agents, Wed Nov 11 2026. No macro, syntax, notation, axiom, sorry.
-/
import Derived.Test.YtljfoajhobambaaChecked
import GoSem.Claim
import GoSem.ClaimJoined
import GoSem.ClaimMapViews
import Derived.JoinedTies
import Derived.KernelRfl
namespace Go.Proofs.Ytljfoajhobambaa
/- THE CELL 'sum', in the pinned program and in every row, IS THE sha256 OF THE DUMP (.gsa) THAT YtljfoajhobambaaProg.lean LOADS. Nothing in Lean hashes anything: it is a label: what it is worth is what the hold of that sum in a sandbox is worth. -/
noncomputable def Try.pinned : Pinned := { name := "ytljfoajhobambaa", sum := "238e71523105f5f017437e3146d8390db60762b7beb5136322665d945a46e2c6", checked := Try.checked }
namespace Rows
def none {H : Type} : Left H := { results := [], args := [] }

/-- 'psephoslaw06.MsgsUnlike': WHATEVER THE INPUT: true; the input reads as it did. -/
def msgsUnlikeSpec : ChangeSpec := { name := "msgsUnlike", fn := fun _ => fun
  | [d1, d2, d3] => { results := [.lit (.bool true)], args := [d1, d2, d3] }
  | _ => none }
def msgsUnlikeRow : OpenClaim := { program := "ytljfoajhobambaa", sum := "238e71523105f5f017437e3146d8390db60762b7beb5136322665d945a46e2c6", func := "psephos/psephoslaw06.MsgsUnlike", spec := "msgsUnlike", unfollowed := true, recurses := true, plainKeys := false, apart := false }
def MsgsUnlikeSaid : Prop := msgsUnlikeRow.holds Try.pinned (OpenSpec.ofChange msgsUnlikeSpec)

/-- ITS FALSE NEIGHBOUR: 'it returns false'. Refute it at one input. -/
def msgsUnlikeWrong : ChangeSpec := { name := "msgsUnlike", fn := fun _ => fun
  | [d1, d2, d3] => { results := [.lit (.bool false)], args := [d1, d2, d3] }
  | _ => none }
def MsgsUnlikeWrongFalsely : Prop := msgsUnlikeRow.holds Try.pinned (OpenSpec.ofChange msgsUnlikeWrong)

/-- 'psephoslaw06.MsgsSizes': WHATEVER THE INPUT: true; the input reads as it did. -/
def msgsSizesSpec : ChangeSpec := { name := "msgsSizes", fn := fun _ => fun
  | [d1, d2] => { results := [.lit (.bool true)], args := [d1, d2] }
  | _ => none }
def msgsSizesRow : OpenClaim := { program := "ytljfoajhobambaa", sum := "238e71523105f5f017437e3146d8390db60762b7beb5136322665d945a46e2c6", func := "psephos/psephoslaw06.MsgsSizes", spec := "msgsSizes", unfollowed := true, recurses := true, plainKeys := false, apart := false }
def MsgsSizesSaid : Prop := msgsSizesRow.holds Try.pinned (OpenSpec.ofChange msgsSizesSpec)

/-- ITS FALSE NEIGHBOUR: 'it returns false'. Refute it at one input. -/
def msgsSizesWrong : ChangeSpec := { name := "msgsSizes", fn := fun _ => fun
  | [d1, d2] => { results := [.lit (.bool false)], args := [d1, d2] }
  | _ => none }
def MsgsSizesWrongFalsely : Prop := msgsSizesRow.holds Try.pinned (OpenSpec.ofChange msgsSizesWrong)

/-- 'psephoslaw06.MsgsBodies': WHATEVER THE INPUT: true; the input reads as it did. -/
def msgsBodiesSpec : ChangeSpec := { name := "msgsBodies", fn := fun _ => fun
  | [d] => { results := [.lit (.bool true)], args := [d] }
  | _ => none }
def msgsBodiesRow : OpenClaim := { program := "ytljfoajhobambaa", sum := "238e71523105f5f017437e3146d8390db60762b7beb5136322665d945a46e2c6", func := "psephos/psephoslaw06.MsgsBodies", spec := "msgsBodies", unfollowed := true, recurses := true, plainKeys := false, apart := false }
def MsgsBodiesSaid : Prop := msgsBodiesRow.holds Try.pinned (OpenSpec.ofChange msgsBodiesSpec)

/-- ITS FALSE NEIGHBOUR: 'it returns false'. Refute it at one input. -/
def msgsBodiesWrong : ChangeSpec := { name := "msgsBodies", fn := fun _ => fun
  | [d] => { results := [.lit (.bool false)], args := [d] }
  | _ => none }
def MsgsBodiesWrongFalsely : Prop := msgsBodiesRow.holds Try.pinned (OpenSpec.ofChange msgsBodiesWrong)

/-- 'psephoslaw06.MsgsParses': WHATEVER THE INPUT: true; the input reads as it did. -/
def msgsParsesSpec : ChangeSpec := { name := "msgsParses", fn := fun _ => fun
  | [d] => { results := [.lit (.bool true)], args := [d] }
  | _ => none }
def msgsParsesRow : OpenClaim := { program := "ytljfoajhobambaa", sum := "238e71523105f5f017437e3146d8390db60762b7beb5136322665d945a46e2c6", func := "psephos/psephoslaw06.MsgsParses", spec := "msgsParses", unfollowed := true, recurses := true, plainKeys := false, apart := false }
def MsgsParsesSaid : Prop := msgsParsesRow.holds Try.pinned (OpenSpec.ofChange msgsParsesSpec)

/-- ITS FALSE NEIGHBOUR: 'it returns false'. Refute it at one input. -/
def msgsParsesWrong : ChangeSpec := { name := "msgsParses", fn := fun _ => fun
  | [d] => { results := [.lit (.bool false)], args := [d] }
  | _ => none }
def MsgsParsesWrongFalsely : Prop := msgsParsesRow.holds Try.pinned (OpenSpec.ofChange msgsParsesWrong)

/-- 'psephoslaw06.MsgsSpoilt': WHATEVER THE INPUT: true; the input reads as it did. -/
def msgsSpoiltSpec : ChangeSpec := { name := "msgsSpoilt", fn := fun _ => fun
  | [d1, d2, d3, d4, d5, d6, d7, d8] => { results := [.lit (.bool true)], args := [d1, d2, d3, d4, d5, d6, d7, d8] }
  | _ => none }
def msgsSpoiltRow : OpenClaim := { program := "ytljfoajhobambaa", sum := "238e71523105f5f017437e3146d8390db60762b7beb5136322665d945a46e2c6", func := "psephos/psephoslaw06.MsgsSpoilt", spec := "msgsSpoilt", unfollowed := true, recurses := true, plainKeys := false, apart := false }
def MsgsSpoiltSaid : Prop := msgsSpoiltRow.holds Try.pinned (OpenSpec.ofChange msgsSpoiltSpec)

/-- ITS FALSE NEIGHBOUR: 'it returns false'. Refute it at one input. -/
def msgsSpoiltWrong : ChangeSpec := { name := "msgsSpoilt", fn := fun _ => fun
  | [d1, d2, d3, d4, d5, d6, d7, d8] => { results := [.lit (.bool false)], args := [d1, d2, d3, d4, d5, d6, d7, d8] }
  | _ => none }
def MsgsSpoiltWrongFalsely : Prop := msgsSpoiltRow.holds Try.pinned (OpenSpec.ofChange msgsSpoiltWrong)

/-- 'psephoslaw06.MsgsKinds': WHATEVER THE INPUT: true; the input reads as it did. -/
def msgsKindsSpec : ChangeSpec := { name := "msgsKinds", fn := fun _ => fun
  | [d1, d2, d3, d4, d5, d6, d7] => { results := [.lit (.bool true)], args := [d1, d2, d3, d4, d5, d6, d7] }
  | _ => none }
def msgsKindsRow : OpenClaim := { program := "ytljfoajhobambaa", sum := "238e71523105f5f017437e3146d8390db60762b7beb5136322665d945a46e2c6", func := "psephos/psephoslaw06.MsgsKinds", spec := "msgsKinds", unfollowed := true, recurses := true, plainKeys := false, apart := false }
def MsgsKindsSaid : Prop := msgsKindsRow.holds Try.pinned (OpenSpec.ofChange msgsKindsSpec)

/-- ITS FALSE NEIGHBOUR: 'it returns false'. Refute it at one input. -/
def msgsKindsWrong : ChangeSpec := { name := "msgsKinds", fn := fun _ => fun
  | [d1, d2, d3, d4, d5, d6, d7] => { results := [.lit (.bool false)], args := [d1, d2, d3, d4, d5, d6, d7] }
  | _ => none }
def MsgsKindsWrongFalsely : Prop := msgsKindsRow.holds Try.pinned (OpenSpec.ofChange msgsKindsWrong)

/-- 'psephoslaw06.MsgsBallots': WHATEVER THE INPUT: true; the input reads as it did. -/
def msgsBallotsSpec : ChangeSpec := { name := "msgsBallots", fn := fun _ => fun
  | [d1, d2, d3] => { results := [.lit (.bool true)], args := [d1, d2, d3] }
  | _ => none }
def msgsBallotsRow : OpenClaim := { program := "ytljfoajhobambaa", sum := "238e71523105f5f017437e3146d8390db60762b7beb5136322665d945a46e2c6", func := "psephos/psephoslaw06.MsgsBallots", spec := "msgsBallots", unfollowed := true, recurses := true, plainKeys := false, apart := false }
def MsgsBallotsSaid : Prop := msgsBallotsRow.holds Try.pinned (OpenSpec.ofChange msgsBallotsSpec)

/-- ITS FALSE NEIGHBOUR: 'it returns false'. Refute it at one input. -/
def msgsBallotsWrong : ChangeSpec := { name := "msgsBallots", fn := fun _ => fun
  | [d1, d2, d3] => { results := [.lit (.bool false)], args := [d1, d2, d3] }
  | _ => none }
def MsgsBallotsWrongFalsely : Prop := msgsBallotsRow.holds Try.pinned (OpenSpec.ofChange msgsBallotsWrong)

/-- 'psephoslaw06.MsgsChanged': WHATEVER THE INPUT: true; the input reads as it did. -/
def msgsChangedSpec : ChangeSpec := { name := "msgsChanged", fn := fun _ => fun
  | [d1, d2, d3, d4, d5] => { results := [.lit (.bool true)], args := [d1, d2, d3, d4, d5] }
  | _ => none }
def msgsChangedRow : OpenClaim := { program := "ytljfoajhobambaa", sum := "238e71523105f5f017437e3146d8390db60762b7beb5136322665d945a46e2c6", func := "psephos/psephoslaw06.MsgsChanged", spec := "msgsChanged", unfollowed := true, recurses := true, plainKeys := false, apart := false }
def MsgsChangedSaid : Prop := msgsChangedRow.holds Try.pinned (OpenSpec.ofChange msgsChangedSpec)

/-- ITS FALSE NEIGHBOUR: 'it returns false'. Refute it at one input. -/
def msgsChangedWrong : ChangeSpec := { name := "msgsChanged", fn := fun _ => fun
  | [d1, d2, d3, d4, d5] => { results := [.lit (.bool false)], args := [d1, d2, d3, d4, d5] }
  | _ => none }
def MsgsChangedWrongFalsely : Prop := msgsChangedRow.holds Try.pinned (OpenSpec.ofChange msgsChangedWrong)

/- THE SECOND FORM. 'bulk': how many values and letters a reading holds, each counted each time it is reached (what is shared counts as often as it is met; a slice's spare places count too). A statement '..UptoSaid' is the law's where the arguments, and the package variables that the reading takes, are together of bulk at most 1048576: NARROWER than '..Said'. Prove '..Said' where nothing that the law and all that it calls make is longer than what came in: it says more and counts as full. Else prove '..UptoSaid'. A law counts once. -/
mutual
def uptoBulk {H : Type} : DataW H → Nat
  | .lit (.string bytes) => bytes.length + 1
  | .lit _ => 1
  | .nil => 1
  | .ptr d => uptoBulk d + 1
  | .slice elems spare => uptoBulkAll elems + uptoBulkAll spare + 1
  | .agg parts => uptoBulkAll parts + 1
  | .iface _ d => uptoBulk d + 1
  | .map entries => uptoBulkEntries entries + 1
  | .held _ => 1
def uptoBulkAll {H : Type} : List (DataW H) → Nat
  | [] => 0
  | d :: r => uptoBulk d + uptoBulkAll r
def uptoBulkEntries {H : Type} : List (Lit × DataW H) → Nat
  | [] => 0
  | x :: r => uptoBulkEntry x + uptoBulkEntries r
def uptoBulkEntry {H : Type} : Lit × DataW H → Nat
  | (.string bytes, d) => bytes.length + uptoBulk d + 1
  | (_, d) => uptoBulk d + 1
 end
def uptoSmall : (H : Type) → List (DataW H) → Bool := fun _ ds => decide (uptoBulkAll ds ≤ 1048576)
def OpenSpec.upto (s : _root_.Go.ChangeSpec) : _root_.Go.OpenSpec := { _root_.Go.OpenSpec.ofChange s with cond := some uptoSmall }

/-- 'psephoslaw06.MsgsUnlike', WHERE WHAT IT READS IS OF BULK AT MOST 1048576: true; the input reads as it did. -/
def msgsUnlikeUptoRow : OpenClaim := { program := "ytljfoajhobambaa", sum := "238e71523105f5f017437e3146d8390db60762b7beb5136322665d945a46e2c6", func := "psephos/psephoslaw06.MsgsUnlike", spec := "msgsUnlike", unfollowed := true, recurses := true, plainKeys := false, apart := false, narrowed := true }
def MsgsUnlikeUptoSaid : Prop := msgsUnlikeUptoRow.holds Try.pinned (OpenSpec.upto msgsUnlikeSpec)

/-- 'psephoslaw06.MsgsSizes', WHERE WHAT IT READS IS OF BULK AT MOST 1048576: true; the input reads as it did. -/
def msgsSizesUptoRow : OpenClaim := { program := "ytljfoajhobambaa", sum := "238e71523105f5f017437e3146d8390db60762b7beb5136322665d945a46e2c6", func := "psephos/psephoslaw06.MsgsSizes", spec := "msgsSizes", unfollowed := true, recurses := true, plainKeys := false, apart := false, narrowed := true }
def MsgsSizesUptoSaid : Prop := msgsSizesUptoRow.holds Try.pinned (OpenSpec.upto msgsSizesSpec)

/-- 'psephoslaw06.MsgsBodies', WHERE WHAT IT READS IS OF BULK AT MOST 1048576: true; the input reads as it did. -/
def msgsBodiesUptoRow : OpenClaim := { program := "ytljfoajhobambaa", sum := "238e71523105f5f017437e3146d8390db60762b7beb5136322665d945a46e2c6", func := "psephos/psephoslaw06.MsgsBodies", spec := "msgsBodies", unfollowed := true, recurses := true, plainKeys := false, apart := false, narrowed := true }
def MsgsBodiesUptoSaid : Prop := msgsBodiesUptoRow.holds Try.pinned (OpenSpec.upto msgsBodiesSpec)

/-- 'psephoslaw06.MsgsParses', WHERE WHAT IT READS IS OF BULK AT MOST 1048576: true; the input reads as it did. -/
def msgsParsesUptoRow : OpenClaim := { program := "ytljfoajhobambaa", sum := "238e71523105f5f017437e3146d8390db60762b7beb5136322665d945a46e2c6", func := "psephos/psephoslaw06.MsgsParses", spec := "msgsParses", unfollowed := true, recurses := true, plainKeys := false, apart := false, narrowed := true }
def MsgsParsesUptoSaid : Prop := msgsParsesUptoRow.holds Try.pinned (OpenSpec.upto msgsParsesSpec)

/-- 'psephoslaw06.MsgsSpoilt', WHERE WHAT IT READS IS OF BULK AT MOST 1048576: true; the input reads as it did. -/
def msgsSpoiltUptoRow : OpenClaim := { program := "ytljfoajhobambaa", sum := "238e71523105f5f017437e3146d8390db60762b7beb5136322665d945a46e2c6", func := "psephos/psephoslaw06.MsgsSpoilt", spec := "msgsSpoilt", unfollowed := true, recurses := true, plainKeys := false, apart := false, narrowed := true }
def MsgsSpoiltUptoSaid : Prop := msgsSpoiltUptoRow.holds Try.pinned (OpenSpec.upto msgsSpoiltSpec)

/-- 'psephoslaw06.MsgsKinds', WHERE WHAT IT READS IS OF BULK AT MOST 1048576: true; the input reads as it did. -/
def msgsKindsUptoRow : OpenClaim := { program := "ytljfoajhobambaa", sum := "238e71523105f5f017437e3146d8390db60762b7beb5136322665d945a46e2c6", func := "psephos/psephoslaw06.MsgsKinds", spec := "msgsKinds", unfollowed := true, recurses := true, plainKeys := false, apart := false, narrowed := true }
def MsgsKindsUptoSaid : Prop := msgsKindsUptoRow.holds Try.pinned (OpenSpec.upto msgsKindsSpec)

/-- 'psephoslaw06.MsgsBallots', WHERE WHAT IT READS IS OF BULK AT MOST 1048576: true; the input reads as it did. -/
def msgsBallotsUptoRow : OpenClaim := { program := "ytljfoajhobambaa", sum := "238e71523105f5f017437e3146d8390db60762b7beb5136322665d945a46e2c6", func := "psephos/psephoslaw06.MsgsBallots", spec := "msgsBallots", unfollowed := true, recurses := true, plainKeys := false, apart := false, narrowed := true }
def MsgsBallotsUptoSaid : Prop := msgsBallotsUptoRow.holds Try.pinned (OpenSpec.upto msgsBallotsSpec)

/-- 'psephoslaw06.MsgsChanged', WHERE WHAT IT READS IS OF BULK AT MOST 1048576: true; the input reads as it did. -/
def msgsChangedUptoRow : OpenClaim := { program := "ytljfoajhobambaa", sum := "238e71523105f5f017437e3146d8390db60762b7beb5136322665d945a46e2c6", func := "psephos/psephoslaw06.MsgsChanged", spec := "msgsChanged", unfollowed := true, recurses := true, plainKeys := false, apart := false, narrowed := true }
def MsgsChangedUptoSaid : Prop := msgsChangedUptoRow.holds Try.pinned (OpenSpec.upto msgsChangedSpec)

end Rows
end Go.Proofs.Ytljfoajhobambaa
