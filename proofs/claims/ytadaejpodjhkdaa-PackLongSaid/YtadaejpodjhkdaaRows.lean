/-
  No cell of these rows narrows 'for every input' (looked for: loops, veiled, ifaces, maps, wideKeys, modest, calm, conditions, laid).
  DERIVED. THE GIVEN ROWS OF THIS SEAT. 9 by the template 'for every input the law returns true; each argument reads behind the call as it read before'; 0 by the template 'total and deterministic' (their statements: YtadaejpodjhkdaaTotals.lean).
  GIVEN WITH THE SEED: the statements are not yours to turn. If you find one false, say at which input.
  Laid BY PROGRAM, IN A SANDBOX (cutbox-rows.mjs): the forced cells as the released guide's own fill.sh prints them over the translation f4901dbb2b9eef6a… (all of the seat's roots in one cut). By AI agents, Wed Nov 11 2026. No macro, syntax, notation, axiom, sorry.
-/
import Derived.Test.YtadaejpodjhkdaaChecked
import GoSem.Claim
import GoSem.ClaimJoined
import GoSem.ClaimMapViews
import Derived.JoinedTies
import Derived.KernelRfl
namespace Go.Proofs.Ytadaejpodjhkdaa
/- THE CELL 'sum', in the pinned program and in every row, IS THE sha256 OF THE DUMP (.gsa) THAT YtadaejpodjhkdaaProg.lean LOADS. Nothing in Lean hashes anything: it is a label: what it is worth is what the hold of that sum in a sandbox is worth. -/
noncomputable def Try.pinned : Pinned := { name := "ytadaejpodjhkdaa", sum := "f4901dbb2b9eef6abe95822f0ea2277ff103280f7adca3a8d7a4ef330386215c", checked := Try.checked }
namespace Rows
def none {H : Type} : Left H := { results := [], args := [] }

/-- 'psephoslaw02.PackLists': WHATEVER THE INPUT: true; the input reads as it did. -/
def packListsSpec : ChangeSpec := { name := "packLists", fn := fun _ => fun
  | [d] => { results := [.lit (.bool true)], args := [d] }
  | _ => none }
def packListsRow : OpenClaim := { program := "ytadaejpodjhkdaa", sum := "f4901dbb2b9eef6abe95822f0ea2277ff103280f7adca3a8d7a4ef330386215c", func := "psephos/psephoslaw02.PackLists", spec := "packLists", unfollowed := true, recurses := true, apart := false }
def PackListsSaid : Prop := packListsRow.holds Try.pinned (OpenSpec.ofChange packListsSpec)

/-- ITS FALSE NEIGHBOUR: 'it returns false'. Refute it at one input. -/
def packListsWrong : ChangeSpec := { name := "packLists", fn := fun _ => fun
  | [d] => { results := [.lit (.bool false)], args := [d] }
  | _ => none }
def PackListsWrongFalsely : Prop := packListsRow.holds Try.pinned (OpenSpec.ofChange packListsWrong)

/-- 'psephoslaw02.PackUnlike': WHATEVER THE INPUT: true; the input reads as it did. -/
def packUnlikeSpec : ChangeSpec := { name := "packUnlike", fn := fun _ => fun
  | [d1, d2, d3, d4] => { results := [.lit (.bool true)], args := [d1, d2, d3, d4] }
  | _ => none }
def packUnlikeRow : OpenClaim := { program := "ytadaejpodjhkdaa", sum := "f4901dbb2b9eef6abe95822f0ea2277ff103280f7adca3a8d7a4ef330386215c", func := "psephos/psephoslaw02.PackUnlike", spec := "packUnlike", unfollowed := true, recurses := true, apart := false }
def PackUnlikeSaid : Prop := packUnlikeRow.holds Try.pinned (OpenSpec.ofChange packUnlikeSpec)

/-- ITS FALSE NEIGHBOUR: 'it returns false'. Refute it at one input. -/
def packUnlikeWrong : ChangeSpec := { name := "packUnlike", fn := fun _ => fun
  | [d1, d2, d3, d4] => { results := [.lit (.bool false)], args := [d1, d2, d3, d4] }
  | _ => none }
def PackUnlikeWrongFalsely : Prop := packUnlikeRow.holds Try.pinned (OpenSpec.ofChange packUnlikeWrong)

/-- 'psephoslaw02.PackLong': WHATEVER THE INPUT: true; the input reads as it did. -/
def packLongSpec : ChangeSpec := { name := "packLong", fn := fun _ => fun
  | [d] => { results := [.lit (.bool true)], args := [d] }
  | _ => none }
def packLongRow : OpenClaim := { program := "ytadaejpodjhkdaa", sum := "f4901dbb2b9eef6abe95822f0ea2277ff103280f7adca3a8d7a4ef330386215c", func := "psephos/psephoslaw02.PackLong", spec := "packLong", unfollowed := true, recurses := true, apart := false }
def PackLongSaid : Prop := packLongRow.holds Try.pinned (OpenSpec.ofChange packLongSpec)

/-- ITS FALSE NEIGHBOUR: 'it returns false'. Refute it at one input. -/
def packLongWrong : ChangeSpec := { name := "packLong", fn := fun _ => fun
  | [d] => { results := [.lit (.bool false)], args := [d] }
  | _ => none }
def PackLongWrongFalsely : Prop := packLongRow.holds Try.pinned (OpenSpec.ofChange packLongWrong)

/-- 'psephoslaw02.PackTakes': WHATEVER THE INPUT: true; the input reads as it did. -/
def packTakesSpec : ChangeSpec := { name := "packTakes", fn := fun _ => fun
  | [d1, d2] => { results := [.lit (.bool true)], args := [d1, d2] }
  | _ => none }
def packTakesRow : OpenClaim := { program := "ytadaejpodjhkdaa", sum := "f4901dbb2b9eef6abe95822f0ea2277ff103280f7adca3a8d7a4ef330386215c", func := "psephos/psephoslaw02.PackTakes", spec := "packTakes", unfollowed := true, recurses := true, apart := false }
def PackTakesSaid : Prop := packTakesRow.holds Try.pinned (OpenSpec.ofChange packTakesSpec)

/-- ITS FALSE NEIGHBOUR: 'it returns false'. Refute it at one input. -/
def packTakesWrong : ChangeSpec := { name := "packTakes", fn := fun _ => fun
  | [d1, d2] => { results := [.lit (.bool false)], args := [d1, d2] }
  | _ => none }
def PackTakesWrongFalsely : Prop := packTakesRow.holds Try.pinned (OpenSpec.ofChange packTakesWrong)

/-- 'psephoslaw02.PackReqs': WHATEVER THE INPUT: true; the input reads as it did. -/
def packReqsSpec : ChangeSpec := { name := "packReqs", fn := fun _ => fun
  | [d1, d2] => { results := [.lit (.bool true)], args := [d1, d2] }
  | _ => none }
def packReqsRow : OpenClaim := { program := "ytadaejpodjhkdaa", sum := "f4901dbb2b9eef6abe95822f0ea2277ff103280f7adca3a8d7a4ef330386215c", func := "psephos/psephoslaw02.PackReqs", spec := "packReqs", unfollowed := true, recurses := true, apart := false }
def PackReqsSaid : Prop := packReqsRow.holds Try.pinned (OpenSpec.ofChange packReqsSpec)

/-- ITS FALSE NEIGHBOUR: 'it returns false'. Refute it at one input. -/
def packReqsWrong : ChangeSpec := { name := "packReqs", fn := fun _ => fun
  | [d1, d2] => { results := [.lit (.bool false)], args := [d1, d2] }
  | _ => none }
def PackReqsWrongFalsely : Prop := packReqsRow.holds Try.pinned (OpenSpec.ofChange packReqsWrong)

/-- 'psephoslaw02.PackCuts': WHATEVER THE INPUT: true; the input reads as it did. -/
def packCutsSpec : ChangeSpec := { name := "packCuts", fn := fun _ => fun
  | [d1, d2] => { results := [.lit (.bool true)], args := [d1, d2] }
  | _ => none }
def packCutsRow : OpenClaim := { program := "ytadaejpodjhkdaa", sum := "f4901dbb2b9eef6abe95822f0ea2277ff103280f7adca3a8d7a4ef330386215c", func := "psephos/psephoslaw02.PackCuts", spec := "packCuts", unfollowed := true, recurses := true, apart := false }
def PackCutsSaid : Prop := packCutsRow.holds Try.pinned (OpenSpec.ofChange packCutsSpec)

/-- ITS FALSE NEIGHBOUR: 'it returns false'. Refute it at one input. -/
def packCutsWrong : ChangeSpec := { name := "packCuts", fn := fun _ => fun
  | [d1, d2] => { results := [.lit (.bool false)], args := [d1, d2] }
  | _ => none }
def PackCutsWrongFalsely : Prop := packCutsRow.holds Try.pinned (OpenSpec.ofChange packCutsWrong)

/-- 'psephoslaw02.PackCerts': WHATEVER THE INPUT: true; the input reads as it did. -/
def packCertsSpec : ChangeSpec := { name := "packCerts", fn := fun _ => fun
  | [d1, d2] => { results := [.lit (.bool true)], args := [d1, d2] }
  | _ => none }
def packCertsRow : OpenClaim := { program := "ytadaejpodjhkdaa", sum := "f4901dbb2b9eef6abe95822f0ea2277ff103280f7adca3a8d7a4ef330386215c", func := "psephos/psephoslaw02.PackCerts", spec := "packCerts", unfollowed := true, recurses := true, apart := false }
def PackCertsSaid : Prop := packCertsRow.holds Try.pinned (OpenSpec.ofChange packCertsSpec)

/-- ITS FALSE NEIGHBOUR: 'it returns false'. Refute it at one input. -/
def packCertsWrong : ChangeSpec := { name := "packCerts", fn := fun _ => fun
  | [d1, d2] => { results := [.lit (.bool false)], args := [d1, d2] }
  | _ => none }
def PackCertsWrongFalsely : Prop := packCertsRow.holds Try.pinned (OpenSpec.ofChange packCertsWrong)

/-- 'psephoslaw02.PackParts': WHATEVER THE INPUT: true; the input reads as it did. -/
def packPartsSpec : ChangeSpec := { name := "packParts", fn := fun _ => fun
  | [d] => { results := [.lit (.bool true)], args := [d] }
  | _ => none }
def packPartsRow : OpenClaim := { program := "ytadaejpodjhkdaa", sum := "f4901dbb2b9eef6abe95822f0ea2277ff103280f7adca3a8d7a4ef330386215c", func := "psephos/psephoslaw02.PackParts", spec := "packParts", unfollowed := true, recurses := true, apart := false }
def PackPartsSaid : Prop := packPartsRow.holds Try.pinned (OpenSpec.ofChange packPartsSpec)

/-- ITS FALSE NEIGHBOUR: 'it returns false'. Refute it at one input. -/
def packPartsWrong : ChangeSpec := { name := "packParts", fn := fun _ => fun
  | [d] => { results := [.lit (.bool false)], args := [d] }
  | _ => none }
def PackPartsWrongFalsely : Prop := packPartsRow.holds Try.pinned (OpenSpec.ofChange packPartsWrong)

/-- 'psephoslaw02.PackBack': WHATEVER THE INPUT: true; the input reads as it did. -/
def packBackSpec : ChangeSpec := { name := "packBack", fn := fun _ => fun
  | [d1, d2] => { results := [.lit (.bool true)], args := [d1, d2] }
  | _ => none }
def packBackRow : OpenClaim := { program := "ytadaejpodjhkdaa", sum := "f4901dbb2b9eef6abe95822f0ea2277ff103280f7adca3a8d7a4ef330386215c", func := "psephos/psephoslaw02.PackBack", spec := "packBack", unfollowed := true, recurses := true, apart := false }
def PackBackSaid : Prop := packBackRow.holds Try.pinned (OpenSpec.ofChange packBackSpec)

/-- ITS FALSE NEIGHBOUR: 'it returns false'. Refute it at one input. -/
def packBackWrong : ChangeSpec := { name := "packBack", fn := fun _ => fun
  | [d1, d2] => { results := [.lit (.bool false)], args := [d1, d2] }
  | _ => none }
def PackBackWrongFalsely : Prop := packBackRow.holds Try.pinned (OpenSpec.ofChange packBackWrong)

/- THE SECOND FORM. 'bulk': how many values and letters a reading holds, each counted each time it is reached (what is shared counts as often as it is met; a slice's spare places count too). A statement '..UptoSaid' is the law's where the arguments, and the package variables that the reading takes, are together of bulk at most 1048576: NARROWER than '..Said'. Prove '..Said' where nothing that the law and all that it calls make is longer than what came in: it says more and counts as full. Else prove '..UptoSaid'. A law counts once. -/
mutual
def uptoBulk {H : Type} : DataW H → Nat
  | .lit (.string bytes) => bytes.length + 1
  | .lit _ => 1
  | .nil => 1
  | .ptr d => uptoBulk d + 1
  | .slice elems spare => uptoBulkAll elems + uptoBulkAll spare + 1
  | .agg parts => uptoBulkAll parts + 1
  | .iface _ d => uptoBulk d + 1
  | .map entries => uptoBulkEntries entries + 1
  | .held _ => 1
def uptoBulkAll {H : Type} : List (DataW H) → Nat
  | [] => 0
  | d :: r => uptoBulk d + uptoBulkAll r
def uptoBulkEntries {H : Type} : List (Lit × DataW H) → Nat
  | [] => 0
  | x :: r => uptoBulkEntry x + uptoBulkEntries r
def uptoBulkEntry {H : Type} : Lit × DataW H → Nat
  | (.string bytes, d) => bytes.length + uptoBulk d + 1
  | (_, d) => uptoBulk d + 1
 end
def uptoSmall : (H : Type) → List (DataW H) → Bool := fun _ ds => decide (uptoBulkAll ds ≤ 1048576)
def OpenSpec.upto (s : _root_.Go.ChangeSpec) : _root_.Go.OpenSpec := { _root_.Go.OpenSpec.ofChange s with cond := some uptoSmall }

/-- 'psephoslaw02.PackLists', WHERE WHAT IT READS IS OF BULK AT MOST 1048576: true; the input reads as it did. -/
def packListsUptoRow : OpenClaim := { program := "ytadaejpodjhkdaa", sum := "f4901dbb2b9eef6abe95822f0ea2277ff103280f7adca3a8d7a4ef330386215c", func := "psephos/psephoslaw02.PackLists", spec := "packLists", unfollowed := true, recurses := true, apart := false, narrowed := true }
def PackListsUptoSaid : Prop := packListsUptoRow.holds Try.pinned (OpenSpec.upto packListsSpec)

/-- 'psephoslaw02.PackUnlike', WHERE WHAT IT READS IS OF BULK AT MOST 1048576: true; the input reads as it did. -/
def packUnlikeUptoRow : OpenClaim := { program := "ytadaejpodjhkdaa", sum := "f4901dbb2b9eef6abe95822f0ea2277ff103280f7adca3a8d7a4ef330386215c", func := "psephos/psephoslaw02.PackUnlike", spec := "packUnlike", unfollowed := true, recurses := true, apart := false, narrowed := true }
def PackUnlikeUptoSaid : Prop := packUnlikeUptoRow.holds Try.pinned (OpenSpec.upto packUnlikeSpec)

/-- 'psephoslaw02.PackLong', WHERE WHAT IT READS IS OF BULK AT MOST 1048576: true; the input reads as it did. -/
def packLongUptoRow : OpenClaim := { program := "ytadaejpodjhkdaa", sum := "f4901dbb2b9eef6abe95822f0ea2277ff103280f7adca3a8d7a4ef330386215c", func := "psephos/psephoslaw02.PackLong", spec := "packLong", unfollowed := true, recurses := true, apart := false, narrowed := true }
def PackLongUptoSaid : Prop := packLongUptoRow.holds Try.pinned (OpenSpec.upto packLongSpec)

/-- 'psephoslaw02.PackTakes', WHERE WHAT IT READS IS OF BULK AT MOST 1048576: true; the input reads as it did. -/
def packTakesUptoRow : OpenClaim := { program := "ytadaejpodjhkdaa", sum := "f4901dbb2b9eef6abe95822f0ea2277ff103280f7adca3a8d7a4ef330386215c", func := "psephos/psephoslaw02.PackTakes", spec := "packTakes", unfollowed := true, recurses := true, apart := false, narrowed := true }
def PackTakesUptoSaid : Prop := packTakesUptoRow.holds Try.pinned (OpenSpec.upto packTakesSpec)

/-- 'psephoslaw02.PackReqs', WHERE WHAT IT READS IS OF BULK AT MOST 1048576: true; the input reads as it did. -/
def packReqsUptoRow : OpenClaim := { program := "ytadaejpodjhkdaa", sum := "f4901dbb2b9eef6abe95822f0ea2277ff103280f7adca3a8d7a4ef330386215c", func := "psephos/psephoslaw02.PackReqs", spec := "packReqs", unfollowed := true, recurses := true, apart := false, narrowed := true }
def PackReqsUptoSaid : Prop := packReqsUptoRow.holds Try.pinned (OpenSpec.upto packReqsSpec)

/-- 'psephoslaw02.PackCuts', WHERE WHAT IT READS IS OF BULK AT MOST 1048576: true; the input reads as it did. -/
def packCutsUptoRow : OpenClaim := { program := "ytadaejpodjhkdaa", sum := "f4901dbb2b9eef6abe95822f0ea2277ff103280f7adca3a8d7a4ef330386215c", func := "psephos/psephoslaw02.PackCuts", spec := "packCuts", unfollowed := true, recurses := true, apart := false, narrowed := true }
def PackCutsUptoSaid : Prop := packCutsUptoRow.holds Try.pinned (OpenSpec.upto packCutsSpec)

/-- 'psephoslaw02.PackCerts', WHERE WHAT IT READS IS OF BULK AT MOST 1048576: true; the input reads as it did. -/
def packCertsUptoRow : OpenClaim := { program := "ytadaejpodjhkdaa", sum := "f4901dbb2b9eef6abe95822f0ea2277ff103280f7adca3a8d7a4ef330386215c", func := "psephos/psephoslaw02.PackCerts", spec := "packCerts", unfollowed := true, recurses := true, apart := false, narrowed := true }
def PackCertsUptoSaid : Prop := packCertsUptoRow.holds Try.pinned (OpenSpec.upto packCertsSpec)

/-- 'psephoslaw02.PackParts', WHERE WHAT IT READS IS OF BULK AT MOST 1048576: true; the input reads as it did. -/
def packPartsUptoRow : OpenClaim := { program := "ytadaejpodjhkdaa", sum := "f4901dbb2b9eef6abe95822f0ea2277ff103280f7adca3a8d7a4ef330386215c", func := "psephos/psephoslaw02.PackParts", spec := "packParts", unfollowed := true, recurses := true, apart := false, narrowed := true }
def PackPartsUptoSaid : Prop := packPartsUptoRow.holds Try.pinned (OpenSpec.upto packPartsSpec)

/-- 'psephoslaw02.PackBack', WHERE WHAT IT READS IS OF BULK AT MOST 1048576: true; the input reads as it did. -/
def packBackUptoRow : OpenClaim := { program := "ytadaejpodjhkdaa", sum := "f4901dbb2b9eef6abe95822f0ea2277ff103280f7adca3a8d7a4ef330386215c", func := "psephos/psephoslaw02.PackBack", spec := "packBack", unfollowed := true, recurses := true, apart := false, narrowed := true }
def PackBackUptoSaid : Prop := packBackUptoRow.holds Try.pinned (OpenSpec.upto packBackSpec)

end Rows
end Go.Proofs.Ytadaejpodjhkdaa
