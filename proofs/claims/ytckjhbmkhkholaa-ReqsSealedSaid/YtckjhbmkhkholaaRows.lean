/-
  No cell of these rows narrows 'for every input' (looked for: loops, veiled, ifaces, maps, wideKeys, modest, calm, conditions, laid).
  DERIVED. THE GIVEN ROWS OF THIS SEAT. 5 by the template 'for every input the law returns true; each argument reads behind the call as it read before'; 0 by the template 'total and deterministic' (their statements: YtckjhbmkhkholaaTotals.lean).
  GIVEN WITH THE SEED: the statements are not yours to turn. If you find one false, say at which input.
  Laid BY PROGRAM, IN A SANDBOX (cutbox-rows.mjs): the forced cells as the released guide's own fill.sh prints them over the translation 969f7ce66f9058bb… (all of the seat's roots in one cut). By AI agents, Wed Nov 11 2026. No macro, syntax, notation, axiom, sorry.
-/
import Derived.Test.YtckjhbmkhkholaaChecked
import GoSem.Claim
import GoSem.ClaimJoined
import GoSem.ClaimMapViews
import Derived.JoinedTies
import Derived.KernelRfl
namespace Go.Proofs.Ytckjhbmkhkholaa
/- THE CELL 'sum', in the pinned program and in every row, IS THE sha256 OF THE DUMP (.gsa) THAT YtckjhbmkhkholaaProg.lean LOADS. Nothing in Lean hashes anything: it is a label: what it is worth is what the hold of that sum in a sandbox is worth. -/
noncomputable def Try.pinned : Pinned := { name := "ytckjhbmkhkholaa", sum := "969f7ce66f9058bb34b01d38e611720536098bd56ff1844a1e09dfa89862374c", checked := Try.checked }
namespace Rows
def none {H : Type} : Left H := { results := [], args := [] }

/-- 'psephoslaw05.ReqsValid': WHATEVER THE INPUT: true; the input reads as it did. -/
def reqsValidSpec : ChangeSpec := { name := "reqsValid", fn := fun _ => fun
  | [d1, d2] => { results := [.lit (.bool true)], args := [d1, d2] }
  | _ => none }
def reqsValidRow : OpenClaim := { program := "ytckjhbmkhkholaa", sum := "969f7ce66f9058bb34b01d38e611720536098bd56ff1844a1e09dfa89862374c", func := "psephos/psephoslaw05.ReqsValid", spec := "reqsValid", plainKeys := false, apart := false }
def ReqsValidSaid : Prop := reqsValidRow.holds Try.pinned (OpenSpec.ofChange reqsValidSpec)

/-- ITS FALSE NEIGHBOUR: 'it returns false'. Refute it at one input. -/
def reqsValidWrong : ChangeSpec := { name := "reqsValid", fn := fun _ => fun
  | [d1, d2] => { results := [.lit (.bool false)], args := [d1, d2] }
  | _ => none }
def ReqsValidWrongFalsely : Prop := reqsValidRow.holds Try.pinned (OpenSpec.ofChange reqsValidWrong)

/-- 'psephoslaw05.ReqsMakes': WHATEVER THE INPUT: true; the input reads as it did. -/
def reqsMakesSpec : ChangeSpec := { name := "reqsMakes", fn := fun _ => fun
  | [d1, d2, d3, d4] => { results := [.lit (.bool true)], args := [d1, d2, d3, d4] }
  | _ => none }
def reqsMakesRow : OpenClaim := { program := "ytckjhbmkhkholaa", sum := "969f7ce66f9058bb34b01d38e611720536098bd56ff1844a1e09dfa89862374c", func := "psephos/psephoslaw05.ReqsMakes", spec := "reqsMakes", plainKeys := false, apart := false }
def ReqsMakesSaid : Prop := reqsMakesRow.holds Try.pinned (OpenSpec.ofChange reqsMakesSpec)

/-- ITS FALSE NEIGHBOUR: 'it returns false'. Refute it at one input. -/
def reqsMakesWrong : ChangeSpec := { name := "reqsMakes", fn := fun _ => fun
  | [d1, d2, d3, d4] => { results := [.lit (.bool false)], args := [d1, d2, d3, d4] }
  | _ => none }
def ReqsMakesWrongFalsely : Prop := reqsMakesRow.holds Try.pinned (OpenSpec.ofChange reqsMakesWrong)

/-- 'psephoslaw05.ReqsCompares': WHATEVER THE INPUT: true; the input reads as it did. -/
def reqsComparesSpec : ChangeSpec := { name := "reqsCompares", fn := fun _ => fun
  | [d1, d2, d3] => { results := [.lit (.bool true)], args := [d1, d2, d3] }
  | _ => none }
def reqsComparesRow : OpenClaim := { program := "ytckjhbmkhkholaa", sum := "969f7ce66f9058bb34b01d38e611720536098bd56ff1844a1e09dfa89862374c", func := "psephos/psephoslaw05.ReqsCompares", spec := "reqsCompares", plainKeys := false, apart := false }
def ReqsComparesSaid : Prop := reqsComparesRow.holds Try.pinned (OpenSpec.ofChange reqsComparesSpec)

/-- ITS FALSE NEIGHBOUR: 'it returns false'. Refute it at one input. -/
def reqsComparesWrong : ChangeSpec := { name := "reqsCompares", fn := fun _ => fun
  | [d1, d2, d3] => { results := [.lit (.bool false)], args := [d1, d2, d3] }
  | _ => none }
def ReqsComparesWrongFalsely : Prop := reqsComparesRow.holds Try.pinned (OpenSpec.ofChange reqsComparesWrong)

/-- 'psephoslaw05.ReqsAlone': WHATEVER THE INPUT: true; the input reads as it did. -/
def reqsAloneSpec : ChangeSpec := { name := "reqsAlone", fn := fun _ => fun
  | [d1, d2, d3] => { results := [.lit (.bool true)], args := [d1, d2, d3] }
  | _ => none }
def reqsAloneRow : OpenClaim := { program := "ytckjhbmkhkholaa", sum := "969f7ce66f9058bb34b01d38e611720536098bd56ff1844a1e09dfa89862374c", func := "psephos/psephoslaw05.ReqsAlone", spec := "reqsAlone", plainKeys := false, apart := false }
def ReqsAloneSaid : Prop := reqsAloneRow.holds Try.pinned (OpenSpec.ofChange reqsAloneSpec)

/-- ITS FALSE NEIGHBOUR: 'it returns false'. Refute it at one input. -/
def reqsAloneWrong : ChangeSpec := { name := "reqsAlone", fn := fun _ => fun
  | [d1, d2, d3] => { results := [.lit (.bool false)], args := [d1, d2, d3] }
  | _ => none }
def ReqsAloneWrongFalsely : Prop := reqsAloneRow.holds Try.pinned (OpenSpec.ofChange reqsAloneWrong)

/-- 'psephoslaw05.ReqsSealed': WHATEVER THE INPUT: true; the input reads as it did. -/
def reqsSealedSpec : ChangeSpec := { name := "reqsSealed", fn := fun _ => fun
  | [d1, d2, d3, d4] => { results := [.lit (.bool true)], args := [d1, d2, d3, d4] }
  | _ => none }
def reqsSealedRow : OpenClaim := { program := "ytckjhbmkhkholaa", sum := "969f7ce66f9058bb34b01d38e611720536098bd56ff1844a1e09dfa89862374c", func := "psephos/psephoslaw05.ReqsSealed", spec := "reqsSealed", plainKeys := false, apart := false }
def ReqsSealedSaid : Prop := reqsSealedRow.holds Try.pinned (OpenSpec.ofChange reqsSealedSpec)

/-- ITS FALSE NEIGHBOUR: 'it returns false'. Refute it at one input. -/
def reqsSealedWrong : ChangeSpec := { name := "reqsSealed", fn := fun _ => fun
  | [d1, d2, d3, d4] => { results := [.lit (.bool false)], args := [d1, d2, d3, d4] }
  | _ => none }
def ReqsSealedWrongFalsely : Prop := reqsSealedRow.holds Try.pinned (OpenSpec.ofChange reqsSealedWrong)

/- THE SECOND FORM. 'bulk': how many values and letters a reading holds, each counted each time it is reached (what is shared counts as often as it is met; a slice's spare places count too). A statement '..UptoSaid' is the law's where the arguments, and the package variables that the reading takes, are together of bulk at most 1048576: NARROWER than '..Said'. Prove '..Said' where nothing that the law and all that it calls make is longer than what came in: it says more and counts as full. Else prove '..UptoSaid'. A law counts once. -/
mutual
def uptoBulk {H : Type} : DataW H → Nat
  | .lit (.string bytes) => bytes.length + 1
  | .lit _ => 1
  | .nil => 1
  | .ptr d => uptoBulk d + 1
  | .slice elems spare => uptoBulkAll elems + uptoBulkAll spare + 1
  | .agg parts => uptoBulkAll parts + 1
  | .iface _ d => uptoBulk d + 1
  | .map entries => uptoBulkEntries entries + 1
  | .held _ => 1
def uptoBulkAll {H : Type} : List (DataW H) → Nat
  | [] => 0
  | d :: r => uptoBulk d + uptoBulkAll r
def uptoBulkEntries {H : Type} : List (Lit × DataW H) → Nat
  | [] => 0
  | x :: r => uptoBulkEntry x + uptoBulkEntries r
def uptoBulkEntry {H : Type} : Lit × DataW H → Nat
  | (.string bytes, d) => bytes.length + uptoBulk d + 1
  | (_, d) => uptoBulk d + 1
 end
def uptoSmall : (H : Type) → List (DataW H) → Bool := fun _ ds => decide (uptoBulkAll ds ≤ 1048576)
def OpenSpec.upto (s : _root_.Go.ChangeSpec) : _root_.Go.OpenSpec := { _root_.Go.OpenSpec.ofChange s with cond := some uptoSmall }

/-- 'psephoslaw05.ReqsValid', WHERE WHAT IT READS IS OF BULK AT MOST 1048576: true; the input reads as it did. -/
def reqsValidUptoRow : OpenClaim := { program := "ytckjhbmkhkholaa", sum := "969f7ce66f9058bb34b01d38e611720536098bd56ff1844a1e09dfa89862374c", func := "psephos/psephoslaw05.ReqsValid", spec := "reqsValid", plainKeys := false, apart := false, narrowed := true }
def ReqsValidUptoSaid : Prop := reqsValidUptoRow.holds Try.pinned (OpenSpec.upto reqsValidSpec)

/-- 'psephoslaw05.ReqsMakes', WHERE WHAT IT READS IS OF BULK AT MOST 1048576: true; the input reads as it did. -/
def reqsMakesUptoRow : OpenClaim := { program := "ytckjhbmkhkholaa", sum := "969f7ce66f9058bb34b01d38e611720536098bd56ff1844a1e09dfa89862374c", func := "psephos/psephoslaw05.ReqsMakes", spec := "reqsMakes", plainKeys := false, apart := false, narrowed := true }
def ReqsMakesUptoSaid : Prop := reqsMakesUptoRow.holds Try.pinned (OpenSpec.upto reqsMakesSpec)

/-- 'psephoslaw05.ReqsCompares', WHERE WHAT IT READS IS OF BULK AT MOST 1048576: true; the input reads as it did. -/
def reqsComparesUptoRow : OpenClaim := { program := "ytckjhbmkhkholaa", sum := "969f7ce66f9058bb34b01d38e611720536098bd56ff1844a1e09dfa89862374c", func := "psephos/psephoslaw05.ReqsCompares", spec := "reqsCompares", plainKeys := false, apart := false, narrowed := true }
def ReqsComparesUptoSaid : Prop := reqsComparesUptoRow.holds Try.pinned (OpenSpec.upto reqsComparesSpec)

/-- 'psephoslaw05.ReqsAlone', WHERE WHAT IT READS IS OF BULK AT MOST 1048576: true; the input reads as it did. -/
def reqsAloneUptoRow : OpenClaim := { program := "ytckjhbmkhkholaa", sum := "969f7ce66f9058bb34b01d38e611720536098bd56ff1844a1e09dfa89862374c", func := "psephos/psephoslaw05.ReqsAlone", spec := "reqsAlone", plainKeys := false, apart := false, narrowed := true }
def ReqsAloneUptoSaid : Prop := reqsAloneUptoRow.holds Try.pinned (OpenSpec.upto reqsAloneSpec)

/-- 'psephoslaw05.ReqsSealed', WHERE WHAT IT READS IS OF BULK AT MOST 1048576: true; the input reads as it did. -/
def reqsSealedUptoRow : OpenClaim := { program := "ytckjhbmkhkholaa", sum := "969f7ce66f9058bb34b01d38e611720536098bd56ff1844a1e09dfa89862374c", func := "psephos/psephoslaw05.ReqsSealed", spec := "reqsSealed", plainKeys := false, apart := false, narrowed := true }
def ReqsSealedUptoSaid : Prop := reqsSealedUptoRow.holds Try.pinned (OpenSpec.upto reqsSealedSpec)

end Rows
end Go.Proofs.Ytckjhbmkhkholaa
