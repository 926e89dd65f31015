/-
  No cell of these rows narrows 'for every input' (looked for: loops, veiled, ifaces, maps, wideKeys, modest, calm, conditions, laid).
  DERIVED. THE GIVEN ROWS OF THIS SEAT. 5 by the template 'for every input the law returns true; each argument reads behind the call as it read before'; 0 by the template 'total and deterministic' (their statements: YtipmjleohadoeaaGreatTotals.lean).
  GIVEN WITH THE SEED: the statements are not yours to turn. If you find one false, say at which input.
  Laid BY PROGRAM, IN A SANDBOX (cutbox-rows.mjs): the forced cells as the released guide's own fill.sh prints them over the translation ca52ff0a22648979… (all of the seat's roots in one cut). By AI agents, Wed Nov 11 2026. No macro, syntax, notation, axiom, sorry.
-/
import Derived.Test.YtipmjleohadoeaaGreatChecked
import GoSem.Claim
import GoSem.ClaimJoined
import GoSem.ClaimMapViews
import Derived.JoinedTies
import Derived.KernelRfl
namespace Go.Proofs.YtipmjleohadoeaaGreat
/- THE CELL 'sum', in the pinned program and in every row, IS THE sha256 OF THE DUMP (.gsa) THAT YtipmjleohadoeaaGreatProg.lean LOADS. Nothing in Lean hashes anything: it is a label: what it is worth is what the hold of that sum in a sandbox is worth. -/
noncomputable def Tryz.pinned : Pinned := { name := "ytipmjleohadoeaagreat", sum := "ca52ff0a22648979f39a2b8f16044cf23c52241a52f2e2aa8bdce310a1c54c3a", checked := Tryz.checked }
namespace Rows
def none {H : Type} : Left H := { results := [], args := [] }

/-- 'psephoslaw22.ClientSplit': WHATEVER THE INPUT: true; the input reads as it did. -/
def clientSplitSpec : ChangeSpec := { name := "clientSplit", fn := fun _ => fun
  | [d1, d2, d3] => { results := [.lit (.bool true)], args := [d1, d2, d3] }
  | _ => none }
def clientSplitRow : OpenClaim := { program := "ytipmjleohadoeaagreat", sum := "ca52ff0a22648979f39a2b8f16044cf23c52241a52f2e2aa8bdce310a1c54c3a", func := "psephos/psephoslaw22.ClientSplit", spec := "clientSplit", unfollowed := true, recurses := true, plainKeys := false, apart := false }
def ClientSplitSaid : Prop := clientSplitRow.holds Tryz.pinned (OpenSpec.ofChange clientSplitSpec)

/-- ITS FALSE NEIGHBOUR: 'it returns false'. Refute it at one input. -/
def clientSplitWrong : ChangeSpec := { name := "clientSplit", fn := fun _ => fun
  | [d1, d2, d3] => { results := [.lit (.bool false)], args := [d1, d2, d3] }
  | _ => none }
def ClientSplitWrongFalsely : Prop := clientSplitRow.holds Tryz.pinned (OpenSpec.ofChange clientSplitWrong)

/-- 'psephoslaw22.ClientWeak': WHATEVER THE INPUT: true; the input reads as it did. -/
def clientWeakSpec : ChangeSpec := { name := "clientWeak", fn := fun _ => fun
  | [d1, d2, d3] => { results := [.lit (.bool true)], args := [d1, d2, d3] }
  | _ => none }
def clientWeakRow : OpenClaim := { program := "ytipmjleohadoeaagreat", sum := "ca52ff0a22648979f39a2b8f16044cf23c52241a52f2e2aa8bdce310a1c54c3a", func := "psephos/psephoslaw22.ClientWeak", spec := "clientWeak", unfollowed := true, recurses := true, plainKeys := false, apart := false }
def ClientWeakSaid : Prop := clientWeakRow.holds Tryz.pinned (OpenSpec.ofChange clientWeakSpec)

/-- ITS FALSE NEIGHBOUR: 'it returns false'. Refute it at one input. -/
def clientWeakWrong : ChangeSpec := { name := "clientWeak", fn := fun _ => fun
  | [d1, d2, d3] => { results := [.lit (.bool false)], args := [d1, d2, d3] }
  | _ => none }
def ClientWeakWrongFalsely : Prop := clientWeakRow.holds Tryz.pinned (OpenSpec.ofChange clientWeakWrong)

/-- 'psephoslaw22.ClientOrder': WHATEVER THE INPUT: true; the input reads as it did. -/
def clientOrderSpec : ChangeSpec := { name := "clientOrder", fn := fun _ => fun
  | [d1, d2, d3] => { results := [.lit (.bool true)], args := [d1, d2, d3] }
  | _ => none }
def clientOrderRow : OpenClaim := { program := "ytipmjleohadoeaagreat", sum := "ca52ff0a22648979f39a2b8f16044cf23c52241a52f2e2aa8bdce310a1c54c3a", func := "psephos/psephoslaw22.ClientOrder", spec := "clientOrder", unfollowed := true, recurses := true, plainKeys := false, apart := false }
def ClientOrderSaid : Prop := clientOrderRow.holds Tryz.pinned (OpenSpec.ofChange clientOrderSpec)

/-- ITS FALSE NEIGHBOUR: 'it returns false'. Refute it at one input. -/
def clientOrderWrong : ChangeSpec := { name := "clientOrder", fn := fun _ => fun
  | [d1, d2, d3] => { results := [.lit (.bool false)], args := [d1, d2, d3] }
  | _ => none }
def ClientOrderWrongFalsely : Prop := clientOrderRow.holds Tryz.pinned (OpenSpec.ofChange clientOrderWrong)

/-- 'psephoslaw22.ClientAgain': WHATEVER THE INPUT: true; the input reads as it did. -/
def clientAgainSpec : ChangeSpec := { name := "clientAgain", fn := fun _ => fun
  | [d1, d2, d3] => { results := [.lit (.bool true)], args := [d1, d2, d3] }
  | _ => none }
def clientAgainRow : OpenClaim := { program := "ytipmjleohadoeaagreat", sum := "ca52ff0a22648979f39a2b8f16044cf23c52241a52f2e2aa8bdce310a1c54c3a", func := "psephos/psephoslaw22.ClientAgain", spec := "clientAgain", unfollowed := true, recurses := true, plainKeys := false, apart := false }
def ClientAgainSaid : Prop := clientAgainRow.holds Tryz.pinned (OpenSpec.ofChange clientAgainSpec)

/-- ITS FALSE NEIGHBOUR: 'it returns false'. Refute it at one input. -/
def clientAgainWrong : ChangeSpec := { name := "clientAgain", fn := fun _ => fun
  | [d1, d2, d3] => { results := [.lit (.bool false)], args := [d1, d2, d3] }
  | _ => none }
def ClientAgainWrongFalsely : Prop := clientAgainRow.holds Tryz.pinned (OpenSpec.ofChange clientAgainWrong)

/-- 'psephoslaw22.ClientPlays': WHATEVER THE INPUT: true; the input reads as it did. -/
def clientPlaysSpec : ChangeSpec := { name := "clientPlays", fn := fun _ => fun
  | [d1, d2, d3, d4, d5] => { results := [.lit (.bool true)], args := [d1, d2, d3, d4, d5] }
  | _ => none }
def clientPlaysRow : OpenClaim := { program := "ytipmjleohadoeaagreat", sum := "ca52ff0a22648979f39a2b8f16044cf23c52241a52f2e2aa8bdce310a1c54c3a", func := "psephos/psephoslaw22.ClientPlays", spec := "clientPlays", unfollowed := true, recurses := true, plainKeys := false, apart := false }
def ClientPlaysSaid : Prop := clientPlaysRow.holds Tryz.pinned (OpenSpec.ofChange clientPlaysSpec)

/-- ITS FALSE NEIGHBOUR: 'it returns false'. Refute it at one input. -/
def clientPlaysWrong : ChangeSpec := { name := "clientPlays", fn := fun _ => fun
  | [d1, d2, d3, d4, d5] => { results := [.lit (.bool false)], args := [d1, d2, d3, d4, d5] }
  | _ => none }
def ClientPlaysWrongFalsely : Prop := clientPlaysRow.holds Tryz.pinned (OpenSpec.ofChange clientPlaysWrong)

/- THE SECOND FORM. 'bulk': how many values and letters a reading holds, each counted each time it is reached (what is shared counts as often as it is met; a slice's spare places count too). A statement '..UptoSaid' is the law's where the arguments, and the package variables that the reading takes, are together of bulk at most 1048576: NARROWER than '..Said'. Prove '..Said' where nothing that the law and all that it calls make is longer than what came in: it says more and counts as full. Else prove '..UptoSaid'. A law counts once. -/
mutual
def uptoBulk {H : Type} : DataW H → Nat
  | .lit (.string bytes) => bytes.length + 1
  | .lit _ => 1
  | .nil => 1
  | .ptr d => uptoBulk d + 1
  | .slice elems spare => uptoBulkAll elems + uptoBulkAll spare + 1
  | .agg parts => uptoBulkAll parts + 1
  | .iface _ d => uptoBulk d + 1
  | .map entries => uptoBulkEntries entries + 1
  | .held _ => 1
def uptoBulkAll {H : Type} : List (DataW H) → Nat
  | [] => 0
  | d :: r => uptoBulk d + uptoBulkAll r
def uptoBulkEntries {H : Type} : List (Lit × DataW H) → Nat
  | [] => 0
  | x :: r => uptoBulkEntry x + uptoBulkEntries r
def uptoBulkEntry {H : Type} : Lit × DataW H → Nat
  | (.string bytes, d) => bytes.length + uptoBulk d + 1
  | (_, d) => uptoBulk d + 1
 end
def uptoSmall : (H : Type) → List (DataW H) → Bool := fun _ ds => decide (uptoBulkAll ds ≤ 1048576)
def OpenSpec.upto (s : _root_.Go.ChangeSpec) : _root_.Go.OpenSpec := { _root_.Go.OpenSpec.ofChange s with cond := some uptoSmall }

/-- 'psephoslaw22.ClientSplit', WHERE WHAT IT READS IS OF BULK AT MOST 1048576: true; the input reads as it did. -/
def clientSplitUptoRow : OpenClaim := { program := "ytipmjleohadoeaagreat", sum := "ca52ff0a22648979f39a2b8f16044cf23c52241a52f2e2aa8bdce310a1c54c3a", func := "psephos/psephoslaw22.ClientSplit", spec := "clientSplit", unfollowed := true, recurses := true, plainKeys := false, apart := false, narrowed := true }
def ClientSplitUptoSaid : Prop := clientSplitUptoRow.holds Tryz.pinned (OpenSpec.upto clientSplitSpec)

/-- 'psephoslaw22.ClientWeak', WHERE WHAT IT READS IS OF BULK AT MOST 1048576: true; the input reads as it did. -/
def clientWeakUptoRow : OpenClaim := { program := "ytipmjleohadoeaagreat", sum := "ca52ff0a22648979f39a2b8f16044cf23c52241a52f2e2aa8bdce310a1c54c3a", func := "psephos/psephoslaw22.ClientWeak", spec := "clientWeak", unfollowed := true, recurses := true, plainKeys := false, apart := false, narrowed := true }
def ClientWeakUptoSaid : Prop := clientWeakUptoRow.holds Tryz.pinned (OpenSpec.upto clientWeakSpec)

/-- 'psephoslaw22.ClientOrder', WHERE WHAT IT READS IS OF BULK AT MOST 1048576: true; the input reads as it did. -/
def clientOrderUptoRow : OpenClaim := { program := "ytipmjleohadoeaagreat", sum := "ca52ff0a22648979f39a2b8f16044cf23c52241a52f2e2aa8bdce310a1c54c3a", func := "psephos/psephoslaw22.ClientOrder", spec := "clientOrder", unfollowed := true, recurses := true, plainKeys := false, apart := false, narrowed := true }
def ClientOrderUptoSaid : Prop := clientOrderUptoRow.holds Tryz.pinned (OpenSpec.upto clientOrderSpec)

/-- 'psephoslaw22.ClientAgain', WHERE WHAT IT READS IS OF BULK AT MOST 1048576: true; the input reads as it did. -/
def clientAgainUptoRow : OpenClaim := { program := "ytipmjleohadoeaagreat", sum := "ca52ff0a22648979f39a2b8f16044cf23c52241a52f2e2aa8bdce310a1c54c3a", func := "psephos/psephoslaw22.ClientAgain", spec := "clientAgain", unfollowed := true, recurses := true, plainKeys := false, apart := false, narrowed := true }
def ClientAgainUptoSaid : Prop := clientAgainUptoRow.holds Tryz.pinned (OpenSpec.upto clientAgainSpec)

/-- 'psephoslaw22.ClientPlays', WHERE WHAT IT READS IS OF BULK AT MOST 1048576: true; the input reads as it did. -/
def clientPlaysUptoRow : OpenClaim := { program := "ytipmjleohadoeaagreat", sum := "ca52ff0a22648979f39a2b8f16044cf23c52241a52f2e2aa8bdce310a1c54c3a", func := "psephos/psephoslaw22.ClientPlays", spec := "clientPlays", unfollowed := true, recurses := true, plainKeys := false, apart := false, narrowed := true }
def ClientPlaysUptoSaid : Prop := clientPlaysUptoRow.holds Tryz.pinned (OpenSpec.upto clientPlaysSpec)

end Rows
end Go.Proofs.YtipmjleohadoeaaGreat
