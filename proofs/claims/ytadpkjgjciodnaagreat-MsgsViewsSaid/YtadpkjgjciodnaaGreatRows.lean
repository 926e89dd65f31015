/-
  No cell of these rows narrows 'for every input' (looked for: loops, veiled, ifaces, maps, wideKeys, modest, calm, conditions, laid).
  DERIVED. THE GIVEN ROWS OF THIS SEAT. 5 by the template 'for every input the law returns true; each argument reads behind the call as it read before'; 0 by the template 'total and deterministic' (their statements: YtadpkjgjciodnaaGreatTotals.lean).
  GIVEN WITH THE SEED: the statements are not yours to turn. If you find one false, say at which input.
  Laid BY PROGRAM, IN A SANDBOX (cutbox-rows.mjs): the forced cells as the released guide's own fill.sh prints them over the translation 3b5ae38f137c423a… (all of the seat's roots in one cut). By AI agents, Wed Nov 11 2026. No macro, syntax, notation, axiom, sorry.
-/
import Derived.Test.YtadpkjgjciodnaaGreatChecked
import GoSem.Claim
import GoSem.ClaimJoined
import GoSem.ClaimMapViews
import Derived.JoinedTies
import Derived.KernelRfl
namespace Go.Proofs.YtadpkjgjciodnaaGreat
/- THE CELL 'sum', in the pinned program and in every row, IS THE sha256 OF THE DUMP (.gsa) THAT YtadpkjgjciodnaaGreatProg.lean LOADS. Nothing in Lean hashes anything: it is a label: what it is worth is what the hold of that sum in a sandbox is worth. -/
noncomputable def Tryz.pinned : Pinned := { name := "ytadpkjgjciodnaagreat", sum := "3b5ae38f137c423aa082eb6782b32b822e3ffbe96504da0d4d14b0e5fcb878b6", checked := Tryz.checked }
namespace Rows
def none {H : Type} : Left H := { results := [], args := [] }

/-- 'psephoslaw06.MsgsOthers': WHATEVER THE INPUT: true; the input reads as it did. -/
def msgsOthersSpec : ChangeSpec := { name := "msgsOthers", fn := fun _ => fun
  | [d1, d2, d3] => { results := [.lit (.bool true)], args := [d1, d2, d3] }
  | _ => none }
def msgsOthersRow : OpenClaim := { program := "ytadpkjgjciodnaagreat", sum := "3b5ae38f137c423aa082eb6782b32b822e3ffbe96504da0d4d14b0e5fcb878b6", func := "psephos/psephoslaw06.MsgsOthers", spec := "msgsOthers", unfollowed := true, recurses := true, plainKeys := false, apart := false }
def MsgsOthersSaid : Prop := msgsOthersRow.holds Tryz.pinned (OpenSpec.ofChange msgsOthersSpec)

/-- ITS FALSE NEIGHBOUR: 'it returns false'. Refute it at one input. -/
def msgsOthersWrong : ChangeSpec := { name := "msgsOthers", fn := fun _ => fun
  | [d1, d2, d3] => { results := [.lit (.bool false)], args := [d1, d2, d3] }
  | _ => none }
def MsgsOthersWrongFalsely : Prop := msgsOthersRow.holds Tryz.pinned (OpenSpec.ofChange msgsOthersWrong)

/-- 'psephoslaw06.MsgsProofs': WHATEVER THE INPUT: true; the input reads as it did. -/
def msgsProofsSpec : ChangeSpec := { name := "msgsProofs", fn := fun _ => fun
  | [d1, d2, d3, d4] => { results := [.lit (.bool true)], args := [d1, d2, d3, d4] }
  | _ => none }
def msgsProofsRow : OpenClaim := { program := "ytadpkjgjciodnaagreat", sum := "3b5ae38f137c423aa082eb6782b32b822e3ffbe96504da0d4d14b0e5fcb878b6", func := "psephos/psephoslaw06.MsgsProofs", spec := "msgsProofs", unfollowed := true, recurses := true, plainKeys := false, apart := false }
def MsgsProofsSaid : Prop := msgsProofsRow.holds Tryz.pinned (OpenSpec.ofChange msgsProofsSpec)

/-- ITS FALSE NEIGHBOUR: 'it returns false'. Refute it at one input. -/
def msgsProofsWrong : ChangeSpec := { name := "msgsProofs", fn := fun _ => fun
  | [d1, d2, d3, d4] => { results := [.lit (.bool false)], args := [d1, d2, d3, d4] }
  | _ => none }
def MsgsProofsWrongFalsely : Prop := msgsProofsRow.holds Tryz.pinned (OpenSpec.ofChange msgsProofsWrong)

/-- 'psephoslaw06.MsgsCerts': WHATEVER THE INPUT: true; the input reads as it did. -/
def msgsCertsSpec : ChangeSpec := { name := "msgsCerts", fn := fun _ => fun
  | [d1, d2, d3, d4, d5, d6, d7] => { results := [.lit (.bool true)], args := [d1, d2, d3, d4, d5, d6, d7] }
  | _ => none }
def msgsCertsRow : OpenClaim := { program := "ytadpkjgjciodnaagreat", sum := "3b5ae38f137c423aa082eb6782b32b822e3ffbe96504da0d4d14b0e5fcb878b6", func := "psephos/psephoslaw06.MsgsCerts", spec := "msgsCerts", unfollowed := true, recurses := true, plainKeys := false, apart := false }
def MsgsCertsSaid : Prop := msgsCertsRow.holds Tryz.pinned (OpenSpec.ofChange msgsCertsSpec)

/-- ITS FALSE NEIGHBOUR: 'it returns false'. Refute it at one input. -/
def msgsCertsWrong : ChangeSpec := { name := "msgsCerts", fn := fun _ => fun
  | [d1, d2, d3, d4, d5, d6, d7] => { results := [.lit (.bool false)], args := [d1, d2, d3, d4, d5, d6, d7] }
  | _ => none }
def MsgsCertsWrongFalsely : Prop := msgsCertsRow.holds Tryz.pinned (OpenSpec.ofChange msgsCertsWrong)

/-- 'psephoslaw06.MsgsRaw': WHATEVER THE INPUT: true; the input reads as it did. -/
def msgsRawSpec : ChangeSpec := { name := "msgsRaw", fn := fun _ => fun
  | [d1, d2, d3, d4, d5, d6] => { results := [.lit (.bool true)], args := [d1, d2, d3, d4, d5, d6] }
  | _ => none }
def msgsRawRow : OpenClaim := { program := "ytadpkjgjciodnaagreat", sum := "3b5ae38f137c423aa082eb6782b32b822e3ffbe96504da0d4d14b0e5fcb878b6", func := "psephos/psephoslaw06.MsgsRaw", spec := "msgsRaw", unfollowed := true, recurses := true, plainKeys := false, apart := false }
def MsgsRawSaid : Prop := msgsRawRow.holds Tryz.pinned (OpenSpec.ofChange msgsRawSpec)

/-- ITS FALSE NEIGHBOUR: 'it returns false'. Refute it at one input. -/
def msgsRawWrong : ChangeSpec := { name := "msgsRaw", fn := fun _ => fun
  | [d1, d2, d3, d4, d5, d6] => { results := [.lit (.bool false)], args := [d1, d2, d3, d4, d5, d6] }
  | _ => none }
def MsgsRawWrongFalsely : Prop := msgsRawRow.holds Tryz.pinned (OpenSpec.ofChange msgsRawWrong)

/-- 'psephoslaw06.MsgsViews': WHATEVER THE INPUT: true; the input reads as it did. -/
def msgsViewsSpec : ChangeSpec := { name := "msgsViews", fn := fun _ => fun
  | [d1, d2, d3, d4, d5, d6, d7] => { results := [.lit (.bool true)], args := [d1, d2, d3, d4, d5, d6, d7] }
  | _ => none }
def msgsViewsRow : OpenClaim := { program := "ytadpkjgjciodnaagreat", sum := "3b5ae38f137c423aa082eb6782b32b822e3ffbe96504da0d4d14b0e5fcb878b6", func := "psephos/psephoslaw06.MsgsViews", spec := "msgsViews", unfollowed := true, recurses := true, plainKeys := false, apart := false }
def MsgsViewsSaid : Prop := msgsViewsRow.holds Tryz.pinned (OpenSpec.ofChange msgsViewsSpec)

/-- ITS FALSE NEIGHBOUR: 'it returns false'. Refute it at one input. -/
def msgsViewsWrong : ChangeSpec := { name := "msgsViews", fn := fun _ => fun
  | [d1, d2, d3, d4, d5, d6, d7] => { results := [.lit (.bool false)], args := [d1, d2, d3, d4, d5, d6, d7] }
  | _ => none }
def MsgsViewsWrongFalsely : Prop := msgsViewsRow.holds Tryz.pinned (OpenSpec.ofChange msgsViewsWrong)

/- THE SECOND FORM. 'bulk': how many values and letters a reading holds, each counted each time it is reached (what is shared counts as often as it is met; a slice's spare places count too). A statement '..UptoSaid' is the law's where the arguments, and the package variables that the reading takes, are together of bulk at most 1048576: NARROWER than '..Said'. Prove '..Said' where nothing that the law and all that it calls make is longer than what came in: it says more and counts as full. Else prove '..UptoSaid'. A law counts once. -/
mutual
def uptoBulk {H : Type} : DataW H → Nat
  | .lit (.string bytes) => bytes.length + 1
  | .lit _ => 1
  | .nil => 1
  | .ptr d => uptoBulk d + 1
  | .slice elems spare => uptoBulkAll elems + uptoBulkAll spare + 1
  | .agg parts => uptoBulkAll parts + 1
  | .iface _ d => uptoBulk d + 1
  | .map entries => uptoBulkEntries entries + 1
  | .held _ => 1
def uptoBulkAll {H : Type} : List (DataW H) → Nat
  | [] => 0
  | d :: r => uptoBulk d + uptoBulkAll r
def uptoBulkEntries {H : Type} : List (Lit × DataW H) → Nat
  | [] => 0
  | x :: r => uptoBulkEntry x + uptoBulkEntries r
def uptoBulkEntry {H : Type} : Lit × DataW H → Nat
  | (.string bytes, d) => bytes.length + uptoBulk d + 1
  | (_, d) => uptoBulk d + 1
 end
def uptoSmall : (H : Type) → List (DataW H) → Bool := fun _ ds => decide (uptoBulkAll ds ≤ 1048576)
def OpenSpec.upto (s : _root_.Go.ChangeSpec) : _root_.Go.OpenSpec := { _root_.Go.OpenSpec.ofChange s with cond := some uptoSmall }

/-- 'psephoslaw06.MsgsOthers', WHERE WHAT IT READS IS OF BULK AT MOST 1048576: true; the input reads as it did. -/
def msgsOthersUptoRow : OpenClaim := { program := "ytadpkjgjciodnaagreat", sum := "3b5ae38f137c423aa082eb6782b32b822e3ffbe96504da0d4d14b0e5fcb878b6", func := "psephos/psephoslaw06.MsgsOthers", spec := "msgsOthers", unfollowed := true, recurses := true, plainKeys := false, apart := false, narrowed := true }
def MsgsOthersUptoSaid : Prop := msgsOthersUptoRow.holds Tryz.pinned (OpenSpec.upto msgsOthersSpec)

/-- 'psephoslaw06.MsgsProofs', WHERE WHAT IT READS IS OF BULK AT MOST 1048576: true; the input reads as it did. -/
def msgsProofsUptoRow : OpenClaim := { program := "ytadpkjgjciodnaagreat", sum := "3b5ae38f137c423aa082eb6782b32b822e3ffbe96504da0d4d14b0e5fcb878b6", func := "psephos/psephoslaw06.MsgsProofs", spec := "msgsProofs", unfollowed := true, recurses := true, plainKeys := false, apart := false, narrowed := true }
def MsgsProofsUptoSaid : Prop := msgsProofsUptoRow.holds Tryz.pinned (OpenSpec.upto msgsProofsSpec)

/-- 'psephoslaw06.MsgsCerts', WHERE WHAT IT READS IS OF BULK AT MOST 1048576: true; the input reads as it did. -/
def msgsCertsUptoRow : OpenClaim := { program := "ytadpkjgjciodnaagreat", sum := "3b5ae38f137c423aa082eb6782b32b822e3ffbe96504da0d4d14b0e5fcb878b6", func := "psephos/psephoslaw06.MsgsCerts", spec := "msgsCerts", unfollowed := true, recurses := true, plainKeys := false, apart := false, narrowed := true }
def MsgsCertsUptoSaid : Prop := msgsCertsUptoRow.holds Tryz.pinned (OpenSpec.upto msgsCertsSpec)

/-- 'psephoslaw06.MsgsRaw', WHERE WHAT IT READS IS OF BULK AT MOST 1048576: true; the input reads as it did. -/
def msgsRawUptoRow : OpenClaim := { program := "ytadpkjgjciodnaagreat", sum := "3b5ae38f137c423aa082eb6782b32b822e3ffbe96504da0d4d14b0e5fcb878b6", func := "psephos/psephoslaw06.MsgsRaw", spec := "msgsRaw", unfollowed := true, recurses := true, plainKeys := false, apart := false, narrowed := true }
def MsgsRawUptoSaid : Prop := msgsRawUptoRow.holds Tryz.pinned (OpenSpec.upto msgsRawSpec)

/-- 'psephoslaw06.MsgsViews', WHERE WHAT IT READS IS OF BULK AT MOST 1048576: true; the input reads as it did. -/
def msgsViewsUptoRow : OpenClaim := { program := "ytadpkjgjciodnaagreat", sum := "3b5ae38f137c423aa082eb6782b32b822e3ffbe96504da0d4d14b0e5fcb878b6", func := "psephos/psephoslaw06.MsgsViews", spec := "msgsViews", unfollowed := true, recurses := true, plainKeys := false, apart := false, narrowed := true }
def MsgsViewsUptoSaid : Prop := msgsViewsUptoRow.holds Tryz.pinned (OpenSpec.upto msgsViewsSpec)

end Rows
end Go.Proofs.YtadpkjgjciodnaaGreat
