/- The example of the document's chapter 2; HeavyCerts, Heavy. -/
import Derived.Test.YtnlnkcljehafkaaPe
import Derived.Test.YtnlnkcljehafkaaCode2
namespace Go.Proofs.Ytnlnkcljehafkaa
open Go.RowKit
set_option linter.unusedVariables false

theorem bytes_read {w w' : World} {v : Value} {l : List UInt8} {base : Nat} (h : w.ownsRow base 5 1 v l.length (l.map bv)) (hb : Below w.heap.size w w') : Rd w' w'.heap.size 1 v l.length (l.map bv) :=
  Rd.of_own (own_below h hb)
theorem Keeps.on {w w' : World} (hb : Below w.heap.size w w') : Keeps (fun b => b < w.heap.size) (fun b => b < w'.heap.size) w w' := ⟨hb.size, fun b h _ => ⟨hb.block b h, Nat.lt_of_lt_of_le h hb.size⟩⟩
theorem Below.then {B : Nat} {w w' w'' : World} (h : Below B w w') (g : Below w'.heap.size w' w'') (hB : B ≤ w'.heap.size) : Below B w w'' := h.trans (g.mono hB)
theorem enc_wake : Psp.encL Psp.encV [⟨2, 300⟩] = [1, 2, 172, 2] := by
  simp [Psp.encL, Psp.encV, Psp.encN, Psp.num]
theorem ok_wake : Psp.okL Psp.okV [⟨2, 300⟩] = true := by decide

/-- More certificates than are played. -/
def heavyC (l : List Psp.Cert) : Bool := decide (20 < l.length) || l.any fun c => decide (12 < c.b.length) || decide (30 < c.o.length)
theorem heavyC_no {l : List Psp.Cert} (h : heavyC l = false) : l.length ≤ 20 ∧ ∀ c ∈ l, c.b.length ≤ 12 ∧ c.o.length ≤ 30 := by
  unfold heavyC at h
  rw [Bool.or_eq_false_iff, decide_eq_false_iff_not, List.any_eq_false] at h
  refine ⟨by omega, fun c hc => ?_⟩
  have := h.2 c hc
  simp at this
  omega

end Go.Proofs.Ytnlnkcljehafkaa
