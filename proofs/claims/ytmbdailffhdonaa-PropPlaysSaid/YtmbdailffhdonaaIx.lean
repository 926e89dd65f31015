/- An element of an array by value. No function in sight. -/
import Derived.Test.YtmbdailffhdonaaMem
namespace Go.Proofs.Ytmbdailffhdonaa
open Go.RowKit
set_option linter.unusedVariables false

/-- An element of an array by value, of one cell each. -/
theorem wpList_index_arr {P : Program} {ops : Array Oper} {rest : List Oper} {o : Oper} {a : Act} {w : World} {Q : Exit → Act → World → Prop} (hgd : o.guard = none) (t : TypeId) (x y : Operand) (ho : o.op = .index t x y)
    (n : Nat) (e : TypeId) (hu : P.underlying t = some (.array n e)) (hagg : ∀ w, (isAgg e).run P w = .ok false w) (hsz : (P.info? e).map (·.size) = some 1)
    (cs : Array Value) (k : IntKind) (j : Nat) (hx : a.eval x = .agg cs) (hy : a.eval y = .int k (j : Int)) (hj : j < n) (v : Value) (hv : cs[j]? = some v)
    (h : wpList P ops Q rest (a.put o.dst v) w) : wpList P ops Q (o :: rest) a w := by
  refine wpList_plain hgd fun K hK => ?_
  unfold Oper.wp execOp
  obtain ⟨i, hi⟩ : ∃ i, P.info? e = some i := by
    cases hi : P.info? e with
    | none => rw [hi] at hsz; simp at hsz
    | some i => exact ⟨i, rfl⟩
  have hs : i.size = 1 := by rw [hi] at hsz; simpa using hsz
  have hlt : 0 ≤ (j : Int) ∧ (j : Int) < (n : Int) := by omega
  have hrun : (Instr.index t (.agg cs) (.int k (j : Int))).run P w = .ok v w := by
    simp [Instr.index, asIntOf, run_underlying hu, hlt, sizeOf, typeInfo, hi, hs, part, hagg, hv]
    intro h; omega
  simp only [ho, hx, hy, Sem.run_bind, Sem.run_pure, hrun, Result.andThen_ok]
  exact hK _ _ h
end Go.Proofs.Ytmbdailffhdonaa
