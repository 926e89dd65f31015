/- The walks of psephoskeep.Same on requests and votes, of Cert, Certs, Parts. Printed by gen_same2.py. -/
import Derived.Test.YtckjhbmkhkholaaPs
import Derived.Test.YtckjhbmkhkholaaSame
namespace Go.Proofs.Ytckjhbmkhkholaa
open Go.RowKit
set_option linter.unusedVariables false

theorem take_eq {α : Type} {l r : List α} {k : Nat} (hl : k < l.length) (hr : k < r.length) (h : l.take k = r.take k) (e : l[k] = r[k]) : l.take (k + 1) = r.take (k + 1) := by
  rw [List.take_succ_eq_append_getElem hl, List.take_succ_eq_append_getElem hr, h, e]
theorem eql_vote (a b : Psp.Vote) (w : World) : (binOp .eql 106 (.agg (vt a).toArray) (.agg (vt b).toArray)).run Try.prog w = .ok (.bool (decide (a = b))) w := by
  have h25 : Try.prog.stoodInHeld 106 = false := by kernel_rfl
  have he : a = b ↔ (a.n = b.n ∧ a.s = b.s) := by cases a; cases b; simp
  rw [run_eql_struct]
  simp [go_sem, h25, vt, iv]
  by_cases h1 : a.n = b.n
  · by_cases h2 : a.s = b.s <;> simp [*]
  · simp [*]
theorem neq_vote (a b : Psp.Vote) (w : World) : (binOp .neq 106 (.agg (vt a).toArray) (.agg (vt b).toArray)).run Try.prog w = .ok (.bool (!decide (a = b))) w := by
  have h := eql_vote a b w
  rw [run_eql_struct] at h
  rw [run_neq_struct]
  cases hr : (Op.equalIn 10000 106 (.agg (vt a).toArray) (.agg (vt b).toArray)).run Try.prog w with
  | ok x w' =>
    rw [hr] at h
    simp only [Result.andThen_ok] at h ⊢
    simp only [Result.ok.injEq, Value.bool.injEq] at h
    rw [h.1, h.2]
  | halt x w' => rw [hr] at h; simp [Result.andThen] at h
theorem exec_neq_vote {act : Act} {o : Oper} {w : World} (x y : Operand) (t : TypeId) (ho : o.op = .binOp .neq 106 x y t) (a b : Psp.Vote) (hx : act.eval x = .agg (vt a).toArray) (hy : act.eval y = .agg (vt b).toArray) :
    (execOp act.eval o).run Try.prog w = .ok (.value (.bool (!decide (a = b)))) w := by
  have hm : Try.prog.eqGuardType Try.prog.depth 106 = false := by kernel_rfl
  unfold execOp
  simp only [ho, hx, hy, Sem.run_bind, Sem.run_pure, run_eqGuard_agg w .neq 106 x y _ _ hm, Result.andThen_ok, neq_vote]

end Go.Proofs.Ytckjhbmkhkholaa
