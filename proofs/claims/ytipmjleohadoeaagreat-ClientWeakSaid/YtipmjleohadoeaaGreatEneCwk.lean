/- Entries of a log compared. -/
import Derived.Test.YtipmjleohadoeaaGreatWk22Cwk
import Derived.Test.YtipmjleohadoeaaGreatGbCwk
namespace Go.Proofs.YtipmjleohadoeaaGreat
open Go.RowKit
set_option linter.unusedVariables false

theorem sizeEn : (Tryz.prog.info? 61).map (·.size) = some 7 := by kernel_rfl
theorem eql_ent (c t k y v s x : Int) (w : World) : (binOp .eql 61 (.agg #[.int .i64 c, .int .i64 t, .int .i64 k, .int .i64 y, .int .i64 v, .int .i64 s, .int .i64 x]) (.agg #[.int .i64 c, .int .i64 t, .int .i64 k, .int .i64 y, .int .i64 v, .int .i64 s, .int .i64 x])).run Tryz.prog w = .ok (.bool true) w := by
  have h1 : Tryz.prog.stoodInHeld 61 = false := by kernel_rfl
  have h25 : Tryz.prog.stoodInHeld 42 = false := by kernel_rfl
  have h23 : Tryz.prog.stoodInHeld 40 = false := by kernel_rfl
  rw [run_eql_struct]
  simp [go_sem, h1, h25, h23]
theorem exec_eql_ent {act : Act} {o : Oper} {w : World} (x y : Operand) (ty : TypeId) (ho : o.op = .binOp .eql 61 x y ty) (c t k q v s r : Int) (hx : act.eval x = .agg #[.int .i64 c, .int .i64 t, .int .i64 k, .int .i64 q, .int .i64 v, .int .i64 s, .int .i64 r]) (hy : act.eval y = .agg #[.int .i64 c, .int .i64 t, .int .i64 k, .int .i64 q, .int .i64 v, .int .i64 s, .int .i64 r]) :
    (execOp act.eval o).run Tryz.prog w = .ok (.value (.bool true)) w := by
  have hm : Tryz.prog.eqGuardType Tryz.prog.depth 61 = false := by kernel_rfl
  unfold execOp
  simp only [ho, hx, hy, Sem.run_bind, Sem.run_pure, run_eqGuard_agg w .eql 61 x y _ _ hm, Result.andThen_ok, eql_ent]
end Go.Proofs.YtipmjleohadoeaaGreat
