/- Operations compared with themselves; a request's form under unlike numbers of clients. What Within returns, by its numbers' ranges. -/
import Derived.Test.YtipmjleohadoeaaGreatGbSo
import Derived.Test.YtipmjleohadoeaaGreatClnSo
import Derived.Test.YtipmjleohadoeaaGreatGaSo
section
namespace Go.Proofs.YtipmjleohadoeaaGreat
open Go.RowKit
set_option linter.unusedVariables false

theorem neq_op (k y v : Int) (w : World) : (binOp .neq 40 (.agg #[.int .i64 k, .int .i64 y, .int .i64 v]) (.agg #[.int .i64 k, .int .i64 y, .int .i64 v])).run Tryz.prog w = .ok (.bool false) w := by
  have h23 : Tryz.prog.stoodInHeld 40 = false := by kernel_rfl
  rw [run_neq_struct]
  simp [go_sem, h23]
theorem exec_neq_op {act : Act} {o : Oper} {w : World} (x y : Operand) (ty : TypeId) (ho : o.op = .binOp .neq 40 x y ty) (k q v : Int) (hx : act.eval x = .agg #[.int .i64 k, .int .i64 q, .int .i64 v]) (hy : act.eval y = .agg #[.int .i64 k, .int .i64 q, .int .i64 v]) :
    (execOp act.eval o).run Tryz.prog w = .ok (.value (.bool false)) w := by
  have hm : Tryz.prog.eqGuardType Tryz.prog.depth 40 = false := by kernel_rfl
  unfold execOp
  simp only [ho, hx, hy, Sem.run_bind, Sem.run_pure, run_eqGuard_agg w .neq 40 x y _ _ hm, Result.andThen_ok, neq_op]
/-- An operation's cells. -/
def oq (o : Int × Int × Int) : List Value := [iv o.1, iv o.2.1, iv o.2.2]
theorem ops_range {w : World} {b o : Nat} {l : List (Int × Int × Int)} (h : Lies w b o (l.flatMap oq)) {k : Nat} (hk : k < l.length) : w.rangeAt b (o + k * 3) (oq l[k]) := by
  intro j v hv
  have hj : j < 3 := (List.getElem?_eq_some_iff.1 hv).1
  have h1 := flat_get (f := oq) (k := 3) (fun _ => rfl) l k j hj
  rw [List.getElem?_eq_getElem hk] at h1
  rw [Nat.add_assoc]
  exact h _ v (by rw [h1]; exact hv)
/-- An entry's cells. -/
def eq7 (a : Psp.Req × Int) : List Value := [iv a.1.c, iv a.1.t, iv a.1.k, iv a.1.y, iv a.1.v, iv a.1.s, iv a.2]
theorem ents_at {w : World} {b : Nat} {l : List (Psp.Req × Int)} (h : Lies w b 0 (l.flatMap eq7)) {k : Nat} (hk : k < l.length) (j : Nat) {v : Value} (hv : (eq7 l[k])[j]? = some v) : w.cell? ⟨b, k * 7 + j, none⟩ = some v := by
  have hj : j < 7 := (List.getElem?_eq_some_iff.1 hv).1
  have h1 := flat_get (f := eq7) (k := 7) (fun _ => rfl) l k j hj
  rw [List.getElem?_eq_getElem hk] at h1
  have h2 := h (k * 7 + j) v (by rw [h1]; exact hv)
  rwa [Nat.zero_add] at h2
/-- Client 0 is a client of a cluster of one, and of two. -/
theorem valid_12 (t k y v : Int) : Psp.valid ⟨0, t, k, y, v, 0⟩ 1 = Psp.valid ⟨0, t, k, y, v, 0⟩ 2 := by
  unfold Psp.valid
  rw [decide_eq_decide]
  dsimp only
  omega
end Go.Proofs.YtipmjleohadoeaaGreat
end
section
namespace Go.Proofs.YtipmjleohadoeaaGreat
open Go.RowKit
theorem within_i (v n : Int) (w : World) (hv : isI64 v) (hn : isI64 n) :
    Calls Tryz.prog 8 #[.int .i64 v, .int .i64 n] w fun e w' => e = .returned (.int .i64 (Psp.within v n)) ∧ w = w' := within_any v n w hv.1 hv.2 hn.1 hn.2
end Go.Proofs.YtipmjleohadoeaaGreat
end
