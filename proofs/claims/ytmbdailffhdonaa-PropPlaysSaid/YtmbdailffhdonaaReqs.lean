/- Requests as values: their cells; whether two are the same. -/
import Derived.Test.YtmbdailffhdonaaStep
import Derived.Test.YtmbdailffhdonaaOpen
import Derived.Test.YtmbdailffhdonaaInts
import Derived.Laws.StructEq
namespace Psp
set_option linter.unusedVariables false

structure Req where
  c : Int
  t : Int
  k : Int
  y : Int
  v : Int
  s : Int

theorem Req.eq_iff (a b : Req) : a = b ↔ (a.c = b.c ∧ a.t = b.t ∧ a.k = b.k ∧ a.y = b.y ∧ a.v = b.v ∧ a.s = b.s) := by
  cases a; cases b; simp
instance : DecidableEq Req := fun a b => decidable_of_iff _ (Req.eq_iff a b).symm
end Psp
namespace Go.Proofs.Ytmbdailffhdonaa
open Go.RowKit
set_option linter.unusedVariables false

/-- A request as cells. -/
def rq (r : Psp.Req) : List Value := [iv r.c, iv r.t, iv r.k, iv r.y, iv r.v, iv r.s]
/-- A request's numbers are int64s. -/
def wfReq (r : Psp.Req) : Prop := isI64 r.c ∧ isI64 r.t ∧ isI64 r.k ∧ isI64 r.y ∧ isI64 r.v ∧ isI64 r.s
def rqa (r : Psp.Req) : Array Value := #[.int .i64 r.c, .int .i64 r.t, .int .i64 r.k, .int .i64 r.y, .int .i64 r.v, .int .i64 r.s]
theorem rq_len (r : Psp.Req) : (rq r).length = 6 := rfl
theorem req_row : ∃ fs, Try.prog.underlying 25 = some (.struct fs) := ⟨_, Try.underlying25⟩
theorem req_size : (Try.prog.info? 25).map (·.size) = some 6 := by kernel_rfl
theorem eql_req (a b : Psp.Req) (w : World) : (binOp .eql 25 (.agg (rq a).toArray) (.agg (rq b).toArray)).run Try.prog w = .ok (.bool (decide (a = b))) w := by
  have h25 : Try.prog.stoodInHeld 25 = false := by kernel_rfl
  have h23 : Try.prog.stoodInHeld 23 = false := by kernel_rfl
  have he := Psp.Req.eq_iff a b
  rw [run_eql_struct]
  simp [go_sem, h25, h23, rq, iv]
  by_cases h1 : a.c = b.c
  · by_cases h2 : a.t = b.t
    · by_cases h3 : a.k = b.k
      · by_cases h4 : a.y = b.y
        · by_cases h5 : a.v = b.v
          · by_cases h6 : a.s = b.s <;> simp [*]
          · simp [*]
        · simp [*]
      · simp [*]
    · simp [*]
  · simp [*]
theorem exec_eql_req {act : Act} {o : Oper} {w : World} (x y : Operand) (t : TypeId) (ho : o.op = .binOp .eql 25 x y t) (a b : Psp.Req) (hx : act.eval x = .agg (rq a).toArray) (hy : act.eval y = .agg (rq b).toArray) :
    (execOp act.eval o).run Try.prog w = .ok (.value (.bool (decide (a = b)))) w := by
  have hm : Try.prog.eqGuardType Try.prog.depth 25 = false := by kernel_rfl
  unfold execOp
  simp only [ho, hx, hy, Sem.run_bind, Sem.run_pure, run_eqGuard_agg w .eql 25 x y _ _ hm, Result.andThen_ok, eql_req]
theorem reqE : Elem Try.prog 41 25 6 48 := ⟨Try.underlying41, by kernel_rfl, by decide⟩
theorem rq_one (r : Psp.Req) : ∀ v ∈ rq r, v.oneCell' = true := by
  intro v hv
  simp only [rq, iv, List.mem_cons, List.not_mem_nil, or_false] at hv
  rcases hv with rfl | rfl | rfl | rfl | rfl | rfl <;> rfl
theorem reqs_range {w : World} {b o : Nat} {l : List Psp.Req} (h : Lies w b o (l.flatMap rq)) {k : Nat} (hk : k < l.length) : w.rangeAt b (o + k * 6) (rq l[k]) := by
  intro j v hv
  have hj : j < 6 := (List.getElem?_eq_some_iff.1 hv).1
  have h1 := flat_get (f := rq) (k := 6) (fun _ => rfl) l k j hj
  rw [List.getElem?_eq_getElem hk] at h1
  rw [Nat.add_assoc]
  exact h _ v (by rw [h1]; exact hv)
theorem neq_req (a b : Psp.Req) (w : World) : (binOp .neq 25 (.agg (rq a).toArray) (.agg (rq b).toArray)).run Try.prog w = .ok (.bool (!decide (a = b))) w := by
  have h := eql_req a b w
  rw [run_eql_struct] at h
  rw [run_neq_struct]
  cases hr : (Op.equalIn 10000 25 (.agg (rq a).toArray) (.agg (rq b).toArray)).run Try.prog w with
  | ok x w' =>
    rw [hr] at h
    simp only [Result.andThen_ok] at h ⊢
    simp only [Result.ok.injEq, Value.bool.injEq] at h
    rw [h.1, h.2]
  | halt x w' => rw [hr] at h; simp [Result.andThen] at h
theorem exec_neq_req {act : Act} {o : Oper} {w : World} (x y : Operand) (t : TypeId) (ho : o.op = .binOp .neq 25 x y t) (a b : Psp.Req) (hx : act.eval x = .agg (rq a).toArray) (hy : act.eval y = .agg (rq b).toArray) :
    (execOp act.eval o).run Try.prog w = .ok (.value (.bool (!decide (a = b)))) w := by
  have hm : Try.prog.eqGuardType Try.prog.depth 25 = false := by kernel_rfl
  unfold execOp
  simp only [ho, hx, hy, Sem.run_bind, Sem.run_pure, run_eqGuard_agg w .neq 25 x y _ _ hm, Result.andThen_ok, neq_req]
end Go.Proofs.Ytmbdailffhdonaa
