/- Laws of chapter 2: what they have in common. -/
import Derived.Test.YtnlnkcljehafkaaPh
import Derived.Test.YtnlnkcljehafkaaLater
import Derived.RegionTactic
import Derived.ChangeAlike
import Derived.Test.YtnlnkcljehafkaaRef1
import Derived.Test.YtnlnkcljehafkaaOpenReq
import Derived.Test.YtnlnkcljehafkaaPw2
import Derived.ChangeSame
namespace Go.Proofs.Ytnlnkcljehafkaa
open Go.RowKit
set_option linter.unusedVariables false

/-- The bytes, or none. -/
def res (e : List UInt8) (ok : Bool) : List UInt8 := if ok then e else []
theorem res_yes (e : List UInt8) : res e true = e := rfl
theorem res_no (e : List UInt8) : res e false = [] := rfl


theorem Bytes.open_ {e : List UInt8} {ok : Bool} {w w' : World} {en : Ending} (h : Bytes e ok w en w') :
    ∃ A c, en = .returned (.tuple #[.slice A (res e ok).length c, .bool ok]) ∧ w'.ownsRow w.heap.size 5 1 (.slice A (res e ok).length c) (res e ok).length ((res e ok).map bv) ∧ Below w.heap.size w w' := by
  obtain ⟨v, h1, h2, h3⟩ := h
  have h2' : w'.ownsRow w.heap.size 5 1 v (res e ok).length ((res e ok).map bv) := h2
  obtain ⟨A, c, rfl, _⟩ := own_slice h2'
  exact ⟨A, c, h1, h2', h3⟩
theorem Bytes.rd {e b : List UInt8} {ok o : Bool} {w w' : World} {en : Ending} (h : Bytes e ok w en w') (hb : res e ok = b) (ho : ok = o) :
    ∃ A c, en = .returned (.tuple #[.slice A b.length c, .bool o]) ∧ RdP w' (fun k => k < w'.heap.size) 1 (.slice A b.length c) b.length (b.map bv) ∧ Below w.heap.size w w' := by
  subst hb ho
  obtain ⟨A, c, h1, h2, h3⟩ := h.open_
  exact ⟨A, c, h1, (Rd.of_own h2).to_p (Nat.le_refl _), h3⟩
theorem Keeps.drewN (w : World) (q : Nat) : Keeps (fun b => b < w.heap.size) (fun b => b < (w.drewN q).heap.size) w (w.drewN q) := Keeps.on (below_drewN (Below.refl _ _) q)
theorem list_neq_req {ops : Array Oper} {Q : Exit → Act → World → Prop} {act : Act} {w : World} {o : Oper} {rest : List Oper} (hw : Region.wanted o (yielded ops act.tmps) = true) (x y : Operand) (t : TypeId) (ho : o.op = .binOp .neq 26 x y t)
    (a b : Psp.Req) (hx : act.eval x = .agg (rq a).toArray) (hy : act.eval y = .agg (rq b).toArray) (v : Bool) (hv : (!decide (a = b)) = v) (h : wpList Try.prog ops Q rest (act.put o.dst (.bool v)) w) : wpList Try.prog ops Q (o :: rest) act w :=
  list_val hw _ (by rw [← hv]; exact exec_neq_req x y t ho a b hx hy) h
theorem RdP.cut {w : World} {P : Nat → Prop} {A : Option Addr} {n c : Nat} {l : List UInt8} (h : RdP w P 1 (.slice A n c) l.length (l.map bv)) {k : Nat} (hk : k ≤ l.length) : RdP w P 1 (.slice A k c) (l.take k).length ((l.take k).map bv) := by
  obtain ⟨h1, A', c', e, h3, h4, h5⟩ := h
  injection e with e1 _ e2
  subst e1 e2
  have hlen : (l.take k).length = k := by rw [List.length_take]; omega
  rw [hlen]
  refine ⟨by simp; omega, A, c, rfl, by omega, h4, fun hn => ?_⟩
  obtain ⟨b, o, e, hb, hlt, hl⟩ := h5 (by omega)
  refine ⟨b, o, e, hb, hlt, fun j u hu => ?_⟩
  rw [List.map_take, List.getElem?_take] at hu
  split at hu
  · exact hl j u hu
  · cases hu
theorem own_p {w W : World} {base : Nat} {v : Value} {l : List UInt8} (h : w.ownsRow base 5 1 v l.length (l.map bv)) (hb : Below w.heap.size w W) : RdP W (fun k => k < W.heap.size) 1 v l.length (l.map bv) :=
  (Rd.of_own (own_below h hb)).to_p (Nat.le_refl _)
theorem below_q {B : Nat} {w W : World} (h : Below B w W) (q : Nat) : Below B w (W.drewN q) := below_drewN h q

end Go.Proofs.Ytnlnkcljehafkaa
