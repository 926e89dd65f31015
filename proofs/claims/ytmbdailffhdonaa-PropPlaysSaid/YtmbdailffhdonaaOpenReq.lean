/- How requests are opened, as arguments and as elements of slices. -/
import Derived.Test.YtmbdailffhdonaaOpen
import Derived.Test.YtmbdailffhdonaaReqs
import Derived.Deep.Fields
namespace Go.Proofs.Ytmbdailffhdonaa
open Go.RowKit Go.ChangeShapes Go.WideShapes
set_option linter.unusedVariables false

theorem int_cell {H : Type} {enc : TypeId × Value → H} {w : World} {fuel : Nat} {c : Value} {x : DataW H × List MemPlace} (h : DataW.trod enc Try.prog w 0 (fun _ => true) true fuel 3 [c] = some x) : ∃ n, c = iv n ∧ isI64 n := by
  obtain ⟨m, e, _, hw⟩ := DataW.trod_int Try.underlying3 h
  injection e with e _
  exact ⟨m, e, i64_bd hw⟩
theorem some_get {α : Type} {l : List α} {n : Nat} (h : l.length = n) {j : Nat} (hj : j < n) : ∃ y, l[j]? = some y := ⟨l[j]'(by omega), List.getElem?_eq_getElem (by omega)⟩

set_option maxRecDepth 100000 in
theorem opens_op {H : Type} {enc : TypeId × Value → H} {w : World} {fuel : Nat} {cs : List Value} {x : DataW H × List MemPlace} (h : DataW.trod enc Try.prog w 0 (fun _ => true) true fuel 23 cs = some x) :
    ∃ k y v, cs = [iv k, iv y, iv v] ∧ isI64 k ∧ isI64 y ∧ isI64 v := by
  obtain ⟨xs, n, _, _, hl, hlen, hf⟩ := DataW.trod_struct Try.underlying23 h
  have hc : Try.prog.cellsOf 23 = 3 := by kernel_rfl
  have h1 : Try.prog.cellsOf 3 = 1 := by kernel_rfl
  rw [hc] at hl
  match cs, hl with
  | [c0, c1, c2], _ =>
    obtain ⟨y0, e0⟩ := some_get hlen (j := 0) (by simp)
    obtain ⟨y1, e1⟩ := some_get hlen (j := 1) (by simp)
    obtain ⟨y2, e2⟩ := some_get hlen (j := 2) (by simp)
    have g0 := hf 0 _ rfl
    have g1 := hf 1 _ rfl
    have g2 := hf 2 _ rfl
    rw [e0] at g0
    rw [e1] at g1
    rw [e2] at g2
    simp [h1] at g0 g1 g2
    obtain ⟨a, rfl, wa⟩ := int_cell g0
    obtain ⟨b, rfl, wb⟩ := int_cell g1
    obtain ⟨c, rfl, wc⟩ := int_cell g2
    exact ⟨a, b, c, rfl, wa, wb, wc⟩
theorem opens_opv : Opens Try.prog 23 3 (fun o : Int × Int × Int => [iv o.1, iv o.2.1, iv o.2.2]) (fun o => isI64 o.1 ∧ isI64 o.2.1 ∧ isI64 o.2.2) := by
  refine ⟨by kernel_rfl, fun _ => rfl, by omega, fun enc w fuel cs x h => ?_⟩
  obtain ⟨k, y, v, rfl, h1, h2, h3⟩ := opens_op h
  exact ⟨(k, y, v), rfl, h1, h2, h3⟩
set_option maxRecDepth 100000 in
theorem opens_req : Opens Try.prog 25 6 rq wfReq := by
  refine ⟨by kernel_rfl, fun _ => rfl, by omega, fun enc w fuel cs x h => ?_⟩
  obtain ⟨xs, n, _, _, hl, hlen, hf⟩ := DataW.trod_struct Try.underlying25 h
  have hc : Try.prog.cellsOf 25 = 6 := by kernel_rfl
  have h1 : Try.prog.cellsOf 3 = 1 := by kernel_rfl
  have h3 : Try.prog.cellsOf 23 = 3 := by kernel_rfl
  rw [hc] at hl
  match cs, hl with
  | [c0, c1, c2, c3, c4, c5], _ =>
    obtain ⟨y0, e0⟩ := some_get hlen (j := 0) (by simp)
    obtain ⟨y1, e1⟩ := some_get hlen (j := 1) (by simp)
    obtain ⟨y2, e2⟩ := some_get hlen (j := 2) (by simp)
    obtain ⟨y3, e3⟩ := some_get hlen (j := 3) (by simp)
    have g0 := hf 0 _ rfl
    have g1 := hf 1 _ rfl
    have g2 := hf 2 _ rfl
    have g3 := hf 3 _ rfl
    rw [e0] at g0
    rw [e1] at g1
    rw [e2] at g2
    rw [e3] at g3
    simp [h1, h3] at g0 g1 g2 g3
    obtain ⟨a, rfl, wa⟩ := int_cell g0
    obtain ⟨b, rfl, wb⟩ := int_cell g1
    obtain ⟨k, y, v, e, wk, wy, wv⟩ := opens_op g2
    obtain ⟨s, rfl, ws⟩ := int_cell g3
    injection e with e e'
    injection e' with e' e''
    injection e'' with e'' _
    subst e e' e''
    exact ⟨⟨a, b, k, y, v, s⟩, rfl, wa, wb, wk, wy, wv, ws⟩

/-- A value that is a struct, as an argument. -/
theorem open_val {P : Program} {t : TypeId} {fs : Array Field} {k : Nat} {α : Type} {f : α → List Value} {wf : α → Prop} (hs : P.underlying t = some (.struct fs)) (E : Opens P t k f wf)
    {H : Type} {enc : TypeId × Value → H} {w : World} {v : Value} {d : DataW H} {ps : List MemPlace} {r : Reach} {b0 : Nat} (h : DataW.Trod enc P w 0 (fun _ => true) true t v d ps) (hv : Value.okWide P w r b0 t v) : ∃ a, v = .agg (f a).toArray ∧ wf a := by
  obtain ⟨cs, rfl, _⟩ := okWide_struct hs hv
  obtain ⟨fuel, hf⟩ := h
  obtain ⟨a, ha, hw⟩ := E.get enc w fuel _ _ hf
  refine ⟨a, ?_, hw⟩
  have : cs.toList = f a := ha
  rw [← this]
end Go.Proofs.Ytmbdailffhdonaa
