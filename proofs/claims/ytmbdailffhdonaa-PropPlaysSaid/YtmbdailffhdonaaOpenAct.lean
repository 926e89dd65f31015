/- How acts are opened; '!=' between two requests. -/
import Derived.Test.YtmbdailffhdonaaOpenReq
import Derived.Test.YtmbdailffhdonaaTab
namespace Psp
structure Act where
  d : Int
  node : Int
  clock : Int
  client : Int
  n : Int
  r : Req
end Psp
namespace Go.Proofs.Ytmbdailffhdonaa
open Go.RowKit Go.ChangeShapes Go.WideShapes
set_option linter.unusedVariables false

def ac (a : Psp.Act) : List Value := [iv a.d, iv a.node, iv a.clock, iv a.client, iv a.n, iv a.r.c, iv a.r.t, iv a.r.k, iv a.r.y, iv a.r.v, iv a.r.s]
def wfAct (a : Psp.Act) : Prop := isI64 a.d ∧ isI64 a.node ∧ isI64 a.clock ∧ isI64 a.client ∧ isI64 a.n ∧ wfReq a.r
theorem opens_act : Opens Try.prog 51 11 ac wfAct := by
  refine ⟨by kernel_rfl, fun _ => rfl, by omega, fun enc w fuel cs x h => ?_⟩
  obtain ⟨xs, n, _, _, hl, hlen, hf⟩ := DataW.trod_struct Try.underlying51 h
  have hc : Try.prog.cellsOf 51 = 11 := by kernel_rfl
  have h1 : Try.prog.cellsOf 3 = 1 := by kernel_rfl
  have h6 : Try.prog.cellsOf 25 = 6 := by kernel_rfl
  rw [hc] at hl
  match cs, hl with
  | [c0, c1, c2, c3, c4, c5, c6, c7, c8, c9, c10], _ =>
    obtain ⟨y0, e0⟩ := some_get hlen (j := 0) (by simp)
    obtain ⟨y1, e1⟩ := some_get hlen (j := 1) (by simp)
    obtain ⟨y2, e2⟩ := some_get hlen (j := 2) (by simp)
    obtain ⟨y3, e3⟩ := some_get hlen (j := 3) (by simp)
    obtain ⟨y4, e4⟩ := some_get hlen (j := 4) (by simp)
    obtain ⟨y5, e5⟩ := some_get hlen (j := 5) (by simp)
    have g0 := hf 0 _ rfl
    have g1 := hf 1 _ rfl
    have g2 := hf 2 _ rfl
    have g3 := hf 3 _ rfl
    have g4 := hf 4 _ rfl
    have g5 := hf 5 _ rfl
    rw [e0] at g0
    rw [e1] at g1
    rw [e2] at g2
    rw [e3] at g3
    rw [e4] at g4
    rw [e5] at g5
    simp [h1, h6] at g0 g1 g2 g3 g4 g5
    obtain ⟨a, rfl, wa⟩ := int_cell g0
    obtain ⟨b, rfl, wb⟩ := int_cell g1
    obtain ⟨c, rfl, wc⟩ := int_cell g2
    obtain ⟨d, rfl, wd⟩ := int_cell g3
    obtain ⟨e, rfl, we⟩ := int_cell g4
    obtain ⟨r, er, wr⟩ := opens_req.get enc w n _ _ g5
    unfold rq at er
    injection er with q0 er
    injection er with q1 er
    injection er with q2 er
    injection er with q3 er
    injection er with q4 er
    injection er with q5 _
    subst q0 q1 q2 q3 q4 q5
    exact ⟨⟨a, b, c, d, e, r⟩, rfl, wa, wb, wc, wd, we, wr⟩
theorem act_cells {w : World} {b o : Nat} {l : List Psp.Act} (h : Lies w b o (l.flatMap ac)) {k : Nat} (hk : k < l.length) : ∀ j v, (ac l[k])[j]? = some v → w.cell? ⟨b, o + k * 11 + j, none⟩ = some v := by
  intro j v hv
  have hj : j < 11 := (List.getElem?_eq_some_iff.1 hv).1
  have h1 := flat_get (f := ac) (k := 11) (fun _ => rfl) l k j hj
  rw [List.getElem?_eq_getElem hk] at h1
  rw [Nat.add_assoc]
  exact h _ v (by rw [h1]; exact hv)
end Go.Proofs.Ytmbdailffhdonaa
