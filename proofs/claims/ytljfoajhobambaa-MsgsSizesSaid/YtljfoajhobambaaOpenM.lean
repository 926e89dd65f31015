/- How a message, a certificate is opened, as an argument by value. Printed by gen_openm.py. -/
import Derived.Test.YtljfoajhobambaaGe
import Derived.Test.YtljfoajhobambaaTk
import Derived.Test.YtljfoajhobambaaFg
import Derived.ChangeSame
namespace Go.Proofs.Ytljfoajhobambaa
open Go.RowKit Go.ChangeShapes Go.WideShapes
set_option linter.unusedVariables false
set_option linter.unusedSimpArgs false

theorem open_valW {P : Program} {t : TypeId} {fs : Array Field} {k : Nat} {α : Type} {f : α → List Value} {wf : α → Prop} {w : World} (hs : P.underlying t = some (.struct fs)) (E : OpensAt P t k f wf w)
    {H : Type} {enc : TypeId × Value → H} {v : Value} {d : DataW H} {ps : List MemPlace} {r : Reach} {b0 : Nat} (h : DataW.Trod enc P w 0 (fun _ => true) true t v d ps) (hv : Value.okWide P w r b0 t v) : ∃ a : α, v = .agg (f a).toArray ∧ wf a := by
  obtain ⟨cs, rfl, _⟩ := okWide_struct hs hv
  obtain ⟨fuel, hf⟩ := h
  obtain ⟨a, ha, hw⟩ := E.get enc fuel _ _ hf
  refine ⟨a, ?_, hw⟩
  have : cs.toList = f a := ha
  rw [← this]

set_option maxRecDepth 100000 in
theorem opens_msg (w : World) : OpensAt Try.prog 27 10 mv (fun x => MsgOk w (fun b => b < w.heap.size) x ∧ wfMsg x.m) w := by
  refine ⟨by kernel_rfl, fun _ => rfl, by omega, fun enc fuel cs x h => ?_⟩
  obtain ⟨xs, n, _, _, hl, hlen, hf⟩ := DataW.trod_struct Try.underlying27 h
  have hc : Try.prog.cellsOf 27 = 10 := by kernel_rfl
  have h1 : Try.prog.cellsOf 3 = 1 := by kernel_rfl
  have h2 : Try.prog.cellsOf 22 = 1 := by kernel_rfl
  have h3 : Try.prog.cellsOf 23 = 1 := by kernel_rfl
  have h4 : Try.prog.cellsOf 24 = 1 := by kernel_rfl
  have h5 : Try.prog.cellsOf 25 = 1 := by kernel_rfl
  rw [hc] at hl
  match cs, hl with
  | [c0, c1, c2, c3, c4, c5, c6, c7, c8, c9], _ =>
    obtain ⟨y0, e0⟩ := some_get hlen (j := 0) (by simp)
    obtain ⟨y1, e1⟩ := some_get hlen (j := 1) (by simp)
    obtain ⟨y2, e2⟩ := some_get hlen (j := 2) (by simp)
    obtain ⟨y3, e3⟩ := some_get hlen (j := 3) (by simp)
    obtain ⟨y4, e4⟩ := some_get hlen (j := 4) (by simp)
    obtain ⟨y5, e5⟩ := some_get hlen (j := 5) (by simp)
    obtain ⟨y6, e6⟩ := some_get hlen (j := 6) (by simp)
    obtain ⟨y7, e7⟩ := some_get hlen (j := 7) (by simp)
    obtain ⟨y8, e8⟩ := some_get hlen (j := 8) (by simp)
    obtain ⟨y9, e9⟩ := some_get hlen (j := 9) (by simp)
    have g0 := hf 0 _ rfl
    have g1 := hf 1 _ rfl
    have g2 := hf 2 _ rfl
    have g3 := hf 3 _ rfl
    have g4 := hf 4 _ rfl
    have g5 := hf 5 _ rfl
    have g6 := hf 6 _ rfl
    have g7 := hf 7 _ rfl
    have g8 := hf 8 _ rfl
    have g9 := hf 9 _ rfl
    rw [e0] at g0
    rw [e1] at g1
    rw [e2] at g2
    rw [e3] at g3
    rw [e4] at g4
    rw [e5] at g5
    rw [e6] at g6
    rw [e7] at g7
    rw [e8] at g8
    rw [e9] at g9
    simp [h1, h2, h3, h4, h5] at g0
    simp [h1, h2, h3, h4, h5] at g1
    simp [h1, h2, h3, h4, h5] at g2
    simp [h1, h2, h3, h4, h5] at g3
    simp [h1, h2, h3, h4, h5] at g4
    simp [h1, h2, h3, h4, h5] at g5
    simp [h1, h2, h3, h4, h5] at g6
    simp [h1, h2, h3, h4, h5] at g7
    simp [h1, h2, h3, h4, h5] at g8
    simp [h1, h2, h3, h4, h5] at g9
    obtain ⟨a0, rfl, wa0⟩ := int_cell g0
    obtain ⟨a1, rfl, wa1⟩ := int_cell g1
    obtain ⟨a2, rfl, wa2⟩ := int_cell g2
    obtain ⟨a3, rfl, wa3⟩ := int_cell g3
    obtain ⟨a4, rfl, wa4⟩ := int_cell g4
    obtain ⟨a5, rfl, wa5⟩ := int_cell g5
    obtain ⟨vb, lb, e, _, r1, w1⟩ := open_cells Try.underlying22 (opens_req.toAt w) g6
    injection e with e _
    subst e
    obtain ⟨vo, lo, e, _, r2, w2⟩ := open_cells Try.underlying23 (opens_vt.toAt w) g7
    injection e with e _
    subst e
    obtain ⟨vc, Lc, e, _, r3, w3⟩ := open_cells Try.underlying24 (opens_cert w) g8
    injection e with e _
    subst e
    obtain ⟨vp, Lp, e, _, r4, w4⟩ := open_cells Try.underlying25 (opens_part w) g9
    injection e with e _
    subst e
    refine ⟨⟨⟨a0, a1, a2, a3, a4, a5, lb, lo, Lc.map (·.c), Lp.map (·.p)⟩, _, _, _, _⟩, rfl, ⟨r1.to_p (Nat.le_refl _), r2.to_p (Nat.le_refl _), ⟨Lc, rfl, r3.to_p (Nat.le_refl _), fun x hx => (w3 x hx).1⟩, ⟨Lp, rfl, r4.to_p (Nat.le_refl _), fun x hx => (w4 x hx).1⟩⟩, wa0, wa1, wa2, wa3, wa4, wa5, w1, w2, fun c hc => ?_, fun c hc => ?_⟩
    · obtain ⟨x, hx, rfl⟩ := List.mem_map.1 hc
      exact (w3 x hx).2
    · obtain ⟨x, hx, rfl⟩ := List.mem_map.1 hc
      exact (w4 x hx).2
end Go.Proofs.Ytljfoajhobambaa
