/- Package msgs: looks at certificates, view changes, parts. Printed by gen_fp3.py. Package msgs: looks at parts. Printed by gen_fp4.py. -/
import Derived.Test.YtadpkjgjciodnaaGreatFp2Pr
import Derived.Deep.QuietTactic
section
namespace Go.Proofs.YtadpkjgjciodnaaGreat
open Go.RowKit
set_option linter.unusedVariables false

set_option maxRecDepth 100000 in
set_option maxHeartbeats 2000000 in
theorem cert_l (c : Psp.Cert) (vb vo : Value) (f cl : Int) (w : World) (P : Nat → Prop) (hx : CertOk w P ⟨c, vb, vo⟩) (hw : ∀ v ∈ c.o, wfVote v) :
    Calls Tryz.prog 97 #[.agg #[.int .i64 f, .int .i64 cl], .agg #[.int .i64 c.v, .int .i64 c.i, .int .i64 c.q, vb, vo]] w fun e w' => e = .returned (.bool (Psp.certB c f cl)) ∧ Below w.heap.size w w' := by
  obtain ⟨_, A1, c1, e1, _⟩ := RdP.parts hx.1
  obtain ⟨_, A2, c2, e2, _⟩ := RdP.parts hx.2
  dsimp only at e1 e2
  subst e1 e2
  have HX := Lib.hid hx
  have Hw := Lib.hid hw
  obtain ⟨W0, hW0⟩ : ∃ W0, (w.alloc (.cells #[.int .i64 f, .int .i64 cl] 104)).alloc (.cells #[.int .i64 c.v, .int .i64 c.i, .int .i64 c.q, .slice A1 c.b.length c1, .slice A2 c.o.length c2] 25) = W0 := ⟨_, rfl⟩
  have hL0 := (Lk.new w f cl).below (alloc_below _ (.cells #[.int .i64 c.v, .int .i64 c.i, .int .i64 c.q, .slice A1 c.b.length c1, .slice A2 c.o.length c2] 25))
  have hC0 := heap_alloc_new (w.alloc (.cells #[.int .i64 f, .int .i64 cl] 104)) (.cells #[.int .i64 c.v, .int .i64 c.i, .int .i64 c.q, .slice A1 c.b.length c1, .slice A2 c.o.length c2] 25)
  rw [hW0] at hL0 hC0
  rw [show (w.alloc (.cells #[.int .i64 f, .int .i64 cl] 104)).heap.size = w.heap.size + 1 by simp] at hC0
  have HL0 := Lib.hid hL0
  have HC0 := Lib.hid hC0
  clear hx hw hL0 hC0
  obtain ⟨b1, hb1⟩ : ∃ x, Psp.placeB c.v c.i c.q f = x := ⟨_, rfl⟩
  obtain ⟨b2, hb2⟩ : ∃ x, Psp.batchB c.b cl 0 4 = x := ⟨_, rfl⟩
  obtain ⟨b3, hb3⟩ : ∃ x, Psp.votesB c.o f = x := ⟨_, rfl⟩
  have Hr : Hid (Psp.certB c f cl = (b1 && (b2 && b3))) := Lib.hid (by unfold Psp.certB; rw [hb1, hb2, hb3])
  go_enter Tryz.func97, Tryz.ntmps97
  have x0 : W0.cell? ⟨w.heap.size + 1, 0, none⟩ = some (.int .i64 c.v) := by rw [cell_of_row _ _ 0 _ _ _ HC0.out]; rfl
  have x1 : W0.cell? ⟨w.heap.size + 1, 1, none⟩ = some (.int .i64 c.i) := by rw [cell_of_row _ _ 1 _ _ _ HC0.out]; rfl
  have x2 : W0.cell? ⟨w.heap.size + 1, 2, none⟩ = some (.int .i64 c.q) := by rw [cell_of_row _ _ 2 _ _ _ HC0.out]; rfl
  obtain ⟨k0, k1⟩ := HL0.out.cells
  go_wp2_with fail
  clear hW0 x0 x1 x2 k0 k1
  refine (place_any c.v c.i c.q f cl W0).mono ?_
  rw [hb1]
  rintro e w1 ⟨rfl, hb⟩
  have HL1 := Lib.hid (HL0.out.below hb)
  have HC1 := Lib.hid ((hb.block _ (Array.getElem?_eq_some_iff.1 HC0.out).1).trans HC0.out)
  clear hb HL0 HC0
  cases b1 with
  | false =>
    go_wp2_with fail
    go_ret
    exact ⟨by rw [Hr.out]; rfl, HL1.out.be⟩
  | true =>
    have kc : w1.cell? ⟨w.heap.size + 1, 3, none⟩ = some (.slice A1 c.b.length c1) := by rw [cell_of_row _ _ 3 _ _ _ HC1.out]; rfl
    obtain ⟨k0, k1⟩ := HL1.out.cells
    go_wp2_with fail
    refine (batch_l c.b c.b.length (.slice A1 c.b.length c1) f cl 0 4 w1 _ (HX.out.1.keeps (Keeps.below HL1.out.be)) rfl).mono ?_
    rw [hb2]
    rintro e w2 ⟨rfl, hb⟩
    have HL2 := Lib.hid (HL1.out.below hb)
    have HC2 := Lib.hid ((hb.block _ (Array.getElem?_eq_some_iff.1 HC1.out).1).trans HC1.out)
    clear hb HL1 HC1 kc k0 k1
    cases b2 with
    | false =>
      go_wp2_with fail
      go_ret
      exact ⟨by rw [Hr.out]; rfl, HL2.out.be⟩
    | true =>
      have kc : w2.cell? ⟨w.heap.size + 1, 4, none⟩ = some (.slice A2 c.o.length c2) := by rw [cell_of_row _ _ 4 _ _ _ HC2.out]; rfl
      obtain ⟨k0, k1⟩ := HL2.out.cells
      go_wp2_with fail
      refine (votes_l c.o c.o.length (.slice A2 c.o.length c2) f cl w2 _ (HX.out.2.keeps (Keeps.below HL2.out.be)) rfl Hw.out).mono ?_
      rw [hb3]
      rintro e w3 ⟨rfl, hb⟩
      have HL3 := Lib.hid (HL2.out.below hb)
      clear hb HL2 HC2 kc k0 k1
      go_wp2_with fail
      go_ret
      exact ⟨by rw [Hr.out]; rfl, HL3.out.be⟩

end Go.Proofs.YtadpkjgjciodnaaGreat
end
section
namespace Go.Proofs.YtadpkjgjciodnaaGreat
open Go.RowKit
set_option linter.unusedVariables false

theorem lk_size : (Tryz.prog.info? 104).map (·.size) = some 2 := by kernel_rfl
theorem Lk.range {w0 W : World} {f cl : Int} (h : Lk w0 W f cl) : W.rangeAt w0.heap.size 0 [.int .i64 f, .int .i64 cl] := fun j v hv => by
  rw [Nat.zero_add, cell_of_row _ _ j _ _ _ h.box]; simpa using hv
end Go.Proofs.YtadpkjgjciodnaaGreat
end
