/- Messages that are right, spoilt: none is of form. -/
import Derived.Test.YtljfoajhobambaaGhSp
namespace Go.Proofs.Ytljfoajhobambaa
open Go.RowKit
set_option linter.unusedVariables false
set_option linter.unusedSimpArgs false

/-- What is asked of a message that is right. -/
structure Rok (m : Psp.Msg) (f cl : Int) : Prop where
  fb : 1 ≤ f ∧ f ≤ 4
  clb : 1 ≤ cl ∧ cl ≤ 4
  k : 1 ≤ m.k ∧ m.k ≤ 10
  b1 : m.k = 1 ∨ m.k = 2 → m.b.length = 1
  o7 : m.k = 7 → (m.o.length : Int) = Psp.quorum f
  p8 : m.k = 8 → (m.p.length : Int) = Psp.quorum f
theorem Rok.ks {m : Psp.Msg} {f cl : Int} (h : Rok m f cl) : m.k = 1 ∨ m.k = 2 ∨ m.k = 3 ∨ m.k = 4 ∨ m.k = 5 ∨ m.k = 6 ∨ m.k = 7 ∨ m.k = 8 ∨ m.k = 9 ∨ m.k = 10 := by have := h.k; omega
theorem spoil_0 {m : Psp.Msg} {f cl : Int} : Psp.formM { m with k := 11 } f cl = false := by
  unfold Psp.formM
  simp
theorem spoil_1 {m : Psp.Msg} {f cl : Int} : Psp.formM { m with f := -1 } f cl = false := by
  unfold Psp.formM
  have h : Psp.nodeB (-1) f = false := (Psp.win_no _ _ _).2 (by omega)
  by_cases hk : m.k = 1
  · simp [hk]
  · simp [hk, h]
theorem spoil_2 {m : Psp.Msg} {f cl : Int} (h : Rok m f cl) : Psp.formM { m with v := 13 } f cl = false := by
  unfold Psp.formM
  have w1 : Psp.win 13 0 12 = false := (Psp.win_no _ _ _).2 (by omega)
  have w2 : Psp.win 13 0 11 = false := (Psp.win_no _ _ _).2 (by omega)
  have w3 : Psp.win 13 1 12 = false := (Psp.win_no _ _ _).2 (by omega)
  rcases h.ks with e | e | e | e | e | e | e | e | e | e <;> simp [e, Psp.noB, Psp.placeB, Psp.changeB, w1, w2, w3]
theorem spoil_3 {m : Psp.Msg} {f cl : Int} (h : Rok m f cl) : Psp.formM { m with i := 5 } f cl = false := by
  unfold Psp.formM
  have w1 : Psp.win 5 0 f = false := (Psp.win_no _ _ _).2 (by have := h.fb; omega)
  have w2 : Psp.win 5 0 (cl - 1) = false := (Psp.win_no _ _ _).2 (by have := h.clb; omega)
  rcases h.ks with e | e | e | e | e | e | e | e | e | e <;> simp [e, Psp.noB, Psp.placeB, w1, w2]
theorem spoil_4 {m : Psp.Msg} {f cl : Int} (h : Rok m f cl) : Psp.formM { m with q := -1 } f cl = false := by
  unfold Psp.formM
  have w1 : Psp.win (-1) 1 16 = false := (Psp.win_no _ _ _).2 (by omega)
  have w2 : Psp.win (-1) 1 1048576 = false := (Psp.win_no _ _ _).2 (by omega)
  rcases h.ks with e | e | e | e | e | e | e | e | e | e <;> simp [e, Psp.noB, Psp.placeB, w1, w2]
theorem spoil_5 {m : Psp.Msg} {f cl : Int} (h : Rok m f cl) (hk : m.k = 10) : Psp.formM { m with r := 549755813888 } f cl = false := by
  unfold Psp.formM
  have w1 : Psp.win 549755813888 (-549755813887) 549755813887 = false := (Psp.win_no _ _ _).2 (by omega)
  simp [hk, w1]
theorem spoil_6 {m : Psp.Msg} {f cl : Int} (h : Rok m f cl) (hk : m.k ≠ 10) : Psp.formM { m with r := 1 } f cl = false := by
  unfold Psp.formM
  rcases h.ks with e | e | e | e | e | e | e | e | e | e <;> first | (exact absurd e hk) | simp [e, Psp.noB]
theorem spoil_7 {m : Psp.Msg} {f cl : Int} (h : Rok m f cl) : Psp.formM { m with b := m.b ++ [⟨-1, 0, 0, 0, 0, 0⟩] } f cl = false := by
  have hv : ∀ lo hi, Psp.batchB (m.b ++ [⟨-1, 0, 0, 0, 0, 0⟩]) cl lo hi = false := fun lo hi => by
    unfold Psp.batchB Psp.validsB
    have : Psp.valid ⟨-1, 0, 0, 0, 0, 0⟩ cl = false := by unfold Psp.valid; rw [decide_eq_false_iff_not]; simp
    rw [List.all_append, List.all_cons, this]; simp
  unfold Psp.formM
  rcases h.ks with e | e | e | e | e | e | e | e | e | e <;> simp [e, hv, Psp.bareB]
theorem spoil_8 {m : Psp.Msg} {f cl : Int} (h : Rok m f cl) : Psp.formM { m with o := m.o ++ [⟨99, 0⟩] } f cl = false := by
  unfold Psp.formM
  have hc : m.k = 7 → Psp.changeB m.v (m.o ++ [⟨99, 0⟩]) m.c f cl = false := fun e => by
    have hr : Psp.rising ((m.o ++ [(⟨99, 0⟩ : Psp.Vote)]).map (fun v : Psp.Vote => v.n)) f = false := by
      unfold Psp.rising
      have h7 := h.o7 e
      have : decide ((((m.o ++ [(⟨99, 0⟩ : Psp.Vote)]).map (fun v : Psp.Vote => v.n)).length : Int) = Psp.quorum f) = false := by rw [decide_eq_false_iff_not, List.length_map, List.length_append]; simp; omega
      rw [this]; simp
    unfold Psp.changeB Psp.votesB
    rw [hr]; simp
  rcases h.ks with e | e | e | e | e | e | e | e | e | e <;> simp [e, Psp.bareB] <;> (intros; simp [hc e])
theorem spoil_9 {m : Psp.Msg} {f cl : Int} (h : Rok m f cl) : Psp.formM { m with p := m.p ++ [⟨99, [], [], 0⟩] } f cl = false := by
  unfold Psp.formM
  have hc : m.k = 8 → Psp.partsB m.v (m.p ++ [⟨99, [], [], 0⟩]) f cl = false := fun e => by
    unfold Psp.partsB
    have h7 := h.p8 e
    have : decide ((((m.p ++ [(⟨99, [], [], 0⟩ : Psp.Part)]).length : Nat) : Int) = Psp.quorum f) = false := by rw [decide_eq_false_iff_not, List.length_append]; simp; omega
    rw [this]; simp
  rcases h.ks with e | e | e | e | e | e | e | e | e | e <;> simp [e, Psp.bareB] <;> (intros; simp [hc e])
end Go.Proofs.Ytljfoajhobambaa
