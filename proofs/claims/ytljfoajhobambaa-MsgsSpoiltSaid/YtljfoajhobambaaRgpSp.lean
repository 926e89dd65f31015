/- The plain law of psephoslaw06.right: a message of each kind that is of form. -/
import Derived.Test.YtljfoajhobambaaQrSp
import Derived.Test.YtljfoajhobambaaChpSp
namespace Go.Proofs.Ytljfoajhobambaa
open Go.RowKit
set_option linter.unusedVariables false
set_option linter.unusedSimpArgs false

/-- The request, the parts of the messages that are right. -/
def rqR (cl seq y v : Int) : Psp.Req := ⟨cl - 1, seq, 1, y, v, 0⟩
def ptsR (f : Int) (q n : Nat) : List Psp.Part := (List.range n).map fun (i : Nat) => (⟨(i : Int) + f, qL q, [], 0⟩ : Psp.Part)
/-- A message of each kind; q: how many make a quorum, p: the primary, p': that of the next view. -/
def rightM (k f cl view inst seq y v z p p' : Int) (q : Nat) : Psp.Msg :=
  if k = 1 then ⟨1, 100 + cl - 1, 0, 0, 0, 0, [rqR cl seq y v], [], [], []⟩
  else if k = 2 then ⟨2, p, 0, 0, 0, 0, [rqR cl seq y v], [], [], []⟩
  else if k = 3 ∨ k = 4 ∨ k = 5 then ⟨k, p, view, inst, seq, 0, [rqR cl seq y v], [], [], []⟩
  else if k = 6 then ⟨6, p, view, 0, 0, 0, [], [], [], []⟩
  else if k = 7 then ⟨7, p, view + 1, 0, 0, 0, [], qL q, [], []⟩
  else if k = 8 then ⟨8, p', view + 1, inst, 0, 0, [], [], [], ptsR f q q⟩
  else if k = 9 then ⟨9, p, 0, 0, 0, 0, [], [], [⟨view, inst, seq, [], qL q⟩], []⟩
  else ⟨10, p, 0, cl - 1, seq, z, [], [], [], []⟩

theorem rq_valid {cl seq y v : Int} (hc : 1 ≤ cl) (hs : 1 ≤ seq ∧ seq ≤ 16) (hy : 0 ≤ y ∧ y < 64) (hv : 0 ≤ v ∧ v < 1000) : Psp.valid (rqR cl seq y v) cl = true := by
  unfold Psp.valid rqR
  rw [decide_eq_true_eq]
  refine ⟨?_, ?_, ?_, ?_, ?_, ?_, ?_, ?_, ?_, ?_, Or.inl rfl⟩ <;> dsimp only <;> omega
theorem upTo_id {N : Int} : ∀ (n k : Nat) (p : Int), ((k : Int) + (n : Int) ≤ N) → p < (k : Int) → Psp.upTo N p ((List.range' k n).map fun (j : Nat) => (j : Int)) = true
  | 0, _, _, _, _ => rfl
  | n + 1, k, p, h, hp => by
    rw [List.range'_succ, List.map_cons]
    unfold Psp.upTo
    rw [if_neg (by omega)]
    exact upTo_id n (k + 1) (k : Int) (by omega) (by omega)
theorem q_votes {f : Int} (hf : 1 ≤ f ∧ f ≤ 4) {q : Nat} (hq : (q : Int) = 2 * f + 1) : Psp.votesB (qL q) f = true := by
  have e2 : Psp.quorum f = 2 * f + 1 := by unfold Psp.quorum; rw [if_pos hf]
  have e1 : Psp.nodes f = 3 * f + 1 := by unfold Psp.nodes; rw [if_pos hf]
  unfold Psp.votesB Psp.rising
  have h1 : Psp.sealsB (qL q) = true := by
    unfold Psp.sealsB
    rw [List.all_eq_true]
    intro x hx
    unfold qL at hx
    obtain ⟨j, _, rfl⟩ := List.mem_map.1 hx
    rfl
  have hm : (qL q).map (·.n) = (List.range' 0 q).map fun (j : Nat) => (j : Int) := by unfold qL; rw [List.map_map, List.range_eq_range']; rfl
  rw [h1, may_of hf, List.length_map, qL_len, e2, e1, decide_eq_true hq, hm, upTo_id q 0 (-1) (by omega) (by omega)]
  rfl
theorem upP_range {f : Int} {q : Nat} : ∀ (n k : Nat), Psp.upP ((List.range' k n).map fun (i : Nat) => (⟨(i : Int) + f, qL q, [], 0⟩ : Psp.Part)) = true
  | 0, _ => rfl
  | 1, _ => rfl
  | n + 2, k => by
    have h := upP_range (f := f) (q := q) (n + 1) (k + 1)
    rw [List.range'_succ, List.map_cons] at h ⊢
    rw [List.range'_succ, List.map_cons]
    rw [Psp.upP, h, Bool.and_true, decide_eq_true_eq]
    dsimp only
    omega
theorem pts_ok {f cl view : Int} (hf : 1 ≤ f ∧ f ≤ 4) {q : Nat} (hq : (q : Int) = 2 * f + 1) (hv : 0 ≤ view ∧ view < 12) : Psp.partsB (view + 1) (ptsR f q q) f cl = true := by
  have e2 : Psp.quorum f = 2 * f + 1 := by unfold Psp.quorum; rw [if_pos hf]
  have e1 : Psp.nodes f = 3 * f + 1 := by unfold Psp.nodes; rw [if_pos hf]
  have hl : (ptsR f q q).length = q := by unfold ptsR; simp
  have h1 : (ptsR f q q).all (fun p => Psp.partB (view + 1) p f cl) = true := by
    rw [List.all_eq_true]
    intro x hx
    unfold ptsR at hx
    obtain ⟨j, hj, rfl⟩ := List.mem_map.1 hx
    have hjq := List.mem_range.1 hj
    have a1 : Psp.nodeB ((j : Int) + f) f = true := by unfold Psp.nodeB; rw [e1]; exact (Psp.win_iff _ _ _).2 ⟨by omega, by omega⟩
    have a2 : Psp.changeB (view + 1) (qL q) [] f cl = true := by
      unfold Psp.changeB
      rw [q_votes hf hq, (Psp.win_iff _ _ _).2 ⟨by omega, by omega⟩]
      rfl
    unfold Psp.partB
    rw [a1, a2]
    rfl
  have h2 : Psp.upP (ptsR f q q) = true := by unfold ptsR; rw [List.range_eq_range']; exact upP_range q 0
  unfold Psp.partsB
  rw [h1, h2, hl, e2, decide_eq_true hq]
  rfl

/-- It is of form. -/
theorem right_form {k f cl view inst seq y v z : Int} (hk : 1 ≤ k ∧ k ≤ 10) (hf : 1 ≤ f ∧ f ≤ 4) (hc : 1 ≤ cl ∧ cl ≤ 4) (hv : 0 ≤ view ∧ view < 12) (hi : 0 ≤ inst ∧ inst ≤ f) (hs : 1 ≤ seq ∧ seq ≤ 16) (hy : 0 ≤ y ∧ y < 64) (hx : 0 ≤ v ∧ v < 1000) (hz : -1000 < z ∧ z < 1000) {q : Nat} (hq : (q : Int) = 2 * f + 1) :
    Psp.formM (rightM k f cl view inst seq y v z (Psp.primary f view inst) (Psp.primary f (view + 1) inst) q) f cl = true := by
  have e1 : Psp.nodes f = 3 * f + 1 := by unfold Psp.nodes; rw [if_pos hf]
  have p1 : Psp.primary f view inst = (view + inst) % (3 * f + 1) := by unfold Psp.primary; rw [if_pos ⟨hf.1, hf.2, hv.1, by omega, hi.1, hi.2⟩]
  have p2 : Psp.primary f (view + 1) inst = (view + 1 + inst) % (3 * f + 1) := by unfold Psp.primary; rw [if_pos ⟨hf.1, hf.2, by omega, by omega, hi.1, hi.2⟩]
  have n1 : Psp.nodeB (Psp.primary f view inst) f = true := by
    unfold Psp.nodeB; rw [e1, p1]
    have := Int.emod_nonneg (view + inst) (show 3 * f + 1 ≠ 0 by omega)
    have := Int.emod_lt_of_pos (view + inst) (show 0 < 3 * f + 1 by omega)
    exact (Psp.win_iff _ _ _).2 ⟨by omega, by omega⟩
  have n2 : Psp.nodeB (Psp.primary f (view + 1) inst) f = true := by
    unfold Psp.nodeB; rw [e1, p2]
    have := Int.emod_nonneg (view + 1 + inst) (show 3 * f + 1 ≠ 0 by omega)
    have := Int.emod_lt_of_pos (view + 1 + inst) (show 0 < 3 * f + 1 by omega)
    exact (Psp.win_iff _ _ _).2 ⟨by omega, by omega⟩
  have hb : ∀ lo hi : Int, lo ≤ 1 → 1 ≤ hi → Psp.batchB [rqR cl seq y v] cl lo hi = true := fun lo hi h1 h2 => by
    unfold Psp.batchB Psp.validsB
    rw [List.all_cons, List.all_nil, rq_valid hc.1 hs hy hx, (Psp.win_iff _ _ _).2 ⟨by simpa using h1, by simpa using h2⟩]
    rfl
  have hpl : Psp.placeB view inst seq f = true := by
    unfold Psp.placeB
    rw [(Psp.win_iff view 0 12).2 ⟨by omega, by omega⟩, (Psp.win_iff inst 0 f).2 hi, (Psp.win_iff seq 1 16).2 hs]
    rfl
  have ks : k = 1 ∨ k = 2 ∨ k = 3 ∨ k = 4 ∨ k = 5 ∨ k = 6 ∨ k = 7 ∨ k = 8 ∨ k = 9 ∨ k = 10 := by omega
  unfold Psp.formM
  rw [may_of hf, Bool.true_and]
  rcases ks with rfl | rfl | rfl | rfl | rfl | rfl | rfl | rfl | rfl | rfl
  · simp only [rightM, if_true, hb 1 1 (by omega) (by omega), Psp.bareB, Psp.noB, Psp.firstC, rqR]
    simp
    exact ⟨hb 1 1 (by omega) (by omega), by omega, by omega⟩
  · simp only [rightM, Int.reduceEq, if_true, if_false, n1, hb 1 1 (by omega) (by omega), Psp.bareB, Psp.noB]
    simp
  · simp only [rightM, Int.reduceEq, true_or, or_true, if_true, if_false, n1, hpl, hb 1 4 (by omega) (by omega), Psp.bareB]
    simp
  · simp only [rightM, Int.reduceEq, true_or, or_true, false_or, if_true, if_false, n1, hpl, hb 0 4 (by omega) (by omega), Psp.bareB]
    simp
  · simp only [rightM, Int.reduceEq, true_or, or_true, false_or, if_true, if_false, n1, hpl, hb 0 4 (by omega) (by omega), Psp.bareB]
    simp
  · simp only [rightM, Int.reduceEq, or_self, if_true, if_false, n1, Psp.bareB, Psp.noB, (Psp.win_iff view 0 11).2 ⟨by omega, by omega⟩]
    simp
  · simp only [rightM, Int.reduceEq, or_self, if_true, if_false, n1, Psp.bareB, Psp.noB, Psp.changeB, q_votes hf hq, (Psp.win_iff (view + 1) 1 12).2 ⟨by omega, by omega⟩, Psp.certsB, Psp.upC]
    simp
  · simp only [rightM, Int.reduceEq, or_self, if_true, if_false, n2, Psp.bareB, Psp.noB, pts_ok hf hq hv, (Psp.win_iff (view + 1) 1 12).2 ⟨by omega, by omega⟩, (Psp.win_iff inst 0 f).2 hi]
    simp
  · simp only [rightM, Int.reduceEq, or_self, if_true, if_false, n1, Psp.bareB, Psp.noB, Psp.firstB, Psp.certB, hpl, q_votes hf hq]
    simp [Psp.batchB, Psp.validsB, Psp.win]
  · simp only [rightM, Int.reduceEq, or_self, if_true, if_false, n1, Psp.bareB, (Psp.win_iff (cl - 1) 0 (cl - 1)).2 ⟨by omega, by omega⟩, (Psp.win_iff seq 1 1048576).2 ⟨by omega, by omega⟩, (Psp.win_iff z (-549755813887) 549755813887).2 ⟨by omega, by omega⟩]
    simp
end Go.Proofs.Ytljfoajhobambaa
