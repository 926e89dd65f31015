/- The messages that are right have bytes. -/
import Derived.Test.YtljfoajhobambaaRgpSp
namespace Go.Proofs.Ytljfoajhobambaa
open Go.RowKit
set_option linter.unusedVariables false
set_option linter.unusedSimpArgs false

theorem okN_of {n : Int} (h1 : 0 ≤ n) (h2 : n < 1099511627776) : Psp.okN n = true := (Psp.okN_iff _).2 ⟨h1, h2⟩
theorem q_okL {q : Nat} (h : q ≤ 9) : Psp.okL Psp.okV (qL q) = true := by
  unfold Psp.okL
  rw [qL_len, decide_eq_true (by omega), Bool.true_and, List.all_eq_true]
  intro x hx
  unfold qL at hx
  obtain ⟨j, hj, rfl⟩ := List.mem_map.1 hx
  have := List.mem_range.1 hj
  have b1 : Psp.okN (j : Int) = true := okN_of (by omega) (by omega)
  have b2 : Psp.okN 0 = true := okN_of (by omega) (by omega)
  unfold Psp.okV
  simp only [b1, b2, Bool.and_self]
theorem q_lenL {q : Nat} (h : q ≤ 9) : (Psp.encL Psp.encV (qL q)).length ≤ 114 := by
  have h1 := q_okL h
  unfold Psp.okL at h1
  rw [Bool.and_eq_true] at h1
  have h2 := Psp.flat_bd Psp.encV Psp.okV 12 (fun x hx => Psp.lenV hx) (qL q) h1.2
  unfold Psp.encL
  rw [List.length_append]
  have h3 := Psp.lenN (okN_of (n := ((qL q).length : Int)) (by omega) (by rw [qL_len]; omega))
  rw [qL_len] at h2 h3 ⊢
  omega
theorem nil_okL {α : Type} {ok : α → Bool} : Psp.okL ok [] = true := rfl
theorem nil_lenL {α : Type} {e : α → List UInt8} : (Psp.encL e []).length ≤ 6 := by
  unfold Psp.encL
  rw [List.length_append]
  have := Psp.lenN (okN_of (n := (([] : List α).length : Int)) (by simp) (by simp))
  simp only [List.flatMap_nil, List.length_nil] at this ⊢
  omega
theorem one_lenL {α : Type} {e : α → List UInt8} {x : α} {k : Nat} (h : (e x).length ≤ k) : (Psp.encL e [x]).length ≤ 6 + k := by
  unfold Psp.encL
  rw [List.length_append]
  have := Psp.lenN (okN_of (n := (([x] : List α).length : Int)) (by simp) (by simp))
  simp only [List.flatMap_cons, List.flatMap_nil, List.append_nil] at this ⊢
  omega
theorem one_okL {α : Type} {ok : α → Bool} {x : α} (h : ok x = true) : Psp.okL ok [x] = true := by
  unfold Psp.okL
  rw [List.all_cons, List.all_nil, h]
  rfl
theorem rq_ok {cl seq y v : Int} (hc : 1 ≤ cl ∧ cl ≤ 4) (hs : 1 ≤ seq ∧ seq ≤ 16) (hy : 0 ≤ y ∧ y < 64) (hv : 0 ≤ v ∧ v < 1000) : Psp.okR (rqR cl seq y v) = true := by
  have a1 : Psp.okN (cl - 1) = true := okN_of (by omega) (by omega)
  have a2 : Psp.okN seq = true := okN_of (by omega) (by omega)
  have a3 : Psp.okN 1 = true := okN_of (by omega) (by omega)
  have a4 : Psp.okS y = true := (Psp.okS_iff _).2 ⟨by omega, by omega⟩
  have a5 : Psp.okS v = true := (Psp.okS_iff _).2 ⟨by omega, by omega⟩
  have a6 : Psp.okN 0 = true := okN_of (by omega) (by omega)
  unfold Psp.okR rqR
  simp only [a1, a2, a3, a4, a5, a6, Bool.and_self]
theorem c_ok {view inst seq : Int} {q : Nat} (hv : 0 ≤ view ∧ view < 100) (hi : 0 ≤ inst ∧ inst ≤ 100) (hs : 1 ≤ seq ∧ seq ≤ 16) (hq : q ≤ 9) : Psp.okC ⟨view, inst, seq, [], qL q⟩ = true := by
  have a1 : Psp.okN view = true := okN_of (by omega) (by omega)
  have a2 : Psp.okN inst = true := okN_of (by omega) (by omega)
  have a3 : Psp.okN seq = true := okN_of (by omega) (by omega)
  unfold Psp.okC
  simp only [a1, a2, a3, q_okL hq, nil_okL, Bool.and_self]
theorem c_len {view inst seq : Int} {q : Nat} (hv : 0 ≤ view ∧ view < 100) (hi : 0 ≤ inst ∧ inst ≤ 100) (hs : 1 ≤ seq ∧ seq ≤ 16) (hq : q ≤ 9) : (Psp.encC ⟨view, inst, seq, [], qL q⟩).length ≤ 138 := by
  unfold Psp.encC
  simp only [List.length_append]
  have := Psp.lenN (okN_of (n := view) (by omega) (by omega))
  have := Psp.lenN (okN_of (n := inst) (by omega) (by omega))
  have := Psp.lenN (okN_of (n := seq) (by omega) (by omega))
  have := nil_lenL (e := Psp.encR)
  have := q_lenL hq
  omega
theorem p_ok {n : Int} {q : Nat} (hn : 0 ≤ n ∧ n ≤ 100) (hq : q ≤ 9) : Psp.okP ⟨n, qL q, [], 0⟩ = true := by
  have a1 : Psp.okN n = true := okN_of (by omega) (by omega)
  have a6 : Psp.okN 0 = true := okN_of (by omega) (by omega)
  unfold Psp.okP
  simp only [a1, a6, q_okL hq, nil_okL, Bool.and_self]
theorem p_len {n : Int} {q : Nat} (hn : 0 ≤ n ∧ n ≤ 100) (hq : q ≤ 9) : (Psp.encP ⟨n, qL q, [], 0⟩).length ≤ 132 := by
  unfold Psp.encP
  simp only [List.length_append]
  have := Psp.lenN (okN_of (n := n) (by omega) (by omega))
  have := Psp.lenN (okN_of (n := 0) (by omega) (by omega))
  have := nil_lenL (e := Psp.encC)
  have := q_lenL hq
  omega
theorem flat_le {α : Type} (e : α → List UInt8) (k : Nat) : ∀ l : List α, (∀ x ∈ l, (e x).length ≤ k) → (l.flatMap e).length ≤ l.length * k
  | [], _ => by simp
  | x :: l, h => by
    have h1 := flat_le e k l (fun y hy => h y (List.mem_cons_of_mem _ hy))
    have h2 := h x List.mem_cons_self
    rw [List.flatMap_cons, List.length_append, List.length_cons, Nat.add_mul, Nat.one_mul]
    omega
theorem pts_okL {f : Int} (hf : 1 ≤ f ∧ f ≤ 4) {q : Nat} (hq : q ≤ 9) : Psp.okL Psp.okP (ptsR f q q) = true ∧ (Psp.encL Psp.encP (ptsR f q q)).length ≤ 1200 := by
  have hl : (ptsR f q q).length = q := by unfold ptsR; simp
  have hx : ∀ x ∈ ptsR f q q, Psp.okP x = true ∧ (Psp.encP x).length ≤ 132 := fun x hx => by
    unfold ptsR at hx
    obtain ⟨j, hj, rfl⟩ := List.mem_map.1 hx
    have := List.mem_range.1 hj
    exact ⟨p_ok ⟨by omega, by omega⟩ hq, p_len ⟨by omega, by omega⟩ hq⟩
  refine ⟨?_, ?_⟩
  · unfold Psp.okL
    rw [hl, decide_eq_true (by omega), Bool.true_and, List.all_eq_true]
    exact fun x h => (hx x h).1
  · have h2 := flat_le Psp.encP 132 (ptsR f q q) (fun x h => (hx x h).2)
    have h3 := Psp.lenN (okN_of (n := ((ptsR f q q).length : Int)) (by omega) (by rw [hl]; omega))
    unfold Psp.encL
    rw [List.length_append]
    rw [hl] at h2 h3 ⊢
    omega
/-- A message whose numbers are small and whose lists are short has bytes. -/
theorem okB_of {m : Psp.Msg} (h1 : 0 ≤ m.k ∧ m.k < 1000) (h2 : 0 ≤ m.f ∧ m.f < 1000) (h3 : 0 ≤ m.v ∧ m.v < 1000) (h4 : 0 ≤ m.i ∧ m.i < 1000) (h5 : 0 ≤ m.q ∧ m.q < 1000) (h6 : -1000 < m.r ∧ m.r < 1000)
    (b : Psp.okL Psp.okR m.b = true ∧ (Psp.encL Psp.encR m.b).length ≤ 2000) (o : Psp.okL Psp.okV m.o = true ∧ (Psp.encL Psp.encV m.o).length ≤ 2000) (c : Psp.okL Psp.okC m.c = true ∧ (Psp.encL Psp.encC m.c).length ≤ 2000) (p : Psp.okL Psp.okP m.p = true ∧ (Psp.encL Psp.encP m.p).length ≤ 2000) : Psp.okB m = true := by
  have a1 : Psp.okN m.k = true := okN_of (by omega) (by omega)
  have a2 : Psp.okN m.f = true := okN_of (by omega) (by omega)
  have a3 : Psp.okN m.v = true := okN_of (by omega) (by omega)
  have a4 : Psp.okN m.i = true := okN_of (by omega) (by omega)
  have a5 : Psp.okN m.q = true := okN_of (by omega) (by omega)
  have a6 : Psp.okS m.r = true := (Psp.okS_iff _).2 ⟨by omega, by omega⟩
  unfold Psp.okB Psp.okM
  rw [a1, a2, a3, a4, a5, a6, b.1, o.1, c.1, p.1, Bool.and_eq_true, decide_eq_true_eq]
  refine ⟨rfl, ?_⟩
  unfold Psp.encM
  simp only [List.length_append]
  have := Psp.lenN a1
  have := Psp.lenN a2
  have := Psp.lenN a3
  have := Psp.lenN a4
  have := Psp.lenN a5
  have := (Psp.encS_len m.r).2
  have := b.2
  have := o.2
  have := c.2
  have := p.2
  omega
end Go.Proofs.Ytljfoajhobambaa
