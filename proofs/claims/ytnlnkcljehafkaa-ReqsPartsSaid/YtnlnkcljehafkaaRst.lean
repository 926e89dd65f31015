/- Rows that are stored whole; results that lie in a cell. No function in sight. -/
import Derived.Test.YtnlnkcljehafkaaPz
namespace Go.Proofs.Ytnlnkcljehafkaa
open Go.RowKit
set_option linter.unusedVariables false

theorem rst_sizeR : (Try.prog.info? 26).map (·.size) = some 6 := by kernel_rfl
theorem rst_store {W : World} {g : Nat} {zs : Array Value} {T : TypeId} (h : W.heap[g]? = some (.cells zs T (0, 0))) (l : List Value) (hl : l.length = zs.size) : (W.setCells g 0 l).heap[g]? = some (.cells l.toArray T (0, 0)) ∧ ∀ b, b ≠ g → (W.setCells g 0 l).heap[b]? = W.heap[b]? := by
  have key : ∀ (vs : List Value) (k : Nat) (W : World) (pre : List Value), W.heap[g]? = some (.cells (pre ++ zs.toList.drop k).toArray T (0, 0)) → pre.length = k → k + vs.length = zs.size → (W.setCells g k vs).heap[g]? = some (.cells (pre ++ vs).toArray T (0, 0)) := by
    intro vs
    induction vs with
    | nil =>
      intro k W pre h1 h2 h3
      rw [List.drop_eq_nil_of_le (by simp at h3 ⊢; omega)] at h1
      exact h1
    | cons v vs ih =>
      intro k W pre h1 h2 h3
      have h4 : (W.setCell ⟨g, k, none⟩ v).heap[g]? = some (.cells ((pre ++ [v]) ++ zs.toList.drop (k + 1)).toArray T (0, 0)) := by
        rw [heap_setCell_same W _ k _ _ v h1]
        congr 2
        have hk : k < zs.toList.length := by simp at h3 ⊢; omega
        rw [List.drop_eq_getElem_cons hk]
        apply Array.ext'
        simp [h2]
      have := ih (k + 1) _ (pre ++ [v]) h4 (by simp [h2]) (by simp at h3 ⊢; omega)
      simpa [World.setCells] using this
  have oth : ∀ (vs : List Value) (k : Nat) (W : World) (b : Nat), b ≠ g → (W.setCells g k vs).heap[b]? = W.heap[b]? := by
    intro vs
    induction vs with
    | nil => intro k W b _; rfl
    | cons v vs ih =>
      intro k W b hb
      exact (ih (k + 1) _ b hb).trans (Below.heap_setCell W ⟨g, k, none⟩ _ b hb)
  exact ⟨by simpa using key l 0 W [] (by simpa using h) rfl (by simpa using hl), fun b hb => oth l 0 W b hb⟩
theorem rst_there {W : World} {g : Nat} {zs : Array Value} {T : TypeId} (h : W.heap[g]? = some (.cells zs T (0, 0))) : W.there g 0 zs.size := fun j hj => by
  refine ⟨?_, frozen_of_row W _ (0 + j) _ _ h⟩
  rw [Nat.zero_add, cell_of_row W _ j _ _ _ h]
  simp [hj]
theorem results_cell_row1 {P : Program} {fn : Func} {p u : Tmp} {ty : TypeId} (h : fn.results = #[.cell p ty, .tmp u]) (tmps : Array Value) (w : World) (g : Nat) (t : TypeId) (cs : Array Value) (fr : Nat × Nat) (d : TypeDesc)
    (hp : tmps.getD p undef = .pointer (some ⟨g, 0, none⟩)) (hg : w.heap[g]? = some (.cells cs t fr))
    (hu : P.underlying ty = some d) (hd : (match d with | .struct _ | .array _ _ => true | _ => false) = true) (hi : (P.info? ty).map (·.size) = some cs.size) :
    (results fn tmps).run P w = .ok (.tuple #[.agg cs, tmps.getD u undef]) w := by
  have hp' : tmps[p]?.getD undef = .pointer (some ⟨g, 0, none⟩) := by simpa using hp
  simp [results, h, hp', asAddr, run_loadVar_row w g t ty cs fr d hg hu hd hi]
/-- The six cells of a request's block. -/
theorem rst_cells {w : World} {g : Nat} {r : Psp.Req} (h : w.heap[g]? = some (.cells #[.int .i64 r.c, .int .i64 r.t, .int .i64 r.k, .int .i64 r.y, .int .i64 r.v, .int .i64 r.s] 26 (0, 0))) :
    w.cell? ⟨g, 0, none⟩ = some (.int .i64 r.c) ∧ w.cell? ⟨g, 1, none⟩ = some (.int .i64 r.t) ∧ w.cell? ⟨g, 2, none⟩ = some (.int .i64 r.k) ∧ w.cell? ⟨g, 3, none⟩ = some (.int .i64 r.y) ∧ w.cell? ⟨g, 4, none⟩ = some (.int .i64 r.v) ∧ w.cell? ⟨g, 5, none⟩ = some (.int .i64 r.s) ∧ w.frozen? ⟨g, 5, none⟩ = false := by
  have hc := fun j => cell_of_row w g j _ _ _ h
  exact ⟨(hc 0).trans rfl, (hc 1).trans rfl, (hc 2).trans rfl, (hc 3).trans rfl, (hc 4).trans rfl, (hc 5).trans rfl, frozen_of_row w g 5 _ _ h⟩
theorem encN_len6 (n : Int) (h : Psp.okN n = true) : (Psp.encN n).length ≤ 6 := (Psp.encN_len h).2
theorem encR_len (r : Psp.Req) (h : Psp.okR r = true) : (Psp.encR r).length ≤ 36 := by
  unfold Psp.okR at h
  simp only [Bool.and_eq_true] at h
  obtain ⟨h1, h2, h3, _, _, h6⟩ := h
  have a1 := encN_len6 _ h1
  have a2 := encN_len6 _ h2
  have a3 := encN_len6 _ h3
  have a4 := (Psp.encS_len r.y).2
  have a5 := (Psp.encS_len r.v).2
  have a6 := encN_len6 _ h6
  unfold Psp.encR
  simp only [List.length_append]
  omega
theorem res_len (r : Psp.Req) : (res (Psp.encR r) (Psp.okR r)).length ≤ 36 := by
  cases h : Psp.okR r with
  | false => rw [res_no]; simp
  | true => rw [res_yes]; exact encR_len r h
end Go.Proofs.Ytnlnkcljehafkaa
