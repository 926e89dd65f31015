/- The walk of Table.Put. -/
import Derived.Test.YtmbdailffhdonaaTab5
import Derived.Deep.CutBlock
namespace Psp
def cntOf (l : List Told) (c : Int) : Nat := l.countP (fun t => decide (t.r.c = c))
def told0 (r : Req) : Told := ⟨r, List.replicate 13 false, false, 0⟩
def insT (l : List Told) (r : Req) : List Told := if isAt l r then l else l.take (pos l r) ++ (told0 r :: l.drop (pos l r))
def putAt (f : Int) (t : Told) (n clock : Int) : Told × Bool :=
  if !t.ready && decide (weak f ≤ ((put t.who n).countP id : Nat)) then (⟨t.r, put t.who n, true, clock⟩, true) else (⟨t.r, put t.who n, t.ready, t.since⟩, false)
def putOk (f cl : Int) (r : Req) (n : Int) : Prop := 0 ≤ r.c ∧ r.c < cl ∧ 0 ≤ n ∧ n < nodes f
theorem cnt_step {l : List Told} {k : Nat} {c : Int} (h : k < l.length) : cntOf (l.take (k + 1)) c = cntOf (l.take k) c + (if l[k].r.c = c then 1 else 0) := by
  unfold cntOf
  rw [List.take_succ_eq_append_getElem h, List.countP_append, List.countP_singleton]
  simp
theorem cnt_le_len (l : List Told) (c : Int) : cntOf l c ≤ l.length := List.countP_le_length
theorem insT_len (l : List Told) (r : Req) : (insT l r).length = l.length + (if isAt l r then 0 else 1) := by
  unfold insT
  have := pos_le l r
  split <;> simp <;> omega
theorem insT_at (l : List Told) (r : Req) : ∃ t, (insT l r)[pos l r]? = some t ∧ (isAt l r = false → t = told0 r) ∧ (isAt l r = true → l[pos l r]? = some t) := by
  have hp := pos_le l r
  unfold insT
  cases h : isAt l r with
  | true =>
    have := isAt_pos h
    rw [if_pos rfl, List.getElem?_eq_getElem this]
    exact ⟨_, rfl, fun h => (by simp at h), fun _ => rfl⟩
  | false =>
    rw [if_neg (by simp), List.getElem?_append_right (by rw [List.length_take]; omega), List.length_take]
    rw [show pos l r - min (pos l r) l.length = 0 by omega]
    exact ⟨_, rfl, fun _ => rfl, fun h => (by simp at h)⟩
end Psp
namespace Go.Proofs.Ytmbdailffhdonaa
open Go.RowKit
set_option linter.unusedVariables false

theorem und_req : Try.prog.underlying 25 = some (.struct (Try.prog.fieldsOf 25)) := by kernel_rfl

/-- The arguments are not in order: nothing happens. -/
theorem put_bad (r : Psp.Req) (n clock : Int) (S : Nat → Prop) (g : Nat) (f cl : Int) (l : List Psp.Told) (w : World) (hT : Tab w S g f cl l) (hbad : ¬ Psp.putOk f cl r n) :
    Calls Try.prog 12 #[.pointer (some ⟨g, 0, none⟩), .agg #[.int .i64 r.c, .int .i64 r.t, .int .i64 r.k, .int .i64 r.y, .int .i64 r.v, .int .i64 r.s], .int .i64 n, .int .i64 clock] w fun e w' => e = .returned (.tuple #[.bool false, .bool false, .int .i64 1]) ∧ Below w.heap.size w w' := by
  obtain ⟨A, c, hc1, hc2, hc0, hcl, hcv, hrow⟩ := hT.cells
  have hglt := hT.lt g hT.own
  clear hrow hT
  have hn := Psp.nodes_bd f
  by_cases h1 : r.c < 0
  · have d1 : decide (r.c < 0) = true := decide_eq_true h1
    go_enter Try.func12, Try.ntmps12
    go_wp2_with fail
    go_quiet ((go_at_call 25; exact Calls.quiet_of_same ((b_nodes_any _ _).mono fun _ _ h => ⟨h.1, h.2.symm⟩)))
    go_wp2_with fail
    go_ret3
    exact ⟨rfl, below_drewN ((Below.refl _ _).alloc (Nat.le_refl _) _) _⟩
  · have d1 : decide (r.c < 0) = false := decide_eq_false h1
    by_cases h2 : cl ≤ r.c
    · have d2 : decide (cl ≤ r.c) = true := decide_eq_true h2
      go_enter Try.func12, Try.ntmps12
      go_wp2_with fail
      go_quiet ((go_at_call 25; exact Calls.quiet_of_same ((b_nodes_any _ _).mono fun _ _ h => ⟨h.1, h.2.symm⟩)))
      go_wp2_with fail
      go_ret3
      exact ⟨rfl, below_drewN ((Below.refl _ _).alloc (Nat.le_refl _) _) _⟩
    · have d2 : decide (cl ≤ r.c) = false := decide_eq_false h2
      by_cases h3 : n < 0
      · have d3 : decide (n < 0) = true := decide_eq_true h3
        go_enter Try.func12, Try.ntmps12
        go_wp2_with fail
        go_quiet ((go_at_call 25; exact Calls.quiet_of_same ((b_nodes_any _ _).mono fun _ _ h => ⟨h.1, h.2.symm⟩)))
        go_wp2_with fail
        go_ret3
        exact ⟨rfl, below_drewN ((Below.refl _ _).alloc (Nat.le_refl _) _) _⟩
      · have d3 : decide (n < 0) = false := decide_eq_false h3
        have h4 : Psp.nodes f ≤ n := by
          rcases Int.lt_or_le n (Psp.nodes f) with h | h
          · exact absurd ⟨by omega, by omega, by omega, h⟩ hbad
          · exact h
        have d4 : decide (Psp.nodes f ≤ n) = true := decide_eq_true h4
        go_enter Try.func12, Try.ntmps12
        go_wp2_with fail
        go_quiet ((go_at_call 25; exact Calls.quiet_of_same ((b_nodes_any _ _).mono fun _ _ h => ⟨h.1, h.2.symm⟩)))
        go_wp2_with fail
        go_ret3
        exact ⟨rfl, below_drewN ((Below.refl _ _).alloc (Nat.le_refl _) _) _⟩

/-- Store of one cell of a row. -/
theorem Tab.store1 {w : World} {S : Nat → Prop} {g : Nat} {f cl : Int} {l : List Psp.Told} (h : Tab w S g f cl l) {b c n k j : Nat} (hv : w.cell? ⟨g, 2, none⟩ = some (.slice (some ⟨b, 0, none⟩) n c)) {t t' : Psp.Told} (u : Value) (hk : l[k]? = some t) (hj : j < 21)
    (ht : (tc t).set j u = tc t') (hw : t'.who.length = 13) : Tab (w.setCell ⟨b, k * 21 + j, none⟩ u) S g f cl (l.set k t') ∧ (w.setCell ⟨b, k * 21 + j, none⟩ u).cell? ⟨g, 2, none⟩ = some (.slice (some ⟨b, 0, none⟩) n c) := by
  obtain ⟨v, h1, h2, h3⟩ := h.ex
  have hv' := hv
  rw [cell_of_row w g 2 _ _ _ h1] at hv
  have e : v = .slice (some ⟨b, 0, none⟩) n c := by simpa using hv
  subst e
  have hbg : b ≠ g := by
    rintro rfl
    rcases h2.2 with ⟨h', _⟩ | ⟨g', cap', cur, h', _, hg, _⟩
    · simp at h'
    · simp only [Value.slice.injEq, Option.some.injEq, Addr.mk.injEq, and_true] at h'
      obtain ⟨rfl, _, _⟩ := h'
      rw [hg] at h1
      injection h1 with h1
      injection h1 with _ ht
      exact absurd ht (by decide)
  have hnl : n = l.length := by
    rcases h2.2 with ⟨h', _⟩ | ⟨g', cap', cur, h', _⟩
    · simp at h'
    · simp only [Value.slice.injEq] at h'; exact h'.2.1
  subst hnl
  refine ⟨⟨⟨_, (Below.heap_setCell w ⟨b, k * 21 + j, none⟩ u g (Ne.symm hbg)).trans h1, ?_, h3⟩, h.own, fun k' hk' => by simpa [World.setCell] using h.lt k' hk', ?_, by simpa using h.len⟩, ?_⟩
  · have h5 := (h2.stored (k * 21 + j) u).1
    rw [set_told l k j t t' u hk hj ht] at h5
    rw [List.length_set]
    exact h5
  · intro x hx
    rcases List.mem_or_eq_of_mem_set hx with hx | rfl
    · exact h.who x hx
    · exact hw
  · exact (World.cell?_setCell_other _ _ _ _ (by simp only [ne_eq, Addr.mk.injEq]; omega)).trans hv'
end Go.Proofs.Ytmbdailffhdonaa
