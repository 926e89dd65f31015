/- What is taken at a place, by numbers; a message that is filled field by field. A node's vote for a certificate's batch: msgs.Ballot, the reference's. -/
import Derived.Test.YtipmjleohadoeaaGreatBxSa
import Derived.Test.YtipmjleohadoeaaGreatGfSa
import Derived.Test.YtipmjleohadoeaaGreatGgSa
import Derived.Test.YtipmjleohadoeaaGreatPhaseSa
section
namespace Go.Proofs.YtipmjleohadoeaaGreat
open Go.RowKit
set_option linter.unusedVariables false

/-- What a call that takes a number at a place returns. -/
def TakenN (d : Psp.Dec Int) (b : List UInt8) (a : Int) (w : World) (e : Ending) (w' : World) : Prop :=
  (∀ n a', d b a = some (n, a') → e = .returned (.tuple #[.int .i64 n, .int .i64 a', .bool true])) ∧ (d b a = none → e = .returned (.tuple #[.int .i64 0, .int .i64 0, .bool false])) ∧ w = w'
theorem tk_N (b : List UInt8) (x : Value) (a : Int) (w : World) (P : Nat → Prop) (hx : RdP w P 1 x b.length (b.map bv)) (ha : isI64 a) :
    Calls Tryz.prog 59 #[x, .int .i64 a] w (TakenN dN b a w) := by
  cases h : takeAt b a with
  | none =>
    refine (taken_no x b.length b a w hx.to_rd ha.1 ha.2 h).mono ?_
    rintro e w' ⟨rfl, rfl⟩
    exact ⟨fun n a' hd => (by rw [dN_none h] at hd; cases hd), fun _ => rfl, rfl⟩
  | some p =>
    obtain ⟨v, m⟩ := p
    refine (taken_yes x b.length b a v m w hx.to_rd ha.2 h).mono ?_
    rintro e w' ⟨rfl, rfl⟩
    refine ⟨fun n a' hd => ?_, fun hd => (by rw [dN_some h] at hd; cases hd), rfl⟩
    rw [dN_some h] at hd
    injection hd with hd
    injection hd with h1 h2
    subst h1 h2
    rfl
theorem tk_S (b : List UInt8) (x : Value) (a : Int) (w : World) (P : Nat → Prop) (hx : RdP w P 1 x b.length (b.map bv)) (ha : isI64 a) :
    Calls Tryz.prog 82 #[x, .int .i64 a] w (TakenN Psp.dS b a w) := by
  cases h : takeAt b a with
  | none =>
    refine (takes_no x b.length b a w hx.to_rd ha.1 ha.2 h).mono ?_
    rintro e w' ⟨rfl, rfl⟩
    exact ⟨fun n a' hd => (by unfold Psp.dS at hd; rw [dN_none h] at hd; cases hd), fun _ => rfl, rfl⟩
  | some p =>
    obtain ⟨v, m⟩ := p
    refine (takes_yes x b.length b a v m w hx.to_rd ha.2 h).mono ?_
    rintro e w' ⟨rfl, rfl⟩
    refine ⟨fun n a' hd => ?_, fun hd => (by unfold Psp.dS at hd; rw [dN_some h] at hd; cases hd), rfl⟩
    unfold Psp.dS at hd
    rw [dN_some h] at hd
    injection hd with hd
    injection hd with h1 h2
    subst h1 h2
    rfl

/-- The cells of the empty message. -/
abbrev zs : Array Value := #[.int .i64 0, .int .i64 0, .int .i64 0, .int .i64 0, .int .i64 0, .int .i64 0, .slice none 0 0, .slice none 0 0, .slice none 0 0, .slice none 0 0]
/-- A message's result cell and its variable's cell. -/
structure Pc (w0 W : World) (cs : Array Value) : Prop where
  vr : W.heap[w0.heap.size + 1]? = some (.cells cs 56 (0, 0))
  rr : W.heap[w0.heap.size]? = some (.cells zs 56 (0, 0))
  be : Below w0.heap.size w0 W
theorem Pc.lt {w0 W : World} {cs : Array Value} (h : Pc w0 W cs) : w0.heap.size + 1 < W.heap.size := (Array.getElem?_eq_some_iff.1 h.vr).1
theorem Pc.new (w0 : World) : Pc w0 ((w0.alloc (.cells zs 56)).alloc (.cells zs 56)) zs := by
  refine ⟨?_, ?_, (alloc_below w0 _).trans ((alloc_below _ _).mono (by simp))⟩
  · have := heap_alloc_new (w0.alloc (.cells zs 56)) (.cells zs 56)
    simpa using this
  · rw [(alloc_below _ _).block _ (by simp)]; exact heap_alloc_new w0 _
theorem Pc.call {w0 W W' : World} {cs : Array Value} (h : Pc w0 W cs) (hb : Below W.heap.size W W') : Pc w0 W' cs := by
  have := h.lt
  exact ⟨(hb.block _ (by omega)).trans h.vr, (hb.block _ (by omega)).trans h.rr, h.be.trans (hb.mono (by omega))⟩
theorem Pc.store {w0 W : World} {cs cs' : Array Value} (h : Pc w0 W cs) (i : Nat) (v : Value) (hc : cs.setIfInBounds i v = cs') : Pc w0 (W.setCell ⟨w0.heap.size + 1, i, none⟩ v) cs' := by
  refine ⟨?_, ?_, h.be.setCell (Nat.le_succ _) _⟩
  · rw [heap_setCell_same W _ i _ _ _ h.vr, hc]
  · exact (Below.heap_setCell W ⟨w0.heap.size + 1, i, none⟩ v _ (by show w0.heap.size ≠ w0.heap.size + 1; omega)).trans h.rr
theorem Pc.cell {w0 W : World} {cs : Array Value} (h : Pc w0 W cs) (i : Nat) {u : Value} (hi : cs[i]? = some u) : W.cell? ⟨w0.heap.size + 1, i, none⟩ = some u ∧ W.frozen? ⟨w0.heap.size + 1, i, none⟩ = false := by
  refine ⟨?_, frozen_of_row _ _ i _ _ h.vr⟩
  rw [cell_of_row _ _ i _ _ _ h.vr]; exact hi
theorem sizeM : (Tryz.prog.info? 56).map (·.size) = some 10 := by kernel_rfl
/-- The result's cell, where a value has been stored there. -/
theorem Pc.fin {w0 W : World} {cs : Array Value} (h : Pc w0 W cs) (l : List Value) (hl : l.length = 10) :
    (W.setCells w0.heap.size 0 l).heap[w0.heap.size]? = some (.cells l.toArray 56 (0, 0)) ∧ Below w0.heap.size w0 (W.setCells w0.heap.size 0 l) ∧ ∀ b, b ≠ w0.heap.size → (W.setCells w0.heap.size 0 l).heap[b]? = W.heap[b]? := by
  obtain ⟨h1, h2⟩ := row_store h.rr l hl
  exact ⟨h1, below_setCells h.be _ (Nat.le_refl _) l, h2⟩

/-- What a call that parses returns. -/
def TakenM (b : List UInt8) (w : World) (e : Ending) (w' : World) : Prop :=
  (∀ m, Psp.parseM b = some m → ∃ vb vo vc vp, e = .returned (.tuple #[.agg #[.int .i64 m.k, .int .i64 m.f, .int .i64 m.v, .int .i64 m.i, .int .i64 m.q, .int .i64 m.r, vb, vo, vc, vp], .bool true]) ∧ MsgOk w' (fun k => w.heap.size ≤ k) ⟨m, vb, vo, vc, vp⟩) ∧
  (Psp.parseM b = none → e = .returned (.tuple #[.agg zs, .bool false])) ∧ Below w.heap.size w w'
end Go.Proofs.YtipmjleohadoeaaGreat
namespace Psp
open Go.Proofs.YtipmjleohadoeaaGreat (dN)
/-- Parsing, in the order of the text. -/
theorem parse_chain {b : List UInt8} (h : b.length ≤ 65536) : parseM b = (dN b 0).bind fun k => (dN b k.2).bind fun f => (dN b f.2).bind fun v => (dN b v.2).bind fun i => (dN b i.2).bind fun q => (dS b q.2).bind fun r =>
    (dL dR b r.2).bind fun l => (dL dV b l.2).bind fun o => (dL dC b o.2).bind fun c => (dL dP b c.2).bind fun p => if p.2 = (b.length : Int) then some ⟨k.1, f.1, v.1, i.1, q.1, r.1, l.1, o.1, c.1, p.1⟩ else none := by
  unfold parseM dM
  simp only [Option.bind_assoc, Option.bind_map, Function.comp_def, h, and_true]
theorem parse_long {b : List UInt8} (h : ¬ b.length ≤ 65536) : parseM b = none := by
  unfold parseM
  simp only [h, and_false, if_false]
  cases dM b 0 <;> rfl
end Psp
end
section
namespace Go.Proofs.YtipmjleohadoeaaGreat
open Go.RowKit
set_option linter.unusedVariables false
set_option linter.unusedSimpArgs false

theorem range_of_row {W : World} {g : Nat} {cs : Array Value} {T : TypeId} (h : W.heap[g]? = some (.cells cs T (0, 0))) : W.rangeAt g 0 cs.toList := fun j v hv => by
  rw [Nat.zero_add, cell_of_row _ _ j _ _ _ h]; simpa using hv
end Go.Proofs.YtipmjleohadoeaaGreat
end
