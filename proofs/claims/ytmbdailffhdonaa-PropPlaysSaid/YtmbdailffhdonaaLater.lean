/- A region that draws its order, whose operations read and whose callees read and make memory of their own: one walk, in the order of the text. -/
import Derived.Test.YtmbdailffhdonaaLaws
import Derived.BigQuiet
import Derived.Deep.QuietTactic
namespace Go.Proofs.Ytmbdailffhdonaa
open Go.RowKit
set_option linter.unusedVariables false

/-- A world that has come of w: what was there is as it was. -/
structure Later (w : World) where
  W : World
  h : Below w.heap.size w W

instance (w : World) : Nonempty (Later w) := ⟨⟨w, Below.refl _ _⟩⟩

theorem wp_region_later {P : Program} {id : Nat} {Q : Exit → Act → World → Prop} {a : Act} {w : World} {l : List Oper} (hm : P.follows .mixedOrders = true) (hB : Region.lexB .any l.toArray = true)
    (h : wpQuiet P l.toArray (fun w' => ∃ p : Later w, w' = p.W) (fun a' => ∀ w', (∃ p : Later w, w' = p.W) → Q .normal a' w') l a) : (Code.region id l.toArray true).wp P Q a w :=
  wp_region_quiet (C := fun w' => ∃ p : Later w, w' = p.W) hm hB ⟨⟨w.drew, (Below.refl _ _).drew⟩, rfl⟩ (by simpa using h)

theorem later_cell {w : World} {b o : Nat} {v : Value} (h : w.cell? ⟨b, o, none⟩ = some v) : ∀ p : Later w, p.W.cell? ⟨b, o, none⟩ = some v :=
  fun p => (p.h.cell (p := ⟨b, o, none⟩) (World.block_lt_of_cell? w ⟨b, o, none⟩ h)).trans h

theorem later_call {P : Program} {f : FuncId} {args : Array Value} {w : World} {v : Value} (p : Later w)
    (h : Calls P f args p.W fun e w' => e = .returned v ∧ Below p.W.heap.size p.W w') : Calls P f args p.W fun e w'' => e = .returned v ∧ ∃ q : Later w, w'' = q.W :=
  h.mono fun _ w' ⟨he, hb⟩ => ⟨he, ⟨w', p.h.trans (hb.mono p.h.size)⟩, rfl⟩

theorem later_same {P : Program} {f : FuncId} {args : Array Value} {w : World} {v : Value} (p : Later w)
    (h : Calls P f args p.W fun e w' => e = .returned v ∧ p.W = w') : Calls P f args p.W fun e w'' => e = .returned v ∧ ∃ q : Later w, w'' = q.W :=
  h.mono fun _ w' ⟨he, hb⟩ => ⟨he, p, hb.symm⟩

theorem Rd.later {w : World} {B k n : Nat} {v : Value} {xs : List Value} (h : Rd w B k v n xs) (hB : B ≤ w.heap.size) (p : Later w) : Rd p.W p.W.heap.size k v n xs :=
  (h.below (p.h.mono hB)).more (Nat.le_trans hB p.h.size)

theorem Rd.cap {w : World} {B k n m cap : Nat} {A : Option Addr} {xs : List Value} (h : Rd w B k (.slice A n cap) m xs) : n ≤ cap ∧ cap ≤ 9223372036854775807 := by
  obtain ⟨h1, A', c, h2, h3, h4, h5⟩ := h
  injection h2 with _ e1 e2
  subst e1 e2
  unfold maxLen at h4
  omega

/-- A slice's beginning. -/
theorem Rd.take {w : World} {B k n cap : Nat} {A : Option Addr} {xs : List Value} (h : Rd w B k (.slice A n cap) n xs) {j : Nat} (hj : j ≤ n) : Rd w B k (.slice A j cap) j (xs.take (j * k)) := by
  obtain ⟨h1, A', c, h2, h3, h4, h5⟩ := h
  injection h2 with e1 _ e2
  subst e1 e2
  refine ⟨?_, A, cap, rfl, by omega, h4, fun hn => ?_⟩
  · rw [List.length_take, h1]
    exact Nat.min_eq_left (Nat.mul_le_mul_right _ hj)
  · obtain ⟨b, o, e, hb, hl⟩ := h5 (by omega)
    exact ⟨b, o, e, hb, hl.take _⟩
end Go.Proofs.Ytmbdailffhdonaa
