/- Words for memory: cells in a row; a slice value that reads as a list; a slice that the call owns. Plain facts on worlds, no function in sight. -/
import Derived.WalkKit
import Derived.Below
import Derived.Laws.OwnMore
import Derived.Deep.AppendLies
import Derived.Deep.Draws
import Derived.Maps.AppendAt
import Derived.Lib.Hide
import Derived.Test.YtmbdailffhdonaaNum
namespace Go.Proofs.Ytmbdailffhdonaa
open Go.RowKit
set_option linter.unusedVariables false

theorem ret_int {k : IntKind} {a b : Int} (h : a = b) : Ending.returned (.int k a) = .returned (.int k b) := by rw [h]
theorem ret_bool {a b : Bool} (h : a = b) : Ending.returned (.bool a) = .returned (.bool b) := by rw [h]

/-- A byte as a cell. -/
def bv (c : UInt8) : Value := .int .u8 (c.toNat : Int)
/-- An int as a cell. -/
def iv (n : Int) : Value := .int .i64 n

/-- The cells xs lie in block b from o on. -/
def Lies (w : World) (b o : Nat) (xs : List Value) : Prop := ∀ j u, xs[j]? = some u → w.cell? ⟨b, o + j, none⟩ = some u

/-- The slice value v has n elements of k cells, which are xs and lie below block B. -/
def Rd (w : World) (B k : Nat) (v : Value) (n : Nat) (xs : List Value) : Prop :=
  xs.length = n * k ∧ ∃ A c, v = .slice A n c ∧ n ≤ c ∧ c ≤ maxLen ∧ (0 < n → ∃ b o, A = some ⟨b, o, none⟩ ∧ b < B ∧ Lies w b o xs)

theorem Lies.nil (w : World) (b o : Nat) : Lies w b o [] := by intro j u h; simp at h
theorem Lies.at_ {w : World} {b o : Nat} {xs : List Value} (h : Lies w b o xs) {j : Nat} (hj : j < xs.length) : w.cell? ⟨b, o + j, none⟩ = some xs[j] :=
  h j _ (List.getElem?_eq_getElem hj)
theorem Lies.keep {w w' : World} {b o : Nat} {xs : List Value} (h : Lies w b o xs) (hk : w'.heap[b]? = w.heap[b]?) : Lies w' b o xs :=
  fun j u hu => (World.cell?_of_block (w := w) (a := ⟨b, o + j, none⟩) hk).trans (h j u hu)
theorem Lies.drop {w : World} {b o : Nat} {xs : List Value} (h : Lies w b o xs) (k : Nat) : Lies w b (o + k) (xs.drop k) := by
  intro j u hu
  rw [List.getElem?_drop] at hu
  rw [Nat.add_assoc]
  exact h _ u hu
theorem Lies.take {w : World} {b o : Nat} {xs : List Value} (h : Lies w b o xs) (k : Nat) : Lies w b o (xs.take k) := by
  intro j u hu
  rw [List.getElem?_take] at hu
  split at hu
  · exact h _ u hu
  · cases hu

section
variable {w w' : World} {B B' k n : Nat} {v : Value} {xs : List Value}

theorem Rd.len (h : Rd w B k v n xs) : xs.length = n * k := h.1
theorem Rd.none_ : Rd w B k (.slice none 0 0) 0 [] := ⟨by simp, none, 0, rfl, Nat.le_refl _, Nat.zero_le _, fun h => absurd h (by omega)⟩
theorem Rd.bd (h : Rd w B k v n xs) : n ≤ 9223372036854775807 := by
  obtain ⟨_, A, c, _, h1, h2, _⟩ := h
  unfold maxLen at h2; omega
theorem Rd.keep (h : Rd w B k v n xs) (hk : ∀ b, b < B → w'.heap[b]? = w.heap[b]?) : Rd w' B k v n xs := by
  obtain ⟨h1, A, c, h2, h3, h4, h5⟩ := h
  refine ⟨h1, A, c, h2, h3, h4, fun hn => ?_⟩
  obtain ⟨b, o, e, hb, hl⟩ := h5 hn
  exact ⟨b, o, e, hb, hl.keep (hk b hb)⟩
theorem Rd.below (h : Rd w B k v n xs) (hb : Below B w w') : Rd w' B k v n xs := h.keep hb.block
theorem Rd.more (h : Rd w B k v n xs) (hB : B ≤ B') : Rd w B' k v n xs := by
  obtain ⟨h1, A, c, h2, h3, h4, h5⟩ := h
  refine ⟨h1, A, c, h2, h3, h4, fun hn => ?_⟩
  obtain ⟨b, o, e, hb, hl⟩ := h5 hn
  exact ⟨b, o, e, by omega, hl⟩
theorem Rd.of_own {base : Nat} {e : TypeId} (h : w.ownsRow base e k v n xs) : Rd w w.heap.size k v n xs := by
  refine ⟨h.1, ?_⟩
  rcases h.2 with ⟨rfl, rfl⟩ | ⟨g, cap, cur, rfl, hb, hg, hc, hm, hs, ht⟩
  · exact ⟨none, 0, rfl, Nat.le_refl _, Nat.zero_le _, fun hn => absurd hn (by omega)⟩
  · refine ⟨_, cap, rfl, hc, hm, fun hn => ⟨g, 0, rfl, (Array.getElem?_eq_some_iff.1 hg).1, fun j u hu => ?_⟩⟩
    have hj : j < n * k := by
      have := (List.getElem?_eq_some_iff.1 hu).1
      rw [h.1] at this; exact this
    rw [Nat.zero_add, cell_of_row w g j cur e (0, 0) hg]
    rw [← ht, List.getElem?_take, if_pos hj] at hu
    simpa using hu
end

theorem below_drewN {B : Nat} {a w : World} (h : Below B a w) (n : Nat) : Below B a (w.drewN n) := ⟨h.os, h.tape, h.output, h.size, h.block⟩

end Go.Proofs.Ytmbdailffhdonaa
