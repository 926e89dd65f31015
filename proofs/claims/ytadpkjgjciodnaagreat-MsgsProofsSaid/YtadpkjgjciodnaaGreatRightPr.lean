/- The reference: Right; reqs.Batch. -/
import Derived.Test.YtadpkjgjciodnaaGreatJ31Pr
namespace Go.Proofs.YtadpkjgjciodnaaGreat
open Go.RowKit
set_option linter.unusedVariables false

/-- Is a request right, and its client's? -/
def sealedRB (cl : Int) (K : List Key) (r : Psp.Req) : Bool := Psp.valid r cl && (Psp.okR (bare r) && (decide (kR r ∈ K) && decide (num K (kR r) = r.s)))
/-- Which requests may be a batch. -/
def rightB (most cl : Int) (K : List Key) (l : List Psp.Req) : Bool := decide ((l.length : Int) ≤ most) && (Psp.rises l && l.all (sealedRB cl K))
theorem right_long {most cl : Int} {K : List Key} {l : List Psp.Req} (h : most < (l.length : Int)) : rightB most cl K l = false := by
  unfold rightB; rw [decide_eq_false (by omega)]; rfl
theorem right_rise {most cl : Int} {K : List Key} {l : List Psp.Req} (h : Psp.rises l = false) : rightB most cl K l = false := by
  unfold rightB; rw [h, Bool.false_and, Bool.and_false]
theorem right_seal {most cl : Int} {K : List Key} {l : List Psp.Req} {k : Nat} {x : Psp.Req} (hx : l[k]? = some x) (h : sealedRB cl K x = false) : rightB most cl K l = false := by
  unfold rightB
  have : l.all (sealedRB cl K) = false := by
    obtain ⟨hk, he⟩ := List.getElem?_eq_some_iff.1 hx
    rw [List.all_eq_false]
    exact ⟨x, by rw [← he]; exact List.getElem_mem hk, by rw [h]; simp⟩
  rw [this, Bool.and_false, Bool.and_false]
theorem right_yes {most cl : Int} {K : List Key} {l : List Psp.Req} (h1 : (l.length : Int) ≤ most) (h2 : Psp.rises l = true) (h3 : ∀ (j : Nat) (x : Psp.Req), l[j]? = some x → sealedRB cl K x = true) : rightB most cl K l = true := by
  unfold rightB
  have : l.all (sealedRB cl K) = true := by
    rw [List.all_eq_true]; intro x hx
    obtain ⟨j, hj, e⟩ := List.mem_iff_getElem.1 hx
    exact h3 j x (by rw [List.getElem?_eq_getElem hj, e])
  rw [decide_eq_true h1, h2, this]; rfl

end Go.Proofs.YtadpkjgjciodnaaGreat
