/- A region that draws its order: first operations that read, or call what makes memory of its own (in any order), then forced ones, then again such as read or call. -/
import Derived.Test.YtadpkjgjciodnaaGreatGbVi
import Derived.StillTail
namespace Go.Proofs.YtadpkjgjciodnaaGreat
open Go.RowKit
set_option linter.unusedVariables false
set_option linter.unusedSimpArgs false

section
variable {P : Program} {ops : Array Oper} {md : Region.Mode} {C : World → Prop}

/-- What is asked behind some operations: K where they end in the normal way. -/
def thenQ (K : Act → World → Prop) (Q : Exit → Act → World → Prop) : Exit → Act → World → Prop
  | .normal, a, w => K a w
  | .panic c, a, w => Q (.panic c) a w
  | x, a, w => Q x a w

/-- From k on m forced ones, then g in the order of the text, each free. -/
def seqLex (md : Region.Mode) (ops : Array Oper) (g : Nat) : Nat → Nat → Array Bool → Bool
  | 0, k, listed => Region.lexFrom md ops g k listed
  | m + 1, k, listed => decide (Region.ready md ops listed = [k]) && seqLex md ops g m (k + 1) (listed.setIfInBounds k true)
theorem seqLex_ready {m g k : Nat} {listed : Array Bool} (hm : 0 < m) (h : seqLex md ops g m k listed = true) : ∀ j ∈ Region.ready md ops listed, k ≤ j := by
  cases m with
  | zero => omega
  | succ m =>
    intro j hj
    simp only [seqLex, Bool.and_eq_true, decide_eq_true_eq] at h
    rw [h.1] at hj
    have : j = k := by simpa using hj
    omega

theorem wp_thenQ {o : Oper} {a : Act} {w : World} {K K2 : Act → World → Prop} {Q : Exit → Act → World → Prop} (h : o.wp P a w K (thenQ K2 Q)) : o.wp P a w K Q := by
  unfold Oper.wp at *
  generalize (execOp a.eval o).run P w = r at *
  cases r with
  | ok n w' =>
    cases n <;> simp only [Oper.upon] at h ⊢ <;>
      first
        | exact h
        | exact Calls.mono h (fun e w'' he => by cases e <;> exact he)
  | halt x w' => cases x <;> simp only [Oper.upon] at h ⊢ <;> exact h

theorem any_seqLex {g : Nat} {K : Act → World → Prop} {Q : Exit → Act → World → Prop} : ∀ (l : List Oper) (k : Nat) (listed : Array Bool) (a : Act) (w : World), (∀ j, j < l.length → l[j]? = ops[k + j]?) →
    seqLex md ops g l.length k listed = true → (∀ listed a w, Region.lexFrom md ops g (k + l.length) listed = true → K a w → wpAny P md ops Q g listed a w) →
    wpList P ops (thenQ K Q) l a w → wpAny P md ops Q (l.length + g) listed a w
  | [], k, listed, a, w, _, hB, hK, h => by
    simp only [List.length_nil, Nat.zero_add, Nat.add_zero] at *
    exact hK _ _ _ (by simpa [seqLex] using hB) h
  | o :: l, k, listed, a, w, hl, hB, hK, h => by
    have h0 : ops[k]? = some o := by simpa using (hl 0 (by simp)).symm
    simp only [List.length_cons, seqLex, Bool.and_eq_true, decide_eq_true_eq] at hB
    rw [List.length_cons, show l.length + 1 + g = (l.length + g) + 1 by omega]
    refine ⟨fun h1 => (by rw [hB.1] at h1; cases h1), fun i hi => ?_⟩
    rw [hB.1] at hi
    have hik : i = k := by simpa using hi
    subst hik
    have hw : wpOp P ops Q i (wpList P ops (thenQ K Q) l) a w := by
      unfold wpOp
      simp only [h0]
      unfold wpList at h
      split
      · rename_i hwt
        rw [if_pos hwt] at h
        exact h.imp wp_thenQ fun ⟨h1, a', w', h2⟩ => ⟨h1, a', w', h2⟩
      · rename_i hwt
        rw [if_neg hwt] at h
        exact h
    exact wpOp_mono (fun a' w' h' => any_seqLex l (i + 1) _ a' w' (fun j hj => by have := hl (j + 1) (by simp; omega); simpa [Nat.add_assoc, Nat.add_comm 1 j] using this) hB.2
      (fun l1 a1 w1 h1 h2 => hK l1 a1 w1 (by rw [List.length_cons, show i + (l.length + 1) = i + 1 + l.length by omega]; exact h1) h2) h') hw

end
end Go.Proofs.YtadpkjgjciodnaaGreat
