/- A guard that holds is taken away ahead of a quiet step. -/
import Derived.Test.YtmbdailffhdonaaPhX
namespace Go.Proofs.Ytmbdailffhdonaa
open Go.RowKit
set_option linter.unusedVariables false

theorem wpQuiet_bare {P : Program} {ops : Array Oper} {C : World → Prop} {Q : Act → Prop} {d : Option Nat} {op : Op} {t : TypeId} {ps : String} {af : Array Edge} {gd : Nat × Bool} {rest : List Oper} {a : Act} (hw : Region.wanted ⟨d, op, t, ps, af, some gd⟩ (yielded ops a.tmps) = true)
    (h : wpQuiet P ops C Q (⟨d, op, t, ps, af, none⟩ :: rest) a) : wpQuiet P ops C Q (⟨d, op, t, ps, af, some gd⟩ :: rest) a := by
  unfold wpQuiet at h ⊢
  rw [if_pos hw]
  rw [if_pos (by simp [Region.wanted])] at h
  exact h
theorem wpList_bare {P : Program} {ops : Array Oper} {Q : Exit → Act → World → Prop} {d : Option Nat} {op : Op} {t : TypeId} {ps : String} {af : Array Edge} {gd : Nat × Bool} {rest : List Oper} {a : Act} {w : World} (hw : Region.wanted ⟨d, op, t, ps, af, some gd⟩ (yielded ops a.tmps) = true)
    (h : wpList P ops Q (⟨d, op, t, ps, af, none⟩ :: rest) a w) : wpList P ops Q (⟨d, op, t, ps, af, some gd⟩ :: rest) a w := by
  unfold wpList at h ⊢
  rw [if_pos hw]
  rw [if_pos (by simp [Region.wanted])] at h
  exact h
end Go.Proofs.Ytmbdailffhdonaa
