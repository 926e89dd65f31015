/- What Within returns, by its numbers' ranges. A guard that holds is taken away ahead of a quiet step. -/
import Derived.Test.YtipmjleohadoeaaGreatGaSa
import Derived.Test.YtipmjleohadoeaaGreatGbSa
import Derived.Test.YtipmjleohadoeaaGreatPhXSa
section
namespace Go.Proofs.YtipmjleohadoeaaGreat
open Go.RowKit
theorem within_i (v n : Int) (w : World) (hv : isI64 v) (hn : isI64 n) :
    Calls Tryz.prog 8 #[.int .i64 v, .int .i64 n] w fun e w' => e = .returned (.int .i64 (Psp.within v n)) ∧ w = w' := within_any v n w hv.1 hv.2 hn.1 hn.2
end Go.Proofs.YtipmjleohadoeaaGreat
end
section
namespace Go.Proofs.YtipmjleohadoeaaGreat
open Go.RowKit
set_option linter.unusedVariables false

theorem wpQuiet_bare {P : Program} {ops : Array Oper} {C : World → Prop} {Q : Act → Prop} {d : Option Nat} {op : Op} {t : TypeId} {ps : String} {af : Array Edge} {gd : Nat × Bool} {rest : List Oper} {a : Act} (hw : Region.wanted ⟨d, op, t, ps, af, some gd⟩ (yielded ops a.tmps) = true)
    (h : wpQuiet P ops C Q (⟨d, op, t, ps, af, none⟩ :: rest) a) : wpQuiet P ops C Q (⟨d, op, t, ps, af, some gd⟩ :: rest) a := by
  unfold wpQuiet at h ⊢
  rw [if_pos hw]
  rw [if_pos (by simp [Region.wanted])] at h
  exact h
end Go.Proofs.YtipmjleohadoeaaGreat
end
