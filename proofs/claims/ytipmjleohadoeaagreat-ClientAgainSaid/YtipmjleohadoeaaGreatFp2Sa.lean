/- Package msgs: bare, and looks at batches, votes, certificates. Printed by gen_fp2.py. -/
import Derived.Test.YtipmjleohadoeaaGreatFp1Sa
import Derived.Test.YtipmjleohadoeaaGreatGgSa
import Derived.Deep.CutBlock
namespace Go.Proofs.YtipmjleohadoeaaGreat
open Go.RowKit
set_option linter.unusedVariables false

set_option maxRecDepth 100000 in
set_option maxHeartbeats 8000000 in
theorem bare_n (k f v i q r : Int) (Ab Ao Ac Ap : Option Addr) (nb no nc np cb co cc cp : Nat) (b o c p : Bool) (w : World) :
    Calls Tryz.prog 88 #[.agg #[.int .i64 k, .int .i64 f, .int .i64 v, .int .i64 i, .int .i64 q, .int .i64 r, .slice Ab nb cb, .slice Ao no co, .slice Ac nc cc, .slice Ap np cp], .bool b, .bool o, .bool c, .bool p] w fun e w' => e = .returned (.bool ((b || decide (nb = 0)) && ((o || decide (no = 0)) && ((c || decide (nc = 0)) && (p || decide (np = 0)))))) ∧ Below w.heap.size w w' := by
  cases b with
  | true =>
    cases o with
    | true =>
      cases c with
      | true =>
        cases p with
        | true =>
          go_enter Tryz.func88, Tryz.ntmps88
          go_wp2_with fail
          go_ret
          refine ⟨?_, by first | exact alloc_below w _ | exact below_drewN (alloc_below w _) _⟩
          simp [*]
        | false =>
          by_cases h3 : np = 0
          · have d3 : (((np : Nat) : Int) == 0) = true := by rw [h3]; rfl
            go_enter Tryz.func88, Tryz.ntmps88
            go_wp2_with fail
            go_ret
            refine ⟨?_, by first | exact alloc_below w _ | exact below_drewN (alloc_below w _) _⟩
            simp [*]
          · have d3 : (((np : Nat) : Int) == 0) = false := by rw [beq_eq_false_iff_ne]; omega
            go_enter Tryz.func88, Tryz.ntmps88
            go_wp2_with fail
            go_ret
            refine ⟨?_, by first | exact alloc_below w _ | exact below_drewN (alloc_below w _) _⟩
            simp [*]
      | false =>
        by_cases h2 : nc = 0
        · have d2 : (((nc : Nat) : Int) == 0) = true := by rw [h2]; rfl
          cases p with
          | true =>
            go_enter Tryz.func88, Tryz.ntmps88
            go_wp2_with fail
            go_ret
            refine ⟨?_, by first | exact alloc_below w _ | exact below_drewN (alloc_below w _) _⟩
            simp [*]
          | false =>
            by_cases h3 : np = 0
            · have d3 : (((np : Nat) : Int) == 0) = true := by rw [h3]; rfl
              go_enter Tryz.func88, Tryz.ntmps88
              go_wp2_with fail
              go_ret
              refine ⟨?_, by first | exact alloc_below w _ | exact below_drewN (alloc_below w _) _⟩
              simp [*]
            · have d3 : (((np : Nat) : Int) == 0) = false := by rw [beq_eq_false_iff_ne]; omega
              go_enter Tryz.func88, Tryz.ntmps88
              go_wp2_with fail
              go_ret
              refine ⟨?_, by first | exact alloc_below w _ | exact below_drewN (alloc_below w _) _⟩
              simp [*]
        · have d2 : (((nc : Nat) : Int) == 0) = false := by rw [beq_eq_false_iff_ne]; omega
          go_enter Tryz.func88, Tryz.ntmps88
          go_wp2_with fail
          go_ret
          refine ⟨?_, by first | exact alloc_below w _ | exact below_drewN (alloc_below w _) _⟩
          simp [*]
    | false =>
      by_cases h1 : no = 0
      · have d1 : (((no : Nat) : Int) == 0) = true := by rw [h1]; rfl
        cases c with
        | true =>
          cases p with
          | true =>
            go_enter Tryz.func88, Tryz.ntmps88
            go_wp2_with fail
            go_ret
            refine ⟨?_, by first | exact alloc_below w _ | exact below_drewN (alloc_below w _) _⟩
            simp [*]
          | false =>
            by_cases h3 : np = 0
            · have d3 : (((np : Nat) : Int) == 0) = true := by rw [h3]; rfl
              go_enter Tryz.func88, Tryz.ntmps88
              go_wp2_with fail
              go_ret
              refine ⟨?_, by first | exact alloc_below w _ | exact below_drewN (alloc_below w _) _⟩
              simp [*]
            · have d3 : (((np : Nat) : Int) == 0) = false := by rw [beq_eq_false_iff_ne]; omega
              go_enter Tryz.func88, Tryz.ntmps88
              go_wp2_with fail
              go_ret
              refine ⟨?_, by first | exact alloc_below w _ | exact below_drewN (alloc_below w _) _⟩
              simp [*]
        | false =>
          by_cases h2 : nc = 0
          · have d2 : (((nc : Nat) : Int) == 0) = true := by rw [h2]; rfl
            cases p with
            | true =>
              go_enter Tryz.func88, Tryz.ntmps88
              go_wp2_with fail
              go_ret
              refine ⟨?_, by first | exact alloc_below w _ | exact below_drewN (alloc_below w _) _⟩
              simp [*]
            | false =>
              by_cases h3 : np = 0
              · have d3 : (((np : Nat) : Int) == 0) = true := by rw [h3]; rfl
                go_enter Tryz.func88, Tryz.ntmps88
                go_wp2_with fail
                go_ret
                refine ⟨?_, by first | exact alloc_below w _ | exact below_drewN (alloc_below w _) _⟩
                simp [*]
              · have d3 : (((np : Nat) : Int) == 0) = false := by rw [beq_eq_false_iff_ne]; omega
                go_enter Tryz.func88, Tryz.ntmps88
                go_wp2_with fail
                go_ret
                refine ⟨?_, by first | exact alloc_below w _ | exact below_drewN (alloc_below w _) _⟩
                simp [*]
          · have d2 : (((nc : Nat) : Int) == 0) = false := by rw [beq_eq_false_iff_ne]; omega
            go_enter Tryz.func88, Tryz.ntmps88
            go_wp2_with fail
            go_ret
            refine ⟨?_, by first | exact alloc_below w _ | exact below_drewN (alloc_below w _) _⟩
            simp [*]
      · have d1 : (((no : Nat) : Int) == 0) = false := by rw [beq_eq_false_iff_ne]; omega
        go_enter Tryz.func88, Tryz.ntmps88
        go_wp2_with fail
        go_ret
        refine ⟨?_, by first | exact alloc_below w _ | exact below_drewN (alloc_below w _) _⟩
        simp [*]
  | false =>
    by_cases h0 : nb = 0
    · have d0 : (((nb : Nat) : Int) == 0) = true := by rw [h0]; rfl
      cases o with
      | true =>
        cases c with
        | true =>
          cases p with
          | true =>
            go_enter Tryz.func88, Tryz.ntmps88
            go_wp2_with fail
            go_ret
            refine ⟨?_, by first | exact alloc_below w _ | exact below_drewN (alloc_below w _) _⟩
            simp [*]
          | false =>
            by_cases h3 : np = 0
            · have d3 : (((np : Nat) : Int) == 0) = true := by rw [h3]; rfl
              go_enter Tryz.func88, Tryz.ntmps88
              go_wp2_with fail
              go_ret
              refine ⟨?_, by first | exact alloc_below w _ | exact below_drewN (alloc_below w _) _⟩
              simp [*]
            · have d3 : (((np : Nat) : Int) == 0) = false := by rw [beq_eq_false_iff_ne]; omega
              go_enter Tryz.func88, Tryz.ntmps88
              go_wp2_with fail
              go_ret
              refine ⟨?_, by first | exact alloc_below w _ | exact below_drewN (alloc_below w _) _⟩
              simp [*]
        | false =>
          by_cases h2 : nc = 0
          · have d2 : (((nc : Nat) : Int) == 0) = true := by rw [h2]; rfl
            cases p with
            | true =>
              go_enter Tryz.func88, Tryz.ntmps88
              go_wp2_with fail
              go_ret
              refine ⟨?_, by first | exact alloc_below w _ | exact below_drewN (alloc_below w _) _⟩
              simp [*]
            | false =>
              by_cases h3 : np = 0
              · have d3 : (((np : Nat) : Int) == 0) = true := by rw [h3]; rfl
                go_enter Tryz.func88, Tryz.ntmps88
                go_wp2_with fail
                go_ret
                refine ⟨?_, by first | exact alloc_below w _ | exact below_drewN (alloc_below w _) _⟩
                simp [*]
              · have d3 : (((np : Nat) : Int) == 0) = false := by rw [beq_eq_false_iff_ne]; omega
                go_enter Tryz.func88, Tryz.ntmps88
                go_wp2_with fail
                go_ret
                refine ⟨?_, by first | exact alloc_below w _ | exact below_drewN (alloc_below w _) _⟩
                simp [*]
          · have d2 : (((nc : Nat) : Int) == 0) = false := by rw [beq_eq_false_iff_ne]; omega
            go_enter Tryz.func88, Tryz.ntmps88
            go_wp2_with fail
            go_ret
            refine ⟨?_, by first | exact alloc_below w _ | exact below_drewN (alloc_below w _) _⟩
            simp [*]
      | false =>
        by_cases h1 : no = 0
        · have d1 : (((no : Nat) : Int) == 0) = true := by rw [h1]; rfl
          cases c with
          | true =>
            cases p with
            | true =>
              go_enter Tryz.func88, Tryz.ntmps88
              go_wp2_with fail
              go_ret
              refine ⟨?_, by first | exact alloc_below w _ | exact below_drewN (alloc_below w _) _⟩
              simp [*]
            | false =>
              by_cases h3 : np = 0
              · have d3 : (((np : Nat) : Int) == 0) = true := by rw [h3]; rfl
                go_enter Tryz.func88, Tryz.ntmps88
                go_wp2_with fail
                go_ret
                refine ⟨?_, by first | exact alloc_below w _ | exact below_drewN (alloc_below w _) _⟩
                simp [*]
              · have d3 : (((np : Nat) : Int) == 0) = false := by rw [beq_eq_false_iff_ne]; omega
                go_enter Tryz.func88, Tryz.ntmps88
                go_wp2_with fail
                go_ret
                refine ⟨?_, by first | exact alloc_below w _ | exact below_drewN (alloc_below w _) _⟩
                simp [*]
          | false =>
            by_cases h2 : nc = 0
            · have d2 : (((nc : Nat) : Int) == 0) = true := by rw [h2]; rfl
              cases p with
              | true =>
                go_enter Tryz.func88, Tryz.ntmps88
                go_wp2_with fail
                go_ret
                refine ⟨?_, by first | exact alloc_below w _ | exact below_drewN (alloc_below w _) _⟩
                simp [*]
              | false =>
                by_cases h3 : np = 0
                · have d3 : (((np : Nat) : Int) == 0) = true := by rw [h3]; rfl
                  go_enter Tryz.func88, Tryz.ntmps88
                  go_wp2_with fail
                  go_ret
                  refine ⟨?_, by first | exact alloc_below w _ | exact below_drewN (alloc_below w _) _⟩
                  simp [*]
                · have d3 : (((np : Nat) : Int) == 0) = false := by rw [beq_eq_false_iff_ne]; omega
                  go_enter Tryz.func88, Tryz.ntmps88
                  go_wp2_with fail
                  go_ret
                  refine ⟨?_, by first | exact alloc_below w _ | exact below_drewN (alloc_below w _) _⟩
                  simp [*]
            · have d2 : (((nc : Nat) : Int) == 0) = false := by rw [beq_eq_false_iff_ne]; omega
              go_enter Tryz.func88, Tryz.ntmps88
              go_wp2_with fail
              go_ret
              refine ⟨?_, by first | exact alloc_below w _ | exact below_drewN (alloc_below w _) _⟩
              simp [*]
        · have d1 : (((no : Nat) : Int) == 0) = false := by rw [beq_eq_false_iff_ne]; omega
          go_enter Tryz.func88, Tryz.ntmps88
          go_wp2_with fail
          go_ret
          refine ⟨?_, by first | exact alloc_below w _ | exact below_drewN (alloc_below w _) _⟩
          simp [*]
    · have d0 : (((nb : Nat) : Int) == 0) = false := by rw [beq_eq_false_iff_ne]; omega
      go_enter Tryz.func88, Tryz.ntmps88
      go_wp2_with fail
      go_ret
      refine ⟨?_, by first | exact alloc_below w _ | exact below_drewN (alloc_below w _) _⟩
      simp [*]

end Go.Proofs.YtipmjleohadoeaaGreat
