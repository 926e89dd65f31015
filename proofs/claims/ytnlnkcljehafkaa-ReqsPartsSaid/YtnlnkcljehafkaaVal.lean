/- Which requests are right. Printed by gen_valid.py. -/
import Derived.Test.YtnlnkcljehafkaaPz
import Derived.Deep.CutBlock
namespace Psp
def valid (r : Req) (clients : Int) : Bool := decide (0 ≤ r.c ∧ r.c < clients ∧ 1 ≤ r.t ∧ r.t ≤ 1048576 ∧ 0 ≤ r.s ∧ r.s < 1099511627776 ∧ 0 ≤ r.y ∧ r.y < 64 ∧ -2147483648 < r.v ∧ r.v < 2147483648 ∧ (r.k = 1 ∨ r.k = 3 ∨ (r.k = 2 ∧ r.v = 0) ∨ (r.k = 4 ∧ r.v = 0) ∨ (r.k = 5 ∧ r.y = 0 ∧ r.v = 0)))
end Psp
namespace Go.Proofs.Ytnlnkcljehafkaa
open Go.RowKit
set_option linter.unusedVariables false

theorem val_size : (Try.prog.info? 24).map (·.size) = some 3 := by kernel_rfl
theorem val_load (r : Psp.Req) (w : World) : (w.alloc (.cells #[.int .i64 r.c, .int .i64 r.t, .int .i64 r.k, .int .i64 r.y, .int .i64 r.v, .int .i64 r.s] 26)).rangeAt w.heap.size 2 [.int .i64 r.k, .int .i64 r.y, .int .i64 r.v] := by
  intro j v hv
  rw [cell_of_row _ w.heap.size (2 + j) _ _ _ (heap_alloc_new w _)]
  match j, hv with
  | 0, hv => simpa using hv
  | 1, hv => simpa using hv
  | 2, hv => simpa using hv
theorem val_cells {r : Psp.Req} {w w1 : World} {W : World} (hW : W = w.alloc (.cells #[.int .i64 r.c, .int .i64 r.t, .int .i64 r.k, .int .i64 r.y, .int .i64 r.v, .int .i64 r.s] 26)) (hb : Below W.heap.size W w1) (hr : w1.rangeAt W.heap.size 0 [.int .i64 r.k, .int .i64 r.y, .int .i64 r.v]) :
    w1.cell? ⟨w.heap.size, 0, none⟩ = some (.int .i64 r.c) ∧ w1.cell? ⟨w.heap.size, 1, none⟩ = some (.int .i64 r.t) ∧ w1.cell? ⟨w.heap.size, 2, none⟩ = some (.int .i64 r.k) ∧ w1.cell? ⟨w.heap.size, 3, none⟩ = some (.int .i64 r.y) ∧ w1.cell? ⟨w.heap.size, 4, none⟩ = some (.int .i64 r.v) ∧ w1.cell? ⟨w.heap.size, 5, none⟩ = some (.int .i64 r.s) ∧
    w1.cell? ⟨w.heap.size + 1, 0, none⟩ = some (.int .i64 r.k) ∧ w1.cell? ⟨w.heap.size + 1, 1, none⟩ = some (.int .i64 r.y) ∧ w1.cell? ⟨w.heap.size + 1, 2, none⟩ = some (.int .i64 r.v) ∧ Below w.heap.size w w1 := by
  subst hW
  have hs : (w.alloc (.cells #[.int .i64 r.c, .int .i64 r.t, .int .i64 r.k, .int .i64 r.y, .int .i64 r.v, .int .i64 r.s] 26)).heap.size = w.heap.size + 1 := by simp
  have h1 := (hb.block w.heap.size (by rw [hs]; omega)).trans (heap_alloc_new w _)
  have hc := fun j => cell_of_row w1 w.heap.size j _ _ _ h1
  rw [hs] at hr hb
  refine ⟨(hc 0).trans rfl, (hc 1).trans rfl, (hc 2).trans rfl, (hc 3).trans rfl, (hc 4).trans rfl, (hc 5).trans rfl, by simpa using hr 0 _ rfl, by simpa using hr 1 _ rfl, by simpa using hr 2 _ rfl, (alloc_below w _).trans (hb.mono (by omega))⟩

set_option maxRecDepth 100000 in
set_option maxHeartbeats 4000000 in
theorem valid_any (r : Psp.Req) (clients : Int) (w : World) :
    Calls Try.prog 31 #[.agg #[.int .i64 r.c, .int .i64 r.t, .int .i64 r.k, .int .i64 r.y, .int .i64 r.v, .int .i64 r.s], .int .i64 clients] w fun e w' => e = .returned (.bool (Psp.valid r clients)) ∧ Below w.heap.size w w' := by
  have hld := val_load r w
  go_enter Try.func31, Try.ntmps31
  have hb0 : Below w.heap.size w (w.alloc (.cells #[.int .i64 r.c, .int .i64 r.t, .int .i64 r.k, .int .i64 r.y, .int .i64 r.v, .int .i64 r.s] 26)) := alloc_below _ _
  have hb1 : Below w.heap.size w ((w.alloc (.cells #[.int .i64 r.c, .int .i64 r.t, .int .i64 r.k, .int .i64 r.y, .int .i64 r.v, .int .i64 r.s] 26)).alloc (.cells #[.int .i64 r.k, .int .i64 r.y, .int .i64 r.v] 24)) := (alloc_below _ _).trans ((alloc_below _ _).mono (by simp))
  go_upto_region 1 with fail
  go_cut [34] from 6 to 34 (fun x wx => x = .bool (decide ((r.c < 0) ∨ (clients ≤ r.c) ∨ (r.t < 1) ∨ (1048576 < r.t) ∨ (r.s < 0) ∨ (1099511627776 ≤ r.s))) ∧ (w.alloc (.cells #[.int .i64 r.c, .int .i64 r.t, .int .i64 r.k, .int .i64 r.y, .int .i64 r.v, .int .i64 r.s] 26)) = wx)
  case first =>
    by_cases h0 : r.c < 0
    · have d0 : decide (r.c < 0) = true := decide_eq_true h0
      have hp : decide ((r.c < 0) ∨ (clients ≤ r.c) ∨ (r.t < 1) ∨ (1048576 < r.t) ∨ (r.s < 0) ∨ (1099511627776 ≤ r.s)) = true := decide_eq_true (by omega)
      go_wp2_with fail
      go_meet
      exact ⟨hp ▸ rfl, rfl⟩
    · have d0 : decide (r.c < 0) = false := decide_eq_false h0
      by_cases h1 : clients ≤ r.c
      · have d1 : decide (clients ≤ r.c) = true := decide_eq_true h1
        have hp : decide ((r.c < 0) ∨ (clients ≤ r.c) ∨ (r.t < 1) ∨ (1048576 < r.t) ∨ (r.s < 0) ∨ (1099511627776 ≤ r.s)) = true := decide_eq_true (by omega)
        go_wp2_with fail
        go_meet
        exact ⟨hp ▸ rfl, rfl⟩
      · have d1 : decide (clients ≤ r.c) = false := decide_eq_false h1
        by_cases h2 : r.t < 1
        · have d2 : decide (r.t < 1) = true := decide_eq_true h2
          have hp : decide ((r.c < 0) ∨ (clients ≤ r.c) ∨ (r.t < 1) ∨ (1048576 < r.t) ∨ (r.s < 0) ∨ (1099511627776 ≤ r.s)) = true := decide_eq_true (by omega)
          go_wp2_with fail
          go_meet
          exact ⟨hp ▸ rfl, rfl⟩
        · have d2 : decide (r.t < 1) = false := decide_eq_false h2
          by_cases h3 : 1048576 < r.t
          · have d3 : decide (1048576 < r.t) = true := decide_eq_true h3
            have hp : decide ((r.c < 0) ∨ (clients ≤ r.c) ∨ (r.t < 1) ∨ (1048576 < r.t) ∨ (r.s < 0) ∨ (1099511627776 ≤ r.s)) = true := decide_eq_true (by omega)
            go_wp2_with fail
            go_meet
            exact ⟨hp ▸ rfl, rfl⟩
          · have d3 : decide (1048576 < r.t) = false := decide_eq_false h3
            by_cases h4 : r.s < 0
            · have d4 : decide (r.s < 0) = true := decide_eq_true h4
              have hp : decide ((r.c < 0) ∨ (clients ≤ r.c) ∨ (r.t < 1) ∨ (1048576 < r.t) ∨ (r.s < 0) ∨ (1099511627776 ≤ r.s)) = true := decide_eq_true (by omega)
              go_wp2_with fail
              go_meet
              exact ⟨hp ▸ rfl, rfl⟩
            · have d4 : decide (r.s < 0) = false := decide_eq_false h4
              by_cases h5 : 1099511627776 ≤ r.s
              · have d5 : decide (1099511627776 ≤ r.s) = true := decide_eq_true h5
                have hp : decide ((r.c < 0) ∨ (clients ≤ r.c) ∨ (r.t < 1) ∨ (1048576 < r.t) ∨ (r.s < 0) ∨ (1099511627776 ≤ r.s)) = true := decide_eq_true (by omega)
                go_wp2_with fail
                go_meet
                exact ⟨hp ▸ rfl, rfl⟩
              · have d5 : decide (1099511627776 ≤ r.s) = false := decide_eq_false h5
                have hp : decide ((r.c < 0) ∨ (clients ≤ r.c) ∨ (r.t < 1) ∨ (1048576 < r.t) ∨ (r.s < 0) ∨ (1099511627776 ≤ r.s)) = false := decide_eq_false (by omega)
                go_wp2_with fail
                go_meet
                exact ⟨hp ▸ rfl, rfl⟩
  case' rest =>
    obtain ⟨rfl, rfl⟩ := hcut
    by_cases h20 : (r.c < 0) ∨ (clients ≤ r.c) ∨ (r.t < 1) ∨ (1048576 < r.t) ∨ (r.s < 0) ∨ (1099511627776 ≤ r.s)
    case' pos =>
      have d20 : decide ((r.c < 0) ∨ (clients ≤ r.c) ∨ (r.t < 1) ∨ (1048576 < r.t) ∨ (r.s < 0) ∨ (1099511627776 ≤ r.s)) = true := decide_eq_true h20
      have hv : Psp.valid r clients = false := decide_eq_false (by omega)
      rw [d20]
      go_wp2_with fail
      go_ret
      exact ⟨by rw [hv]; rfl, by assumption⟩
    case' neg =>
      have d20 : decide ((r.c < 0) ∨ (clients ≤ r.c) ∨ (r.t < 1) ∨ (1048576 < r.t) ∨ (r.s < 0) ∨ (1099511627776 ≤ r.s)) = false := decide_eq_false h20
      rw [d20]
      go_upto_region 4 with (first | (refine list_load (by simp [Region.wanted, yielded]) 24 (.tmp 35) rfl w.heap.size 2 rfl [.int .i64 r.k, .int .i64 r.y, .int .i64 r.v] _ hld Try.underlying24 rfl val_size ?_) | (refine list_store_new rfl 24 (.tmp 5) (.tmp 36) rfl _ _ [.int .i64 r.k, .int .i64 r.y, .int .i64 r.v] rfl rfl rfl val_size (by simp [Value.oneCell']) ?_; intro w1 hb1 hr1 hs1))
      go_upto_region 4 with fail
      go_cut [54] from 37 to 54 (fun x wx => x = .bool (decide ((r.y < 0) ∨ (64 ≤ r.y) ∨ (r.v ≤ -2147483648) ∨ (2147483648 ≤ r.v))) ∧ ((w.alloc (.cells #[.int .i64 r.c, .int .i64 r.t, .int .i64 r.k, .int .i64 r.y, .int .i64 r.v, .int .i64 r.s] 26)).alloc (.cells #[.int .i64 r.k, .int .i64 r.y, .int .i64 r.v] 24)) = wx)
      case first =>
        by_cases h0 : r.y < 0
        · have d0 : decide (r.y < 0) = true := decide_eq_true h0
          have hp : decide ((r.y < 0) ∨ (64 ≤ r.y) ∨ (r.v ≤ -2147483648) ∨ (2147483648 ≤ r.v)) = true := decide_eq_true (by omega)
          go_wp2_with fail
          go_meet
          exact ⟨hp ▸ rfl, rfl⟩
        · have d0 : decide (r.y < 0) = false := decide_eq_false h0
          by_cases h1 : 64 ≤ r.y
          · have d1 : decide (64 ≤ r.y) = true := decide_eq_true h1
            have hp : decide ((r.y < 0) ∨ (64 ≤ r.y) ∨ (r.v ≤ -2147483648) ∨ (2147483648 ≤ r.v)) = true := decide_eq_true (by omega)
            go_wp2_with fail
            go_meet
            exact ⟨hp ▸ rfl, rfl⟩
          · have d1 : decide (64 ≤ r.y) = false := decide_eq_false h1
            by_cases h2 : r.v ≤ -2147483648
            · have d2 : decide (r.v ≤ -2147483648) = true := decide_eq_true h2
              have hp : decide ((r.y < 0) ∨ (64 ≤ r.y) ∨ (r.v ≤ -2147483648) ∨ (2147483648 ≤ r.v)) = true := decide_eq_true (by omega)
              go_wp2_with fail
              go_meet
              exact ⟨hp ▸ rfl, rfl⟩
            · have d2 : decide (r.v ≤ -2147483648) = false := decide_eq_false h2
              by_cases h3 : 2147483648 ≤ r.v
              · have d3 : decide (2147483648 ≤ r.v) = true := decide_eq_true h3
                have hp : decide ((r.y < 0) ∨ (64 ≤ r.y) ∨ (r.v ≤ -2147483648) ∨ (2147483648 ≤ r.v)) = true := decide_eq_true (by omega)
                go_wp2_with fail
                go_meet
                exact ⟨hp ▸ rfl, rfl⟩
              · have d3 : decide (2147483648 ≤ r.v) = false := decide_eq_false h3
                have hp : decide ((r.y < 0) ∨ (64 ≤ r.y) ∨ (r.v ≤ -2147483648) ∨ (2147483648 ≤ r.v)) = false := decide_eq_false (by omega)
                go_wp2_with fail
                go_meet
                exact ⟨hp ▸ rfl, rfl⟩
      case' rest =>
        obtain ⟨rfl, rfl⟩ := hcut
        by_cases h21 : (r.y < 0) ∨ (64 ≤ r.y) ∨ (r.v ≤ -2147483648) ∨ (2147483648 ≤ r.v)
        case' pos =>
          have d21 : decide ((r.y < 0) ∨ (64 ≤ r.y) ∨ (r.v ≤ -2147483648) ∨ (2147483648 ≤ r.v)) = true := decide_eq_true h21
          have hv : Psp.valid r clients = false := decide_eq_false (by omega)
          rw [d21]
          go_wp2_with fail
          go_ret
          exact ⟨by rw [hv]; rfl, by assumption⟩
        case' neg =>
          have d21 : decide ((r.y < 0) ∨ (64 ≤ r.y) ∨ (r.v ≤ -2147483648) ∨ (2147483648 ≤ r.v)) = false := decide_eq_false h21
          rw [d21]
          by_cases h30 : r.k = 1
          · have d30 : decide (r.k = 1) = true := decide_eq_true h30
            have hv : Psp.valid r clients = true := decide_eq_true (by omega)
            go_wp2_with fail
            go_ret
            exact ⟨by rw [hv]; first | rfl | exact congrArg (fun x => Ending.returned (.bool x)) b30 | exact congrArg (fun x => Ending.returned (.bool x)) b31 | exact congrArg (fun x => Ending.returned (.bool x)) b32 | exact congrArg (fun x => Ending.returned (.bool x)) b33 | exact congrArg (fun x => Ending.returned (.bool x)) b34 | exact congrArg (fun x => Ending.returned (.bool x)) b35 | exact congrArg (fun x => Ending.returned (.bool x)) b36 | exact congrArg (fun x => Ending.returned (.bool x)) b37, (alloc_below _ _).trans ((alloc_below _ _).mono (by simp))⟩
          · have d30 : decide (r.k = 1) = false := decide_eq_false h30
            have b30 : (r.k == 1) = false := by simpa using h30
            by_cases h31 : r.k = 3
            · have d31 : decide (r.k = 3) = true := decide_eq_true h31
              have hv : Psp.valid r clients = true := decide_eq_true (by omega)
              go_wp2_with fail
              go_ret
              exact ⟨by rw [hv]; first | rfl | exact congrArg (fun x => Ending.returned (.bool x)) b30 | exact congrArg (fun x => Ending.returned (.bool x)) b31 | exact congrArg (fun x => Ending.returned (.bool x)) b32 | exact congrArg (fun x => Ending.returned (.bool x)) b33 | exact congrArg (fun x => Ending.returned (.bool x)) b34 | exact congrArg (fun x => Ending.returned (.bool x)) b35 | exact congrArg (fun x => Ending.returned (.bool x)) b36 | exact congrArg (fun x => Ending.returned (.bool x)) b37, (alloc_below _ _).trans ((alloc_below _ _).mono (by simp))⟩
            · have d31 : decide (r.k = 3) = false := decide_eq_false h31
              have b31 : (r.k == 3) = false := by simpa using h31
              by_cases h32 : r.k = 2
              · have d32 : decide (r.k = 2) = true := decide_eq_true h32
                by_cases h33 : r.v = 0
                · have d33 : decide (r.v = 0) = true := decide_eq_true h33
                  have hv : Psp.valid r clients = true := decide_eq_true (by omega)
                  go_wp2_with fail
                  go_ret
                  exact ⟨by rw [hv]; first | rfl | exact congrArg (fun x => Ending.returned (.bool x)) b30 | exact congrArg (fun x => Ending.returned (.bool x)) b31 | exact congrArg (fun x => Ending.returned (.bool x)) b32 | exact congrArg (fun x => Ending.returned (.bool x)) b33 | exact congrArg (fun x => Ending.returned (.bool x)) b34 | exact congrArg (fun x => Ending.returned (.bool x)) b35 | exact congrArg (fun x => Ending.returned (.bool x)) b36 | exact congrArg (fun x => Ending.returned (.bool x)) b37, (alloc_below _ _).trans ((alloc_below _ _).mono (by simp))⟩
                · have d33 : decide (r.v = 0) = false := decide_eq_false h33
                  have b33 : (r.v == 0) = false := by simpa using h33
                  have hv : Psp.valid r clients = false := decide_eq_false (by omega)
                  go_wp2_with fail
                  go_ret
                  exact ⟨by rw [hv]; first | rfl | exact congrArg (fun x => Ending.returned (.bool x)) b30 | exact congrArg (fun x => Ending.returned (.bool x)) b31 | exact congrArg (fun x => Ending.returned (.bool x)) b32 | exact congrArg (fun x => Ending.returned (.bool x)) b33 | exact congrArg (fun x => Ending.returned (.bool x)) b34 | exact congrArg (fun x => Ending.returned (.bool x)) b35 | exact congrArg (fun x => Ending.returned (.bool x)) b36 | exact congrArg (fun x => Ending.returned (.bool x)) b37, (alloc_below _ _).trans ((alloc_below _ _).mono (by simp))⟩
              · have d32 : decide (r.k = 2) = false := decide_eq_false h32
                have b32 : (r.k == 2) = false := by simpa using h32
                by_cases h33 : r.k = 4
                · have d33 : decide (r.k = 4) = true := decide_eq_true h33
                  by_cases h34 : r.v = 0
                  · have d34 : decide (r.v = 0) = true := decide_eq_true h34
                    have hv : Psp.valid r clients = true := decide_eq_true (by omega)
                    go_wp2_with fail
                    go_ret
                    exact ⟨by rw [hv]; first | rfl | exact congrArg (fun x => Ending.returned (.bool x)) b30 | exact congrArg (fun x => Ending.returned (.bool x)) b31 | exact congrArg (fun x => Ending.returned (.bool x)) b32 | exact congrArg (fun x => Ending.returned (.bool x)) b33 | exact congrArg (fun x => Ending.returned (.bool x)) b34 | exact congrArg (fun x => Ending.returned (.bool x)) b35 | exact congrArg (fun x => Ending.returned (.bool x)) b36 | exact congrArg (fun x => Ending.returned (.bool x)) b37, (alloc_below _ _).trans ((alloc_below _ _).mono (by simp))⟩
                  · have d34 : decide (r.v = 0) = false := decide_eq_false h34
                    have b34 : (r.v == 0) = false := by simpa using h34
                    have hv : Psp.valid r clients = false := decide_eq_false (by omega)
                    go_wp2_with fail
                    go_ret
                    exact ⟨by rw [hv]; first | rfl | exact congrArg (fun x => Ending.returned (.bool x)) b30 | exact congrArg (fun x => Ending.returned (.bool x)) b31 | exact congrArg (fun x => Ending.returned (.bool x)) b32 | exact congrArg (fun x => Ending.returned (.bool x)) b33 | exact congrArg (fun x => Ending.returned (.bool x)) b34 | exact congrArg (fun x => Ending.returned (.bool x)) b35 | exact congrArg (fun x => Ending.returned (.bool x)) b36 | exact congrArg (fun x => Ending.returned (.bool x)) b37, (alloc_below _ _).trans ((alloc_below _ _).mono (by simp))⟩
                · have d33 : decide (r.k = 4) = false := decide_eq_false h33
                  have b33 : (r.k == 4) = false := by simpa using h33
                  by_cases h34 : r.k = 5
                  · have d34 : decide (r.k = 5) = true := decide_eq_true h34
                    by_cases h35 : r.y = 0
                    · have d35 : decide (r.y = 0) = true := decide_eq_true h35
                      by_cases h36 : r.v = 0
                      · have d36 : decide (r.v = 0) = true := decide_eq_true h36
                        have hv : Psp.valid r clients = true := decide_eq_true (by omega)
                        go_wp2_with fail
                        go_ret
                        exact ⟨by rw [hv]; first | rfl | exact congrArg (fun x => Ending.returned (.bool x)) b30 | exact congrArg (fun x => Ending.returned (.bool x)) b31 | exact congrArg (fun x => Ending.returned (.bool x)) b32 | exact congrArg (fun x => Ending.returned (.bool x)) b33 | exact congrArg (fun x => Ending.returned (.bool x)) b34 | exact congrArg (fun x => Ending.returned (.bool x)) b35 | exact congrArg (fun x => Ending.returned (.bool x)) b36 | exact congrArg (fun x => Ending.returned (.bool x)) b37, (alloc_below _ _).trans ((alloc_below _ _).mono (by simp))⟩
                      · have d36 : decide (r.v = 0) = false := decide_eq_false h36
                        have b36 : (r.v == 0) = false := by simpa using h36
                        have hv : Psp.valid r clients = false := decide_eq_false (by omega)
                        go_wp2_with fail
                        go_ret
                        exact ⟨by rw [hv]; first | rfl | exact congrArg (fun x => Ending.returned (.bool x)) b30 | exact congrArg (fun x => Ending.returned (.bool x)) b31 | exact congrArg (fun x => Ending.returned (.bool x)) b32 | exact congrArg (fun x => Ending.returned (.bool x)) b33 | exact congrArg (fun x => Ending.returned (.bool x)) b34 | exact congrArg (fun x => Ending.returned (.bool x)) b35 | exact congrArg (fun x => Ending.returned (.bool x)) b36 | exact congrArg (fun x => Ending.returned (.bool x)) b37, (alloc_below _ _).trans ((alloc_below _ _).mono (by simp))⟩
                    · have d35 : decide (r.y = 0) = false := decide_eq_false h35
                      have b35 : (r.y == 0) = false := by simpa using h35
                      have hv : Psp.valid r clients = false := decide_eq_false (by omega)
                      go_wp2_with fail
                      go_ret
                      exact ⟨by rw [hv]; first | rfl | exact congrArg (fun x => Ending.returned (.bool x)) b30 | exact congrArg (fun x => Ending.returned (.bool x)) b31 | exact congrArg (fun x => Ending.returned (.bool x)) b32 | exact congrArg (fun x => Ending.returned (.bool x)) b33 | exact congrArg (fun x => Ending.returned (.bool x)) b34 | exact congrArg (fun x => Ending.returned (.bool x)) b35 | exact congrArg (fun x => Ending.returned (.bool x)) b36 | exact congrArg (fun x => Ending.returned (.bool x)) b37, (alloc_below _ _).trans ((alloc_below _ _).mono (by simp))⟩
                  · have d34 : decide (r.k = 5) = false := decide_eq_false h34
                    have b34 : (r.k == 5) = false := by simpa using h34
                    have hv : Psp.valid r clients = false := decide_eq_false (by omega)
                    go_wp2_with fail
                    go_ret
                    exact ⟨by rw [hv]; first | rfl | exact congrArg (fun x => Ending.returned (.bool x)) b30 | exact congrArg (fun x => Ending.returned (.bool x)) b31 | exact congrArg (fun x => Ending.returned (.bool x)) b32 | exact congrArg (fun x => Ending.returned (.bool x)) b33 | exact congrArg (fun x => Ending.returned (.bool x)) b34 | exact congrArg (fun x => Ending.returned (.bool x)) b35 | exact congrArg (fun x => Ending.returned (.bool x)) b36 | exact congrArg (fun x => Ending.returned (.bool x)) b37, (alloc_below _ _).trans ((alloc_below _ _).mono (by simp))⟩
end Go.Proofs.Ytnlnkcljehafkaa
