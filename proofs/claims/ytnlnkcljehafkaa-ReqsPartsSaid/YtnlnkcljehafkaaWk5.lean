/- The example of chapter 5. -/
import Derived.Test.YtnlnkcljehafkaaRm
namespace Go.Proofs.Ytnlnkcljehafkaa
open Go.RowKit
set_option linter.unusedVariables false

set_option maxRecDepth 100000 in
theorem sealN_nil (k : Key) : sealN [] k = 1 := by simp [sealN]
set_option maxRecDepth 100000 in
theorem sealL_nil (k : Key) : sealL [] k = [k] := by simp [sealL]
set_option maxRecDepth 100000 in
theorem sealN_one (k : Key) : sealN [k] k = 1 := by simp [sealN]
set_option maxRecDepth 100000 in
theorem sealL_one (k : Key) : sealL [k] k = [k] := by simp [sealL]
set_option maxRecDepth 100000 in
theorem wk_valid : Psp.valid ⟨1, 5, 2, 3, 0, 0⟩ 2 = true := by decide

set_option maxRecDepth 100000 in
set_option maxHeartbeats 1000000 in
theorem wakes05 (w : World) : Calls Try.prog 6 #[] w fun e w' => e = .returned (.bool true) ∧ Below w.heap.size w w' := by
  obtain ⟨kk, hkk⟩ : ∃ kk, kR ⟨1, 5, 2, 3, 0, 0⟩ = kk := ⟨_, rfl⟩
  have Hkk := Lib.hid hkk
  clear hkk
  go_enter Try.func6, Try.ntmps6
  go_wp2_with fail
  refine (nt_new w).mono ?_
  rintro e w1 ⟨g, bm, rfl, hN, hb, hg, hbm⟩
  have HN1 := Lib.hid hN
  have HB1 := Lib.hid hb
  clear hN hb
  go_wp2_with fail
  refine (make_yes g bm [] 2 1 5 2 3 0 w1 HN1.out (by simp) (by omega) wk_valid).mono ?_
  rw [Hkk.out, sealN_nil, sealL_nil]
  rintro e w2 ⟨rfl, hN, hf⟩
  have HB2 := Lib.hid (HB1.out.trans (hf.to_below (B := w.heap.size) HB1.out.size (fun k _ h => by omega)))
  have HN2 := Lib.hid hN
  clear hN hf HN1 HB1
  go_wp2_with fail
  have hlt := HN2.out.lt
  refine (make_yes g bm [kk] 2 1 5 2 3 0 _ (HN2.out.below (alloc_below _ _)) (by simp) (by omega) wk_valid).mono ?_
  rw [Hkk.out, sealN_one, sealL_one]
  rintro e w3 ⟨rfl, hN, hf⟩
  have hrow := (hf.block w2.heap.size (by simp) (by omega)).trans (heap_alloc_new w2 _)
  obtain ⟨x0, x1, x2, x3, x4, x5, x6⟩ := rst_cells (r := ⟨1, 5, 2, 3, 0, 1⟩) hrow
  have HB3 := Lib.hid ((HB2.out.trans ((alloc_below w2 (.cells #[.int .i64 1, .int .i64 5, .int .i64 2, .int .i64 3, .int .i64 0, .int .i64 1] 26)).mono HB2.out.size)).trans (hf.to_below (B := w.heap.size) (by have := HB2.out.size; simp; omega) (fun k _ h => by omega)))
  have hz : w2.heap.size < w3.heap.size := (Array.getElem?_eq_some_iff.1 hrow).1
  have hz2 := HB2.out.size
  simp only at x0 x1 x2 x3 x4 x5
  clear hN hf hrow
  go_wp2_with fail
  go_ret
  exact ⟨rfl, HB3.out.alloc (by omega) _⟩
end Go.Proofs.Ytnlnkcljehafkaa
