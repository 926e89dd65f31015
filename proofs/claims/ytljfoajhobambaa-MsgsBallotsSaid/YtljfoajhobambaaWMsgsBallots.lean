/- The walk of MsgsBallots. -/
import Derived.Test.YtljfoajhobambaaBal
import Derived.Test.YtljfoajhobambaaMsame
import Derived.Test.YtljfoajhobambaaWk6
import Derived.Test.YtljfoajhobambaaOpenM
namespace Go.Proofs.Ytljfoajhobambaa.msgsBallots
open Go.RowKit
set_option linter.unusedVariables false
set_option linter.unusedSimpArgs false

set_option maxRecDepth 100000 in
set_option maxHeartbeats 2000000 in
theorem walk (k n : Int) (x : CertV) (w : World) (hk : isI64 k) (hn : isI64 n) (hx : CertOk w (fun b => b < w.heap.size) x ∧ wfCert x.c) :
    Calls Try.prog 9 #[.int .i64 k, .int .i64 n, .agg (cv x).toArray] w fun e w' => e = .returned (.bool true) ∧ Below w.heap.size w w' := by
  obtain ⟨hx, -⟩ := hx
  obtain ⟨⟨v, i, q, lb, lo⟩, b, o⟩ := x
  have HX := Lib.hid hx
  obtain ⟨h1, h2⟩ := hx
  simp only at h1 h2
  obtain ⟨_, A1, c1, rfl, _, _, _⟩ := h1.parts
  obtain ⟨_, A2, c2, rfl, _, _, _⟩ := h2.parts
  show Calls Try.prog 9 #[.int .i64 k, .int .i64 n, .agg #[.int .i64 v, .int .i64 i, .int .i64 q, .slice A1 lb.length c1, .slice A2 lo.length c2]] w _
  clear h1 h2
  go_enter Try.func9, Try.ntmps9
  obtain ⟨W0, hW0⟩ : ∃ W0, w.alloc (.cells #[.int .i64 v, .int .i64 i, .int .i64 q, .slice A1 lb.length c1, .slice A2 lo.length c2] 70) = W0 := ⟨_, rfl⟩
  have hb0 := alloc_below w (.cells #[.int .i64 v, .int .i64 i, .int .i64 q, .slice A1 lb.length c1, .slice A2 lo.length c2] 70)
  have hc0 := heap_alloc_new w (.cells #[.int .i64 v, .int .i64 i, .int .i64 q, .slice A1 lb.length c1, .slice A2 lo.length c2] 70)
  rw [hW0] at hb0 hc0
  have hl0 := (Array.getElem?_eq_some_iff.1 hc0).1
  have x0 : W0.cell? ⟨w.heap.size, 0, none⟩ = some (.int .i64 v) := by rw [cell_of_row _ _ 0 _ _ _ hc0]; rfl
  have x1 : W0.cell? ⟨w.heap.size, 1, none⟩ = some (.int .i64 i) := by rw [cell_of_row _ _ 1 _ _ _ hc0]; rfl
  have x2 : W0.cell? ⟨w.heap.size, 2, none⟩ = some (.int .i64 q) := by rw [cell_of_row _ _ 2 _ _ _ hc0]; rfl
  have x3 : W0.cell? ⟨w.heap.size, 3, none⟩ = some (.slice A1 lb.length c1) := by rw [cell_of_row _ _ 3 _ _ _ hc0]; rfl
  have x4 : W0.cell? ⟨w.heap.size, 4, none⟩ = some (.slice A2 lo.length c2) := by rw [cell_of_row _ _ 4 _ _ _ hc0]; rfl
  have HB0 := Lib.hid hb0
  have HC0 := Lib.hid hc0
  go_wp2_with fail
  clear hW0 hb0 hc0 x0 x1 x2 x3 x4
  have hb1 : Below w.heap.size w (W0.alloc (.cells #[.int .i64 v, .int .i64 i, .int .i64 q, .slice A1 lb.length c1, .slice A2 lo.length c2] 70)) := Below.then HB0.out (alloc_below _ _) HB0.out.size
  have HB1 := Lib.hid hb1
  have hc1 := ((alloc_below W0 (.cells #[.int .i64 v, .int .i64 i, .int .i64 q, .slice A1 lb.length c1, .slice A2 lo.length c2] 70)).block _ hl0).trans HC0.out
  have HC1 := Lib.hid hc1
  have hrd : RdC (W0.alloc (.cells #[.int .i64 v, .int .i64 i, .int .i64 q, .slice A1 lb.length c1, .slice A2 lo.length c2] 70)) (fun _ => True) (.slice (some ⟨W0.heap.size, 0, none⟩) 1 1) [(⟨v, i, q, lb, lo⟩ : Psp.Cert)] :=
    ⟨[⟨⟨v, i, q, lb, lo⟩, .slice A1 lb.length c1, .slice A2 lo.length c2⟩], rfl, ⟨rfl, _, 1, rfl, Nat.le_refl _, by unfold maxLen; omega, fun _ => ⟨W0.heap.size, 0, rfl, trivial, by simp, lies_new W0 [.int .i64 v, .int .i64 i, .int .i64 q, .slice A1 lb.length c1, .slice A2 lo.length c2] _ _ rfl⟩⟩, fun y hy => by
      rw [List.mem_singleton.1 hy]
      exact (HX.out.keeps (Keeps.below HB1.out)).keeps (Keeps.mono fun _ _ _ => trivial)⟩
  have Hrd := Lib.hid hrd
  have hsz1 : w.heap.size + 1 ≤ (W0.alloc (.cells #[.int .i64 v, .int .i64 i, .int .i64 q, .slice A1 lb.length c1, .slice A2 lo.length c2] 70)).heap.size := by simp; omega
  obtain ⟨W1, hW1⟩ : ∃ W1, W0.alloc (.cells #[.int .i64 v, .int .i64 i, .int .i64 q, .slice A1 lb.length c1, .slice A2 lo.length c2] 70) = W1 := ⟨_, rfl⟩
  clear hb1 hc1 hrd
  rw [hW1] at HB1 HC1 Hrd hsz1 ⊢
  clear hW1 HB0 HC0
  refine (heavyC_any _ _ _ _ Hrd.out).mono ?_
  rintro e w1 ⟨rfl, rfl⟩
  cases hh : heavyC [(⟨v, i, q, lb, lo⟩ : Psp.Cert)] with
  | true =>
    clear hh
    go_wp2_with fail
    refine (wakes06 _).mono ?_
    rintro e w2 ⟨rfl, hb2⟩
    have HB2 := Lib.hid (Below.then HB1.out hb2 HB1.out.size)
    clear hb2
    go_wp2_with fail
    go_ret
    exact ⟨rfl, HB2.out⟩
  | false =>
    have hlen : lb.length ≤ 12 := ((heavyC_no hh).2 _ (List.mem_singleton.2 rfl)).1
    clear hh
    have hcell : ∀ {W : World}, W.heap[w.heap.size]? = some (.cells #[.int .i64 v, .int .i64 i, .int .i64 q, .slice A1 lb.length c1, .slice A2 lo.length c2] 70 (0, 0)) → W.cell? ⟨w.heap.size, 0, none⟩ = some (.int .i64 v) ∧ W.cell? ⟨w.heap.size, 1, none⟩ = some (.int .i64 i) ∧ W.cell? ⟨w.heap.size, 2, none⟩ = some (.int .i64 q) ∧ W.cell? ⟨w.heap.size, 3, none⟩ = some (.slice A1 lb.length c1) ∧ W.cell? ⟨w.heap.size, 4, none⟩ = some (.slice A2 lo.length c2) := fun h =>
      ⟨by rw [cell_of_row _ _ 0 _ _ _ h]; rfl, by rw [cell_of_row _ _ 1 _ _ _ h]; rfl, by rw [cell_of_row _ _ 2 _ _ _ h]; rfl, by rw [cell_of_row _ _ 3 _ _ _ h]; rfl, by rw [cell_of_row _ _ 4 _ _ _ h]; rfl⟩
    have Hcell := Lib.hid (hcell HC1.out)
    clear hcell
    obtain ⟨x0, x1, x2, x3, x4⟩ := Hcell.out
    go_wp2_with fail
    clear x0 x1 x2 x3 x4
    refine (ballot_m k n ⟨⟨v, i, q, lb, lo⟩, .slice A1 lb.length c1, .slice A2 lo.length c2⟩ W1 _ (HX.out.keeps (Keeps.below HB1.out)) (by show lb.length ≤ _; omega)).mono ?_
    rintro e w2 ⟨vb, rfl, hvb, hb2⟩
    obtain ⟨_, A3, c3, rfl, _, _, _⟩ := RdP.parts hvb
    have HB2 := Lib.hid (Below.then HB1.out hb2 HB1.out.size)
    have HC2 := Lib.hid ((hb2.block _ (by omega)).trans HC1.out)
    have HVB := Lib.hid hvb
    have hz2 := hb2.size
    clear hvb hb2 HC1
    go_wp2_with fail
    obtain ⟨W3, hW3⟩ : ∃ W3, w2.alloc (.cells #[.int .i64 k, .int .i64 n, .int .i64 v, .int .i64 i, .int .i64 q, .int .i64 0, .slice A3 lb.length c3, .slice none 0 0, .slice none 0 0, .slice none 0 0] 27) = W3 := ⟨_, rfl⟩
    have hb3 := alloc_below w2 (.cells #[.int .i64 k, .int .i64 n, .int .i64 v, .int .i64 i, .int .i64 q, .int .i64 0, .slice A3 lb.length c3, .slice none 0 0, .slice none 0 0, .slice none 0 0] 27)
    have hm3 := heap_alloc_new w2 (.cells #[.int .i64 k, .int .i64 n, .int .i64 v, .int .i64 i, .int .i64 q, .int .i64 0, .slice A3 lb.length c3, .slice none 0 0, .slice none 0 0, .slice none 0 0] 27)
    rw [hW3] at hb3 hm3 ⊢
    have HB3 := Lib.hid (Below.then HB2.out hb3 HB2.out.size)
    have HC3 := Lib.hid ((hb3.block _ (by omega)).trans HC2.out)
    have HM3 := Lib.hid hm3
    have HVB3 := Lib.hid (RdP.below HVB.out hb3)
    have HX3 := Lib.hid (HX.out.keeps (Keeps.below HB3.out))
    clear hW3 hb3 hm3 HC2 HVB
    have HRM : Hid (∀ w' : World, (∃ p : Later W3, w' = p.W) → w'.rangeAt w2.heap.size 0 [.int .i64 k, .int .i64 n, .int .i64 v, .int .i64 i, .int .i64 q, .int .i64 0, .slice A3 lb.length c3, .slice none 0 0, .slice none 0 0, .slice none 0 0]) := Lib.hid (by rintro w' ⟨p, rfl⟩; exact range_of_row ((p.h.block _ (Array.getElem?_eq_some_iff.1 HM3.out).1).trans HM3.out))
    have HRC : Hid (∀ w' : World, (∃ p : Later W3, w' = p.W) → w'.rangeAt w.heap.size 0 [.int .i64 v, .int .i64 i, .int .i64 q, .slice A1 lb.length c1, .slice A2 lo.length c2]) := Lib.hid (by rintro w' ⟨p, rfl⟩; exact range_of_row ((p.h.block _ (Array.getElem?_eq_some_iff.1 HC3.out).1).trans HC3.out))
    have HRB : Hid (∀ p : Later W3, Calls Try.prog 35 #[.int .i64 k, .int .i64 n, .agg #[.int .i64 v, .int .i64 i, .int .i64 q, .slice A1 lb.length c1, .slice A2 lo.length c2]] p.W fun e w' => e = .returned (.agg #[.int .i64 k, .int .i64 n, .int .i64 v, .int .i64 i, .int .i64 q, .int .i64 0, .slice A1 lb.length c1, .slice none 0 0, .slice none 0 0, .slice none 0 0]) ∧ Below p.W.heap.size p.W w') := Lib.hid fun p => rballot_m k n ⟨⟨v, i, q, lb, lo⟩, .slice A1 lb.length c1, .slice A2 lo.length c2⟩ p.W _ (HX3.out.keeps (Keeps.below p.h))
    have HMS : Hid (∀ p : Later W3, Calls Try.prog 15 #[.agg #[.int .i64 k, .int .i64 n, .int .i64 v, .int .i64 i, .int .i64 q, .int .i64 0, .slice A3 lb.length c3, .slice none 0 0, .slice none 0 0, .slice none 0 0], .agg #[.int .i64 k, .int .i64 n, .int .i64 v, .int .i64 i, .int .i64 q, .int .i64 0, .slice A1 lb.length c1, .slice none 0 0, .slice none 0 0, .slice none 0 0]] p.W fun e w' => e = .returned (.bool true) ∧ Below p.W.heap.size p.W w') := Lib.hid fun p => by
      have h := msg_same ⟨k, n, v, i, q, 0, lb, [], [], []⟩ ⟨k, n, v, i, q, 0, lb, [], [], []⟩ (.slice A3 lb.length c3) (.slice none 0 0) (.slice none 0 0) (.slice none 0 0) (.slice A1 lb.length c1) (.slice none 0 0) (.slice none 0 0) (.slice none 0 0) p.W _ _
        ⟨RdP.below HVB3.out p.h, RdP.none_, RdC.nil, RdA.nil⟩ ⟨(HX3.out.keeps (Keeps.below p.h)).1, RdP.none_, RdC.nil, RdA.nil⟩
      rwa [decide_eq_true rfl] at h
    refine wp_region_later (by kernel_rfl) (by kernel_rfl) ?_
    repeat (first | go_big_quiet_step (first | (go_at_call 35; exact later_call _ (HRB.out _)) | (go_at_call 15; exact later_call _ (HMS.out _)) | (go_at_call 12; exact later_call _ (wakes06 _))) | (refine quiet_load (by simp [Region.wanted, yielded]) 27 (.tmp 7) (by rfl) w2.heap.size (0) (by rfl) [.int .i64 k, .int .i64 n, .int .i64 v, .int .i64 i, .int .i64 q, .int .i64 0, .slice A3 lb.length c3, .slice none 0 0, .slice none 0 0, .slice none 0 0] _ HRM.out Try.underlying27 rfl sizeM ?_; intro K hK; go_simp; refine hK _ ?_; clear hK K) | (refine quiet_load (by simp [Region.wanted, yielded]) 70 (.tmp 5) (by rfl) w.heap.size (0) (by rfl) [.int .i64 v, .int .i64 i, .int .i64 q, .slice A1 lb.length c1, .slice A2 lo.length c2] _ HRC.out Try.underlying70 rfl sizeC ?_; intro K hK; go_simp; refine hK _ ?_; clear hK K) | quiet_step (first | (go_at_call 35; exact later_call _ (HRB.out _)) | (go_at_call 15; exact later_call _ (HMS.out _)) | (go_at_call 12; exact later_call _ (wakes06 _))))
    refine wpQuiet_nil ?_
    intro w4 hw'
    have hb4 := later_out hw'
    clear hw'
    have Hb4 := Lib.hid (HB3.out.trans (hb4.mono HB3.out.size))
    clear hb4
    go_wp2_with fail
    go_ret
    exact ⟨rfl, Hb4.out⟩
end Go.Proofs.Ytljfoajhobambaa.msgsBallots
