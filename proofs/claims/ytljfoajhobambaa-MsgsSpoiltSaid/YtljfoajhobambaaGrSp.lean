/- Joined texts: Rt2 Rt10 Rb Rt1 Rt3 Rt4 Rt5 Rt7 Rt8 Rt9 Ral. -/
import Derived.Test.YtljfoajhobambaaRtSp
import Derived.Test.YtljfoajhobambaaPhSSp
import Derived.BigRegion
import Derived.Test.YtljfoajhobambaaWk6Sp
section
/- psephoslaw06.right, kind 2. Printed by gen_rt.py. -/
namespace Go.Proofs.Ytljfoajhobambaa
open Go.RowKit
set_option linter.unusedVariables false
set_option linter.unusedSimpArgs false

set_option maxRecDepth 100000 in
set_option maxHeartbeats 4000000 in
theorem right_2 (k0 f0 c0 v0 i0 q0 o0 y0 z0 : Int) (w : World) (hk : isI64 k0) (hf : isI64 f0) (hc : isI64 c0) (hv : isI64 v0) (hi : isI64 i0) (hq : isI64 q0) (hy : isI64 y0) (hz : isI64 z0) (h6 : Psp.within k0 10 = 1) :
    Calls Try.prog 27 #[.int .i64 k0, .int .i64 f0, .int .i64 c0, .int .i64 v0, .int .i64 i0, .int .i64 q0, .agg #[.int .i64 o0, .int .i64 y0, .int .i64 z0]] w (Gives ⟨2, Psp.primary (1 + Psp.within f0 4) (Psp.within v0 12) (Psp.within i0 (1 + Psp.within f0 4 + 1)), 0, 0, 0, 0, [rqR (1 + Psp.within c0 4) (1 + Psp.within q0 16) (Psp.within y0 64) (Psp.within z0 1000)], [], [], []⟩ w) := by
  obtain ⟨f1, hf1⟩ : ∃ x, Psp.within f0 4 = x := ⟨_, rfl⟩
  have f1a : 0 ≤ f1 := by rw [← hf1]; exact Psp.within_lo _ _
  have f1b : f1 < 4 := by rw [← hf1]; exact Psp.within_hi _ _ (by omega)
  obtain ⟨c1, hc1⟩ : ∃ x, Psp.within c0 4 = x := ⟨_, rfl⟩
  have c1a : 0 ≤ c1 := by rw [← hc1]; exact Psp.within_lo _ _
  have c1b : c1 < 4 := by rw [← hc1]; exact Psp.within_hi _ _ (by omega)
  obtain ⟨v1, hv1⟩ : ∃ x, Psp.within v0 12 = x := ⟨_, rfl⟩
  have v1a : 0 ≤ v1 := by rw [← hv1]; exact Psp.within_lo _ _
  have v1b : v1 < 12 := by rw [← hv1]; exact Psp.within_hi _ _ (by omega)
  obtain ⟨i1, hi1⟩ : ∃ x, Psp.within i0 (1 + f1 + 1) = x := ⟨_, rfl⟩
  have i1a : 0 ≤ i1 := by rw [← hi1]; exact Psp.within_lo _ _
  have i1b : i1 < 1 + f1 + 1 := by rw [← hi1]; exact Psp.within_hi _ _ (by omega)
  obtain ⟨q1, hq1⟩ : ∃ x, Psp.within q0 16 = x := ⟨_, rfl⟩
  have q1a : 0 ≤ q1 := by rw [← hq1]; exact Psp.within_lo _ _
  have q1b : q1 < 16 := by rw [← hq1]; exact Psp.within_hi _ _ (by omega)
  go_enter Try.func27, Try.ntmps27
  go_wp2_with (go_at_call 17; refine (within_i64 _ _ _ (by first | assumption | exact ⟨by omega, by omega⟩) (by exact ⟨by omega, by omega⟩)).mono ?_; rintro e w' ⟨rfl, rfl⟩)
  obtain ⟨y1, hy1⟩ : ∃ x, Psp.within y0 64 = x := ⟨_, rfl⟩
  obtain ⟨z1, hz1⟩ : ∃ x, Psp.within z0 1000 = x := ⟨_, rfl⟩
  have hs2 : ((w.alloc (.cells #[.int .i64 o0, .int .i64 y0, .int .i64 z0] 47)).alloc (.cells zs 27)).heap.size = w.heap.size + 2 := by simp
  have hc2 := obj_below (heap_alloc_new w (.cells #[.int .i64 o0, .int .i64 y0, .int .i64 z0] 47)) (alloc_below _ (.cells zs 27)) (Nat.le_refl _)
  have hr2 : ((w.alloc (.cells #[.int .i64 o0, .int .i64 y0, .int .i64 z0] 47)).alloc (.cells zs 27)).heap[w.heap.size + 1]? = some (.cells zs 27 (0, 0)) := by have h := heap_alloc_new (w.alloc (.cells #[.int .i64 o0, .int .i64 y0, .int .i64 z0] 47)) (.cells zs 27); simpa using h
  have hb2 : Below w.heap.size w ((w.alloc (.cells #[.int .i64 o0, .int .i64 y0, .int .i64 z0] 47)).alloc (.cells zs 27)) := (alloc_below w _).trans ((alloc_below _ _).mono (by simp))
  obtain ⟨W2, hW2⟩ : ∃ W, (w.alloc (.cells #[.int .i64 o0, .int .i64 y0, .int .i64 z0] 47)).alloc (.cells zs 27) = W := ⟨_, rfl⟩
  rw [show (w.alloc (.cells #[.int .i64 o0, .int .i64 y0, .int .i64 z0] 47)).alloc (.cells #[.int .i64 0, .int .i64 0, .int .i64 0, .int .i64 0, .int .i64 0, .int .i64 0, .slice none 0 0, .slice none 0 0, .slice none 0 0, .slice none 0 0] 27) = W2 from hW2]
  rw [hW2] at hs2 hc2 hr2 hb2
  replace hs2 : w.heap.size + 2 ≤ W2.heap.size := by omega
  have HC2 := Lib.hid hc2
  have HR2 := Lib.hid hr2
  have HB2 := Lib.hid hb2
  have x1 : W2.cell? ⟨w.heap.size, 1, none⟩ = some (.int .i64 y0) := by rw [cell_of_row W2 _ 1 _ _ _ hc2]; rfl
  have x2 : W2.cell? ⟨w.heap.size, 2, none⟩ = some (.int .i64 z0) := by rw [cell_of_row W2 _ 2 _ _ _ hc2]; rfl
  clear hW2 hc2 hr2 hb2
  have hst := And.intro x1 x2
  have hwr : IntKind.i64.wrap (1 + c1 - 1) = c1 := (IntWalk.i64_in _ (by omega)).trans (by omega)
  apply wp_join (W0 := (W2.alloc (.cells #[.int .i64 c1, .int .i64 (1 + q1), .int .i64 1, .int .i64 y1, .int .i64 z1, .int .i64 0] 50)).drew)
  case h =>
   go_region_held3 (fun w' => w'.cell? ⟨w.heap.size, 1, none⟩ = some (.int .i64 y0) ∧ w'.cell? ⟨w.heap.size, 2, none⟩ = some (.int .i64 z0))
    (first | assumption | go_keep | (go_split_ands; exact ⟨by assumption, by assumption⟩) | (go_split_ands; exact ⟨((alloc_below W2 _).cell (p := ⟨w.heap.size, 1, none⟩) (by show w.heap.size < W2.heap.size; omega)).trans x1, ((alloc_below W2 _).cell (p := ⟨w.heap.size, 2, none⟩) (by show w.heap.size < W2.heap.size; omega)).trans x2⟩))
    (first | (go_at_call 17; refine (within_i64 _ _ _ (by first | assumption | exact ⟨by omega, by omega⟩) (by exact ⟨by omega, by omega⟩)).mono ?_; rintro e w' ⟨rfl, rfl⟩))
   all_goals exact ⟨rfl, rfl⟩
  have hb3 : Below W2.heap.size W2 ((W2.alloc (.cells #[.int .i64 c1, .int .i64 (1 + q1), .int .i64 1, .int .i64 y1, .int .i64 z1, .int .i64 0] 50)).drew) := (alloc_below W2 _).drew
  have hq3 : ((W2.alloc (.cells #[.int .i64 c1, .int .i64 (1 + q1), .int .i64 1, .int .i64 y1, .int .i64 z1, .int .i64 0] 50)).drew).heap[W2.heap.size]? = some (.cells #[.int .i64 c1, .int .i64 (1 + q1), .int .i64 1, .int .i64 y1, .int .i64 z1, .int .i64 0] 50 (0, 0)) := heap_alloc_new W2 _
  obtain ⟨W3, hW3⟩ : ∃ W, (W2.alloc (.cells #[.int .i64 c1, .int .i64 (1 + q1), .int .i64 1, .int .i64 y1, .int .i64 z1, .int .i64 0] 50)).drew = W := ⟨_, rfl⟩
  rw [hW3] at hb3 hq3 ⊢
  clear hW3 hst x1 x2 hwr
  have HB3 := Lib.hid (Below.then HB2.out hb3 HB2.out.size)
  have HC3 := Lib.hid (obj_below HC2.out hb3 (Nat.le_refl _))
  have HR3 := Lib.hid (obj_below HR2.out hb3 (Nat.le_refl _))
  have HQ3 := Lib.hid hq3
  clear hb3 hq3 HB2 HC2 HR2
  obtain ⟨pr, hpr⟩ : ∃ x, Psp.primary (1 + f1) v1 i1 = x := ⟨_, rfl⟩
  have HPr : Hid (∀ W : World, Calls Try.prog 69 #[.int .i64 (1 + f1), .int .i64 v1, .int .i64 i1] W fun e w' => e = .returned (.int .i64 pr) ∧ W = w') := Lib.hid fun W => by rw [← hpr]; exact r_primary_any (1 + f1) v1 i1 W (by omega) (by omega) (by omega) (by omega)
  have HE : Hid ((⟨2, Psp.primary (1 + Psp.within f0 4) (Psp.within v0 12) (Psp.within i0 (1 + Psp.within f0 4 + 1)), 0, 0, 0, 0, [rqR (1 + Psp.within c0 4) (1 + Psp.within q0 16) (Psp.within y0 64) (Psp.within z0 1000)], [], [], []⟩ : Psp.Msg) = ⟨2, pr, 0, 0, 0, 0, [⟨c1, 1 + q1, 1, y1, z1, 0⟩], [], [], []⟩) := Lib.hid (by rw [hf1, hv1, hi1, hpr, hc1, hq1, hy1, hz1]; unfold rqR; rw [show 1 + c1 - 1 = c1 by omega])
  clear hf1 hc1 hv1 hi1 hq1 hy1 hz1 hpr
  go_upto_region 5 with (first | (go_at_call 17; refine (within_i64 _ _ _ (by first | assumption | exact ⟨by omega, by omega⟩) (by exact ⟨by omega, by omega⟩)).mono ?_; rintro e w' ⟨rfl, rfl⟩) | (go_at_call 69; refine (HPr.out _).mono ?_; rintro e w' ⟨rfl, rfl⟩))
  have hb4 := alloc_below W3 (.cells #[.int .i64 2, .int .i64 pr, .int .i64 0, .int .i64 0, .int .i64 0, .int .i64 0, .slice none 0 0, .slice none 0 0, .slice none 0 0, .slice none 0 0] 27)
  have hm4 := heap_alloc_new W3 (.cells #[.int .i64 2, .int .i64 pr, .int .i64 0, .int .i64 0, .int .i64 0, .int .i64 0, .slice none 0 0, .slice none 0 0, .slice none 0 0, .slice none 0 0] 27)
  obtain ⟨W4, hW4⟩ : ∃ W, W3.alloc (.cells #[.int .i64 2, .int .i64 pr, .int .i64 0, .int .i64 0, .int .i64 0, .int .i64 0, .slice none 0 0, .slice none 0 0, .slice none 0 0, .slice none 0 0] 27) = W := ⟨_, rfl⟩
  rw [hW4] at hb4 hm4 ⊢
  clear hW4
  have HB4 := Lib.hid (Below.then HB3.out hb4 HB3.out.size)
  have HB34 := Lib.hid hb4
  have HR4 := Lib.hid (obj_below HR3.out hb4 (Nat.le_refl _))
  have HM4 := Lib.hid hm4
  have hr3 := (Array.getElem?_eq_some_iff.1 HR3.out).1
  have x0 : W4.cell? ⟨W3.heap.size, 0, none⟩ = some (.int .i64 2) := by rw [cell_of_row W4 _ 0 _ _ _ hm4]; rfl
  have x6 : W4.cell? ⟨W3.heap.size, 6, none⟩ = some (.slice none 0 0) := by rw [cell_of_row W4 _ 6 _ _ _ hm4]; rfl
  have z6 := frozen_of_row W4 _ 6 _ _ hm4
  have HQ4 := obj_below HQ3.out HB34.out (Nat.le_refl _)
  have hq2 := (Array.getElem?_eq_some_iff.1 HQ3.out).1
  have g0 : W4.cell? ⟨W2.heap.size, 0, none⟩ = some (.int .i64 c1) := by rw [cell_of_row W4 _ 0 _ _ _ HQ4]; rfl
  have g1 : W4.cell? ⟨W2.heap.size, 1, none⟩ = some (.int .i64 (1 + q1)) := by rw [cell_of_row W4 _ 1 _ _ _ HQ4]; rfl
  have g2 : W4.cell? ⟨W2.heap.size, 2, none⟩ = some (.int .i64 1) := by rw [cell_of_row W4 _ 2 _ _ _ HQ4]; rfl
  have g3 : W4.cell? ⟨W2.heap.size, 3, none⟩ = some (.int .i64 y1) := by rw [cell_of_row W4 _ 3 _ _ _ HQ4]; rfl
  have g4 : W4.cell? ⟨W2.heap.size, 4, none⟩ = some (.int .i64 z1) := by rw [cell_of_row W4 _ 4 _ _ _ HQ4]; rfl
  have g5 : W4.cell? ⟨W2.heap.size, 5, none⟩ = some (.int .i64 0) := by rw [cell_of_row W4 _ 5 _ _ _ HQ4]; rfl
  have hm4l := (Array.getElem?_eq_some_iff.1 hm4).1
  clear hb4 hm4 HB3 HC3 HR3 HQ4
  go_upto_region 28 with fail
  clear x0 x6 z6 g0 g1 g2 g3 g4 g5
  have hFp : Fp (fun b => b = W3.heap.size) W4 (W4.setCell ⟨W3.heap.size, 6, none⟩ (.slice (some ⟨W4.heap.size, 0, none⟩) 1 1)) := (Fp.refl (fun b => b = W3.heap.size) W4).setCell (p := ⟨W3.heap.size, 6, none⟩) (Or.inl (show W3.heap.size = W3.heap.size from rfl)) _
  have hm4' : (W4.setCell ⟨W3.heap.size, 6, none⟩ (.slice (some ⟨W4.heap.size, 0, none⟩) 1 1)).heap[W3.heap.size]? = some (.cells #[.int .i64 2, .int .i64 pr, .int .i64 0, .int .i64 0, .int .i64 0, .int .i64 0, .slice (some ⟨W4.heap.size, 0, none⟩) 1 1, .slice none 0 0, .slice none 0 0, .slice none 0 0] 27 (0, 0)) := by
    rw [heap_setCell_same W4 W3.heap.size 6 _ _ _ HM4.out]; rfl
  have hss : (W4.setCell ⟨W3.heap.size, 6, none⟩ (.slice (some ⟨W4.heap.size, 0, none⟩) 1 1)).heap.size = W4.heap.size := by simp [World.setCell]
  obtain ⟨Ws, hWs⟩ : ∃ W, W4.setCell ⟨W3.heap.size, 6, none⟩ (.slice (some ⟨W4.heap.size, 0, none⟩) 1 1) = W := ⟨_, rfl⟩
  rw [hWs] at hFp hm4' hss ⊢
  clear hWs
  have hba := alloc_below Ws (.cells #[.int .i64 c1, .int .i64 (1 + q1), .int .i64 1, .int .i64 y1, .int .i64 z1, .int .i64 0] 50)
  have hla := lies_new Ws [.int .i64 c1, .int .i64 (1 + q1), .int .i64 1, .int .i64 y1, .int .i64 z1, .int .i64 0] 50 _ hss
  have hsa : (Ws.alloc (.cells #[.int .i64 c1, .int .i64 (1 + q1), .int .i64 1, .int .i64 y1, .int .i64 z1, .int .i64 0] 50)).heap.size = Ws.heap.size + 1 := by simp
  have hrq : RdP (Ws.alloc (.cells #[.int .i64 c1, .int .i64 (1 + q1), .int .i64 1, .int .i64 y1, .int .i64 z1, .int .i64 0] 50)) (fun b => b = W4.heap.size) 6 (.slice (some ⟨W4.heap.size, 0, none⟩) 1 1) 1 ([(⟨c1, 1 + q1, 1, y1, z1, 0⟩ : Psp.Req)].flatMap rq) := ⟨rfl, _, 1, rfl, Nat.le_refl _, by unfold maxLen; omega, fun _ => ⟨W4.heap.size, 0, rfl, rfl, by rw [hsa]; omega, hla⟩⟩
  have hob := heap_alloc_new Ws (.cells #[.int .i64 c1, .int .i64 (1 + q1), .int .i64 1, .int .i64 y1, .int .i64 z1, .int .i64 0] 50)
  rw [hss] at hob
  have hm4l' := hm4l
  obtain ⟨W5, hW5⟩ : ∃ W, Ws.alloc (.cells #[.int .i64 c1, .int .i64 (1 + q1), .int .i64 1, .int .i64 y1, .int .i64 z1, .int .i64 0] 50) = W := ⟨_, rfl⟩
  rw [hW5] at hba hrq hob ⊢
  have HOb := Lib.hid hob
  clear hW5 hla hsa hob
  have HRq := Lib.hid hrq
  have hm5 := obj_below hm4' hba (Nat.le_refl _)
  have HB5 := Lib.hid (Below.then (HB4.out.trans (hFp.to_below (B := w.heap.size) HB4.out.size fun k hk he => by omega)) hba (by have := HB4.out.size; omega))
  have hr5 := obj_below ((hFp.block (w.heap.size + 1) (Array.getElem?_eq_some_iff.1 HR4.out).1 (by omega)).trans HR4.out) hba (Nat.le_refl _)
  obtain ⟨y0', y1', y2', y3', y4', y5', y6', y7', y8', y9'⟩ := box_cells hm5
  have Hth := Lib.hid (row_there hr5)
  obtain ⟨s1, s2⟩ := row_store hr5 [.int .i64 2, .int .i64 pr, .int .i64 0, .int .i64 0, .int .i64 0, .int .i64 0, .slice (some ⟨W4.heap.size, 0, none⟩) 1 1, .slice none 0 0, .slice none 0 0, .slice none 0 0] rfl
  have T1 := Lib.hid s1
  have T3 := Lib.hid (below_setCells HB5.out (w.heap.size + 1) (by omega) [.int .i64 2, .int .i64 pr, .int .i64 0, .int .i64 0, .int .i64 0, .int .i64 0, .slice (some ⟨W4.heap.size, 0, none⟩) 1 1, .slice none 0 0, .slice none 0 0, .slice none 0 0])
  have HRf := Lib.hid (HRq.out.keeps (P' := fun b => w.heap.size ≤ b) (w' := W5.setCells (w.heap.size + 1) 0 [.int .i64 2, .int .i64 pr, .int .i64 0, .int .i64 0, .int .i64 0, .int .i64 0, .slice (some ⟨W4.heap.size, 0, none⟩) 1 1, .slice none 0 0, .slice none 0 0, .slice none 0 0]) ⟨by rw [setCells_size]; exact Nat.le_refl _, fun b hb hlt => ⟨s2 b (by omega), by omega⟩⟩)
  have HOf : Hid ((W5.setCells (w.heap.size + 1) 0 [.int .i64 2, .int .i64 pr, .int .i64 0, .int .i64 0, .int .i64 0, .int .i64 0, .slice (some ⟨W4.heap.size, 0, none⟩) 1 1, .slice none 0 0, .slice none 0 0, .slice none 0 0]).ownsRow w.heap.size 50 6 (.slice (some ⟨W4.heap.size, 0, none⟩) 1 1) 1 (rq ⟨c1, 1 + q1, 1, y1, z1, 0⟩)) := Lib.hid (own_lit1 ((s2 W4.heap.size (by omega)).trans HOb.out) rfl (by omega))
  clear s1 s2 hr5 hFp hm5
  go_wp2_with (first | (refine wpList_store_mid rfl 27 (.tmp 14) (.tmp 142) rfl (w.heap.size + 1) 0 #[.int .i64 2, .int .i64 pr, .int .i64 0, .int .i64 0, .int .i64 0, .int .i64 0, .slice (some ⟨W4.heap.size, 0, none⟩) 1 1, .slice none 0 0, .slice none 0 0, .slice none 0 0] rfl rfl Hth.out sizeM (by simp [Value.oneCell']) ?_))
  refine bodyPost_ret (v := .agg #[.int .i64 2, .int .i64 pr, .int .i64 0, .int .i64 0, .int .i64 0, .int .i64 0, .slice (some ⟨W4.heap.size, 0, none⟩) 1 1, .slice none 0 0, .slice none 0 0, .slice none 0 0]) ?_ rfl ?_
  · exact results_cell_row Try.results27 _ _ (w.heap.size + 1) _ _ _ _ rfl T1.out Try.underlying27 rfl sizeM
  · have hE := HE.out
    rw [hE]
    exact ⟨_, none, none, none, 1, 0, 0, 0, rfl, ⟨HRf.out, RdP.none_, RdC.nil, RdA.nil⟩, T3.out, owns_req HOf.out⟩
end Go.Proofs.Ytljfoajhobambaa


end

section
/- psephoslaw06.right, kind 10. Printed by gen_rt.py. -/
namespace Go.Proofs.Ytljfoajhobambaa
open Go.RowKit
set_option linter.unusedVariables false
set_option linter.unusedSimpArgs false

set_option maxRecDepth 100000 in
set_option maxHeartbeats 4000000 in
theorem right_10 (k0 f0 c0 v0 i0 q0 o0 y0 z0 : Int) (w : World) (hk : isI64 k0) (hf : isI64 f0) (hc : isI64 c0) (hv : isI64 v0) (hi : isI64 i0) (hq : isI64 q0) (hy : isI64 y0) (hz : isI64 z0) (h6 : Psp.within k0 10 = 9) :
    Calls Try.prog 27 #[.int .i64 k0, .int .i64 f0, .int .i64 c0, .int .i64 v0, .int .i64 i0, .int .i64 q0, .agg #[.int .i64 o0, .int .i64 y0, .int .i64 z0]] w (Gives ⟨10, Psp.primary (1 + Psp.within f0 4) (Psp.within v0 12) (Psp.within i0 (1 + Psp.within f0 4 + 1)), 0, Psp.within c0 4, 1 + Psp.within q0 16, z0.tmod 1000, [], [], [], []⟩ w) := by
  obtain ⟨f1, hf1⟩ : ∃ x, Psp.within f0 4 = x := ⟨_, rfl⟩
  have f1a : 0 ≤ f1 := by rw [← hf1]; exact Psp.within_lo _ _
  have f1b : f1 < 4 := by rw [← hf1]; exact Psp.within_hi _ _ (by omega)
  obtain ⟨c1, hc1⟩ : ∃ x, Psp.within c0 4 = x := ⟨_, rfl⟩
  have c1a : 0 ≤ c1 := by rw [← hc1]; exact Psp.within_lo _ _
  have c1b : c1 < 4 := by rw [← hc1]; exact Psp.within_hi _ _ (by omega)
  obtain ⟨v1, hv1⟩ : ∃ x, Psp.within v0 12 = x := ⟨_, rfl⟩
  have v1a : 0 ≤ v1 := by rw [← hv1]; exact Psp.within_lo _ _
  have v1b : v1 < 12 := by rw [← hv1]; exact Psp.within_hi _ _ (by omega)
  obtain ⟨i1, hi1⟩ : ∃ x, Psp.within i0 (1 + f1 + 1) = x := ⟨_, rfl⟩
  have i1a : 0 ≤ i1 := by rw [← hi1]; exact Psp.within_lo _ _
  have i1b : i1 < 1 + f1 + 1 := by rw [← hi1]; exact Psp.within_hi _ _ (by omega)
  obtain ⟨q1, hq1⟩ : ∃ x, Psp.within q0 16 = x := ⟨_, rfl⟩
  have q1a : 0 ≤ q1 := by rw [← hq1]; exact Psp.within_lo _ _
  have q1b : q1 < 16 := by rw [← hq1]; exact Psp.within_hi _ _ (by omega)
  go_enter Try.func27, Try.ntmps27
  go_wp2_with (go_at_call 17; refine (within_i64 _ _ _ (by first | assumption | exact ⟨by omega, by omega⟩) (by exact ⟨by omega, by omega⟩)).mono ?_; rintro e w' ⟨rfl, rfl⟩)
  obtain ⟨y1, hy1⟩ : ∃ x, Psp.within y0 64 = x := ⟨_, rfl⟩
  obtain ⟨z1, hz1⟩ : ∃ x, Psp.within z0 1000 = x := ⟨_, rfl⟩
  have hs2 : ((w.alloc (.cells #[.int .i64 o0, .int .i64 y0, .int .i64 z0] 47)).alloc (.cells zs 27)).heap.size = w.heap.size + 2 := by simp
  have hc2 := obj_below (heap_alloc_new w (.cells #[.int .i64 o0, .int .i64 y0, .int .i64 z0] 47)) (alloc_below _ (.cells zs 27)) (Nat.le_refl _)
  have hr2 : ((w.alloc (.cells #[.int .i64 o0, .int .i64 y0, .int .i64 z0] 47)).alloc (.cells zs 27)).heap[w.heap.size + 1]? = some (.cells zs 27 (0, 0)) := by have h := heap_alloc_new (w.alloc (.cells #[.int .i64 o0, .int .i64 y0, .int .i64 z0] 47)) (.cells zs 27); simpa using h
  have hb2 : Below w.heap.size w ((w.alloc (.cells #[.int .i64 o0, .int .i64 y0, .int .i64 z0] 47)).alloc (.cells zs 27)) := (alloc_below w _).trans ((alloc_below _ _).mono (by simp))
  obtain ⟨W2, hW2⟩ : ∃ W, (w.alloc (.cells #[.int .i64 o0, .int .i64 y0, .int .i64 z0] 47)).alloc (.cells zs 27) = W := ⟨_, rfl⟩
  rw [show (w.alloc (.cells #[.int .i64 o0, .int .i64 y0, .int .i64 z0] 47)).alloc (.cells #[.int .i64 0, .int .i64 0, .int .i64 0, .int .i64 0, .int .i64 0, .int .i64 0, .slice none 0 0, .slice none 0 0, .slice none 0 0, .slice none 0 0] 27) = W2 from hW2]
  rw [hW2] at hs2 hc2 hr2 hb2
  replace hs2 : w.heap.size + 2 ≤ W2.heap.size := by omega
  have HC2 := Lib.hid hc2
  have HR2 := Lib.hid hr2
  have HB2 := Lib.hid hb2
  have x1 : W2.cell? ⟨w.heap.size, 1, none⟩ = some (.int .i64 y0) := by rw [cell_of_row W2 _ 1 _ _ _ hc2]; rfl
  have x2 : W2.cell? ⟨w.heap.size, 2, none⟩ = some (.int .i64 z0) := by rw [cell_of_row W2 _ 2 _ _ _ hc2]; rfl
  clear hW2 hc2 hr2 hb2
  have hst := And.intro x1 x2
  have hwr : IntKind.i64.wrap (1 + c1 - 1) = c1 := (IntWalk.i64_in _ (by omega)).trans (by omega)
  apply wp_join (W0 := (W2.alloc (.cells #[.int .i64 c1, .int .i64 (1 + q1), .int .i64 1, .int .i64 y1, .int .i64 z1, .int .i64 0] 50)).drew)
  case h =>
   go_region_held3 (fun w' => w'.cell? ⟨w.heap.size, 1, none⟩ = some (.int .i64 y0) ∧ w'.cell? ⟨w.heap.size, 2, none⟩ = some (.int .i64 z0))
    (first | assumption | go_keep | (go_split_ands; exact ⟨by assumption, by assumption⟩) | (go_split_ands; exact ⟨((alloc_below W2 _).cell (p := ⟨w.heap.size, 1, none⟩) (by show w.heap.size < W2.heap.size; omega)).trans x1, ((alloc_below W2 _).cell (p := ⟨w.heap.size, 2, none⟩) (by show w.heap.size < W2.heap.size; omega)).trans x2⟩))
    (first | (go_at_call 17; refine (within_i64 _ _ _ (by first | assumption | exact ⟨by omega, by omega⟩) (by exact ⟨by omega, by omega⟩)).mono ?_; rintro e w' ⟨rfl, rfl⟩))
   all_goals exact ⟨rfl, rfl⟩
  have hb3 : Below W2.heap.size W2 ((W2.alloc (.cells #[.int .i64 c1, .int .i64 (1 + q1), .int .i64 1, .int .i64 y1, .int .i64 z1, .int .i64 0] 50)).drew) := (alloc_below W2 _).drew
  have hq3 : ((W2.alloc (.cells #[.int .i64 c1, .int .i64 (1 + q1), .int .i64 1, .int .i64 y1, .int .i64 z1, .int .i64 0] 50)).drew).heap[W2.heap.size]? = some (.cells #[.int .i64 c1, .int .i64 (1 + q1), .int .i64 1, .int .i64 y1, .int .i64 z1, .int .i64 0] 50 (0, 0)) := heap_alloc_new W2 _
  obtain ⟨W3, hW3⟩ : ∃ W, (W2.alloc (.cells #[.int .i64 c1, .int .i64 (1 + q1), .int .i64 1, .int .i64 y1, .int .i64 z1, .int .i64 0] 50)).drew = W := ⟨_, rfl⟩
  rw [hW3] at hb3 hq3 ⊢
  clear hW3 hst x1 x2 hwr
  have HB3 := Lib.hid (Below.then HB2.out hb3 HB2.out.size)
  have HC3 := Lib.hid (obj_below HC2.out hb3 (Nat.le_refl _))
  have HR3 := Lib.hid (obj_below HR2.out hb3 (Nat.le_refl _))
  have HQ3 := Lib.hid hq3
  clear hb3 hq3 HB2 HC2 HR2
  obtain ⟨pr, hpr⟩ : ∃ x, Psp.primary (1 + f1) v1 i1 = x := ⟨_, rfl⟩
  have HPr : Hid (∀ W : World, Calls Try.prog 69 #[.int .i64 (1 + f1), .int .i64 v1, .int .i64 i1] W fun e w' => e = .returned (.int .i64 pr) ∧ W = w') := Lib.hid fun W => by rw [← hpr]; exact r_primary_any (1 + f1) v1 i1 W (by omega) (by omega) (by omega) (by omega)
  have HE : Hid ((⟨10, Psp.primary (1 + Psp.within f0 4) (Psp.within v0 12) (Psp.within i0 (1 + Psp.within f0 4 + 1)), 0, Psp.within c0 4, 1 + Psp.within q0 16, z0.tmod 1000, [], [], [], []⟩ : Psp.Msg) = ⟨10, pr, 0, c1, 1 + q1, z0.tmod 1000, [], [], [], []⟩) := Lib.hid (by rw [hf1, hv1, hi1, hpr, hc1, hq1])
  clear hf1 hc1 hv1 hi1 hq1 hy1 hz1 hpr
  go_upto_region 5 with (first | (go_at_call 17; refine (within_i64 _ _ _ (by first | assumption | exact ⟨by omega, by omega⟩) (by exact ⟨by omega, by omega⟩)).mono ?_; rintro e w' ⟨rfl, rfl⟩) | (go_at_call 69; refine (HPr.out _).mono ?_; rintro e w' ⟨rfl, rfl⟩))
  have hb4 := alloc_below W3 (.cells #[.int .i64 10, .int .i64 pr, .int .i64 0, .int .i64 0, .int .i64 0, .int .i64 0, .slice none 0 0, .slice none 0 0, .slice none 0 0, .slice none 0 0] 27)
  have hm4 := heap_alloc_new W3 (.cells #[.int .i64 10, .int .i64 pr, .int .i64 0, .int .i64 0, .int .i64 0, .int .i64 0, .slice none 0 0, .slice none 0 0, .slice none 0 0, .slice none 0 0] 27)
  obtain ⟨W4, hW4⟩ : ∃ W, W3.alloc (.cells #[.int .i64 10, .int .i64 pr, .int .i64 0, .int .i64 0, .int .i64 0, .int .i64 0, .slice none 0 0, .slice none 0 0, .slice none 0 0, .slice none 0 0] 27) = W := ⟨_, rfl⟩
  rw [hW4] at hb4 hm4 ⊢
  clear hW4
  have HB4 := Lib.hid (Below.then HB3.out hb4 HB3.out.size)
  have HB34 := Lib.hid hb4
  have HR4 := Lib.hid (obj_below HR3.out hb4 (Nat.le_refl _))
  have HM4 := Lib.hid hm4
  have hr3 := (Array.getElem?_eq_some_iff.1 HR3.out).1
  have x0 : W4.cell? ⟨W3.heap.size, 0, none⟩ = some (.int .i64 10) := by rw [cell_of_row W4 _ 0 _ _ _ hm4]; rfl
  have x3 : W4.cell? ⟨W3.heap.size, 3, none⟩ = some (.int .i64 0) := by rw [cell_of_row W4 _ 3 _ _ _ hm4]; rfl
  have x4 : W4.cell? ⟨W3.heap.size, 4, none⟩ = some (.int .i64 0) := by rw [cell_of_row W4 _ 4 _ _ _ hm4]; rfl
  have x5 : W4.cell? ⟨W3.heap.size, 5, none⟩ = some (.int .i64 0) := by rw [cell_of_row W4 _ 5 _ _ _ hm4]; rfl
  have z3 : W4.frozen? ⟨W3.heap.size, 3, none⟩ = false := frozen_of_row W4 _ 3 _ _ hm4
  have z4 : W4.frozen? ⟨W3.heap.size, 4, none⟩ = false := frozen_of_row W4 _ 4 _ _ hm4
  have z5 : W4.frozen? ⟨W3.heap.size, 5, none⟩ = false := frozen_of_row W4 _ 5 _ _ hm4
  have HC4 := obj_below HC3.out HB34.out (Nat.le_refl _)
  have hne : ¬ (w.heap.size = W3.heap.size) := by omega
  have l2 := laterF_cell (w := W4.drew) (T := fun b => b = W3.heap.size) (show W4.drew.cell? ⟨w.heap.size, 2, none⟩ = some (.int .i64 z0) by rw [cell_of_row W4.drew _ 2 _ _ _ HC4]; rfl) hne
  have hwr : IntKind.i64.wrap (1 + c1 - 1) = c1 := (IntWalk.i64_in _ (by omega)).trans (by omega)
  clear hb4 hm4 HB3 HC3 HR3 HC4
  go_wp2_with fail
  refine wp_region_phasesF (fun b => b = W3.heap.size) [(true, 0), (true, 1), (true, 2), (true, 3), (true, 4), (true, 5), (true, 6), (false, 7), (true, 8), (false, 9)] (by kernel_rfl) (by kernel_rfl) ?_
  simp only [phS, List.getElem?_cons_zero, List.getElem?_cons_succ, Option.toList, List.length_cons, List.length_nil, Nat.reduceAdd, List.drop_succ_cons, List.drop_zero]
  repeat (first | go_big_quiet_step (fail) | quiet_step (fail) | refine wpQuiet_nil ?_)
  have F1 : Fp (fun b => b = W3.heap.size) W4 (W4.setCell ⟨W3.heap.size, 3, none⟩ (.int .i64 c1)) := (Fp.refl (fun b => b = W3.heap.size) W4).setCell (p := ⟨W3.heap.size, 3, none⟩) (Or.inl (show W3.heap.size = W3.heap.size from rfl)) _
  have F2 : Fp (fun b => b = W3.heap.size) W4 ((W4.setCell ⟨W3.heap.size, 3, none⟩ (.int .i64 c1)).setCell ⟨W3.heap.size, 4, none⟩ (.int .i64 (1 + q1))) := F1.setCell (p := ⟨W3.heap.size, 4, none⟩) (Or.inl (show W3.heap.size = W3.heap.size from rfl)) _
  have F3 : Fp (fun b => b = W3.heap.size) W4 ((((W4.setCell ⟨W3.heap.size, 3, none⟩ (.int .i64 c1)).setCell ⟨W3.heap.size, 4, none⟩ (.int .i64 (1 + q1))).setCell ⟨W3.heap.size, 5, none⟩ (.int .i64 (z0.tmod 1000))).drew) := (F2.setCell (p := ⟨W3.heap.size, 5, none⟩) (Or.inl (show W3.heap.size = W3.heap.size from rfl)) _).drew
  have hm5 : ((((W4.setCell ⟨W3.heap.size, 3, none⟩ (.int .i64 c1)).setCell ⟨W3.heap.size, 4, none⟩ (.int .i64 (1 + q1))).setCell ⟨W3.heap.size, 5, none⟩ (.int .i64 (z0.tmod 1000))).drew).heap[W3.heap.size]? = some (.cells #[.int .i64 10, .int .i64 pr, .int .i64 0, .int .i64 c1, .int .i64 (1 + q1), .int .i64 (z0.tmod 1000), .slice none 0 0, .slice none 0 0, .slice none 0 0, .slice none 0 0] 27 (0, 0)) := by
    show (((W4.setCell ⟨W3.heap.size, 3, none⟩ (.int .i64 c1)).setCell ⟨W3.heap.size, 4, none⟩ (.int .i64 (1 + q1))).setCell ⟨W3.heap.size, 5, none⟩ (.int .i64 (z0.tmod 1000))).heap[W3.heap.size]? = _
    rw [heap_setCell_same _ W3.heap.size 5 _ _ _ (heap_setCell_same _ W3.heap.size 4 _ _ _ (heap_setCell_same W4 W3.heap.size 3 _ _ _ HM4.out))]; rfl
  have HF1 := Lib.hid F1
  have HF2 := Lib.hid F2
  have HF3 := Lib.hid F3
  have HM5 := Lib.hid hm5
  clear F1 F2 F3 hm5
  go_wp2_with fail
  refine And.intro ⟨⟨_, ⟨HF1.out.drew.os, HF1.out.drew.tape, HF1.out.drew.output, HF1.out.drew.size, HF1.out.drew.block⟩⟩, rfl⟩ ?_
  repeat (first | go_big_quiet_step (fail) | quiet_step (fail) | refine wpQuiet_nil ?_)
  go_wp2_with fail
  refine And.intro ⟨⟨_, ⟨HF2.out.drew.os, HF2.out.drew.tape, HF2.out.drew.output, HF2.out.drew.size, HF2.out.drew.block⟩⟩, rfl⟩ ?_
  go_upto_region 28 with fail
  clear x0 x3 x4 x5 z3 z4 z5 l2 hwr
  have hFp := HF3.out
  have hm5 := HM5.out
  obtain ⟨W5, hW5⟩ : ∃ W, (((W4.setCell ⟨W3.heap.size, 3, none⟩ (.int .i64 c1)).setCell ⟨W3.heap.size, 4, none⟩ (.int .i64 (1 + q1))).setCell ⟨W3.heap.size, 5, none⟩ (.int .i64 (z0.tmod 1000))).drew = W := ⟨_, rfl⟩
  rw [hW5] at hFp hm5 ⊢
  clear hW5
  have HB5 := Lib.hid (HB4.out.trans (hFp.to_below (B := w.heap.size) HB4.out.size fun k hk he => by omega))
  have hr5 := (hFp.block (w.heap.size + 1) (Array.getElem?_eq_some_iff.1 HR4.out).1 (by omega)).trans HR4.out
  obtain ⟨y0', y1', y2', y3', y4', y5', y6', y7', y8', y9'⟩ := box_cells hm5
  have Hth := Lib.hid (row_there hr5)
  obtain ⟨s1, s2⟩ := row_store hr5 [.int .i64 10, .int .i64 pr, .int .i64 0, .int .i64 c1, .int .i64 (1 + q1), .int .i64 (z0.tmod 1000), .slice none 0 0, .slice none 0 0, .slice none 0 0, .slice none 0 0] rfl
  have T1 := Lib.hid s1
  have T3 := Lib.hid (below_setCells HB5.out (w.heap.size + 1) (by omega) [.int .i64 10, .int .i64 pr, .int .i64 0, .int .i64 c1, .int .i64 (1 + q1), .int .i64 (z0.tmod 1000), .slice none 0 0, .slice none 0 0, .slice none 0 0, .slice none 0 0])
  clear s1 s2 hr5 hFp hm5
  go_wp2_with (first | (refine wpList_store_mid rfl 27 (.tmp 14) (.tmp 142) rfl (w.heap.size + 1) 0 #[.int .i64 10, .int .i64 pr, .int .i64 0, .int .i64 c1, .int .i64 (1 + q1), .int .i64 (z0.tmod 1000), .slice none 0 0, .slice none 0 0, .slice none 0 0, .slice none 0 0] rfl rfl Hth.out sizeM (by simp [Value.oneCell']) ?_))
  refine bodyPost_ret (v := .agg #[.int .i64 10, .int .i64 pr, .int .i64 0, .int .i64 c1, .int .i64 (1 + q1), .int .i64 (z0.tmod 1000), .slice none 0 0, .slice none 0 0, .slice none 0 0, .slice none 0 0]) ?_ rfl ?_
  · exact results_cell_row Try.results27 _ _ (w.heap.size + 1) _ _ _ _ rfl T1.out Try.underlying27 rfl sizeM
  · have hE := HE.out
    rw [hE]
    exact ⟨none, none, none, none, 0, 0, 0, 0, rfl, ⟨RdP.none_, RdP.none_, RdC.nil, RdA.nil⟩, T3.out, owns_none⟩
end Go.Proofs.Ytljfoajhobambaa


end

section
/- psephoslaw06.right: the message's box and the result's cell, through its writes. -/
namespace Go.Proofs.Ytljfoajhobambaa
open Go.RowKit
set_option linter.unusedVariables false
set_option linter.unusedSimpArgs false

/-- The message's box N, the result's cell. -/
structure Rb (w W : World) (N : Nat) (cs : Array Value) : Prop where
  box : W.heap[N]? = some (.cells cs 27 (0, 0))
  res : W.heap[w.heap.size + 1]? = some (.cells zs 27 (0, 0))
  be : Below w.heap.size w W
  lo : w.heap.size + 1 < N
theorem Rb.step {w W W' : World} {N : Nat} {cs : Array Value} (h : Rb w W N cs) (hb : Below W.heap.size W W') : Rb w W' N cs :=
  ⟨obj_below h.box hb (Nat.le_refl _), obj_below h.res hb (Nat.le_refl _), Below.then h.be hb h.be.size, h.lo⟩
theorem Rb.drew {w W : World} {N : Nat} {cs : Array Value} (h : Rb w W N cs) : Rb w W.drew N cs := ⟨h.box, h.res, h.be.drew, h.lo⟩
theorem Rb.set {w W : World} {N : Nat} {cs : Array Value} (h : Rb w W N cs) (j : Nat) (u : Value) : Rb w (W.setCell ⟨N, j, none⟩ u) N (cs.setIfInBounds j u) :=
  ⟨heap_setCell_same W N j _ _ _ h.box, (Below.heap_setCell W ⟨N, j, none⟩ u _ (by show w.heap.size + 1 ≠ N; have := h.lo; omega)).trans h.res, h.be.setCell (p := ⟨N, j, none⟩) (by show w.heap.size ≤ N; have := h.lo; omega) u, h.lo⟩
theorem Rb.alloc {w W : World} {N : Nat} {cs : Array Value} (h : Rb w W N cs) (o : Obj) : Rb w (W.alloc o) N cs := h.step (alloc_below W o)
theorem Rb.grown {w W W' : World} {N : Nat} {cs : Array Value} {row : Option Nat} (h : Rb w W N cs) (hg : W.grownBy W' row) (hr : ∀ j, row = some j → N < j) : Rb w W' N cs :=
  ⟨(hg.block N (Array.getElem?_eq_some_iff.1 h.box).1 (fun he => by have := hr N he.symm; omega)).trans h.box,
   (hg.block _ (Array.getElem?_eq_some_iff.1 h.res).1 (fun he => by have := hr _ he.symm; have := h.lo; omega)).trans h.res,
   h.be.grown hg h.be.size (fun k hk => by have := hr k hk; have := h.lo; omega), h.lo⟩
/-- The parts of a list that grows in blocks from N0 on. -/
structure PJ (N0 : Nat) (w : World) (out : Value) (xs : List PartV) : Prop where
  own : w.ownsRow N0 54 4 out xs.length (xs.flatMap pv)
  inner : ∀ y ∈ xs, PartOk w (fun k => N0 ≤ k ∧ out.ownBlock ≠ some k) y
  le : N0 ≤ w.heap.size
theorem PJ.set {N0 N : Nat} {w : World} {out : Value} {xs : List PartV} (h : PJ N0 w out xs) (hN : N < N0) (j : Nat) (u : Value) : PJ N0 (w.setCell ⟨N, j, none⟩ u) out xs := by
  have hs : (w.setCell ⟨N, j, none⟩ u).heap.size = w.heap.size := by simp [World.setCell]
  refine ⟨own_keep h.own fun b hb => Below.heap_setCell w ⟨N, j, none⟩ u b (by have := (h.own.lt b hb).1; show b ≠ N; omega), fun y hy => (h.inner y hy).keeps ⟨by omega, fun b hb hlt => ⟨Below.heap_setCell w ⟨N, j, none⟩ u b (by have := hb.1; show b ≠ N; omega), hb⟩⟩, by have := h.le; omega⟩
theorem PJ.next {N0 : Nat} {w' w1 w2 : World} {out v' : Value} {xs : List PartV} {t : PartV} (h : PJ N0 w' out xs) (hb1 : Below w'.heap.size w' w1) (h0 : PartOk w1 (fun k => w'.heap.size ≤ k) t)
    (hown2 : w2.ownsRow N0 54 4 v' (xs.length + 1) (xs.flatMap pv ++ (pv t).toArray.toList)) (hg2 : w1.grownBy w2 out.ownBlock) (hv2 : v'.ownBlock = out.ownBlock ∨ v'.ownBlock = some (w1.heap.size + 1)) : PJ N0 w2 v' (xs ++ [t]) := by
  have hz := h.le
  have hz1 := hb1.size
  have k1 : Keeps (fun k => N0 ≤ k ∧ out.ownBlock ≠ some k) (fun k => N0 ≤ k ∧ v'.ownBlock ≠ some k) w' w2 := by
    refine ⟨Nat.le_trans hz1 hg2.size, fun b hb hlt => ⟨(hg2.block b (by omega) (fun he => hb.2 he.symm)).trans (hb1.block b hlt), hb.1, fun he => ?_⟩⟩
    rcases hv2 with hv | hv
    · rw [hv] at he; exact hb.2 he
    · rw [hv] at he; injection he with he; omega
  have k2 : Keeps (fun k => w'.heap.size ≤ k) (fun k => N0 ≤ k ∧ v'.ownBlock ≠ some k) w1 w2 := by
    refine ⟨hg2.size, fun b hb hlt => ⟨hg2.block b hlt (fun he => ?_), by omega, fun he => ?_⟩⟩
    · have := (h.own.lt b (by rw [← he])).2; omega
    · rcases hv2 with hv | hv
      · rw [hv] at he; have := (h.own.lt b he).2; omega
      · rw [hv] at he; injection he with he; omega
  refine ⟨?_, fun y hy => ?_, ?_⟩
  · rw [List.length_append, List.flatMap_append]
    simpa using hown2
  · rcases List.mem_append.1 hy with hy | hy
    · exact (h.inner y hy).keeps k1
    · rw [List.mem_singleton.1 hy]
      exact h0.keeps k2
  · have := hg2.size; omega
theorem ptsR_len (f : Int) (q n : Nat) : (ptsR f q n).length = n := by unfold ptsR; simp
theorem ptsR_step (f : Int) (q n : Nat) : ptsR f q (n + 1) = ptsR f q n ++ [⟨(n : Int) + f, qL q, [], 0⟩] := by unfold ptsR; rw [List.range_succ, List.map_append]; rfl
end Go.Proofs.Ytljfoajhobambaa

end

section
/- psephoslaw06.right, kind 1. Printed by gen_rt2.py. -/
namespace Go.Proofs.Ytljfoajhobambaa
open Go.RowKit
set_option linter.unusedVariables false
set_option linter.unusedSimpArgs false

set_option maxRecDepth 100000 in
set_option maxHeartbeats 4000000 in
theorem right_1 (k0 f0 c0 v0 i0 q0 o0 y0 z0 : Int) (w : World) (hk : isI64 k0) (hf : isI64 f0) (hc : isI64 c0) (hv : isI64 v0) (hi : isI64 i0) (hq : isI64 q0) (hy : isI64 y0) (hz : isI64 z0) (q : Nat) (hqq : (q : Int) = 2 * (1 + Psp.within f0 4) + 1) (h6 : Psp.within k0 10 = 0) :
    Calls Try.prog 27 #[.int .i64 k0, .int .i64 f0, .int .i64 c0, .int .i64 v0, .int .i64 i0, .int .i64 q0, .agg #[.int .i64 o0, .int .i64 y0, .int .i64 z0]] w (Gives ⟨1, 100 + (1 + Psp.within c0 4) - 1, 0, 0, 0, 0, [rqR (1 + Psp.within c0 4) (1 + Psp.within q0 16) (Psp.within y0 64) (Psp.within z0 1000)], [], [], []⟩ w) := by
  obtain ⟨f1, hf1⟩ : ∃ x, Psp.within f0 4 = x := ⟨_, rfl⟩
  have f1a : 0 ≤ f1 := by rw [← hf1]; exact Psp.within_lo _ _
  have f1b : f1 < 4 := by rw [← hf1]; exact Psp.within_hi _ _ (by omega)
  obtain ⟨c1, hc1⟩ : ∃ x, Psp.within c0 4 = x := ⟨_, rfl⟩
  have c1a : 0 ≤ c1 := by rw [← hc1]; exact Psp.within_lo _ _
  have c1b : c1 < 4 := by rw [← hc1]; exact Psp.within_hi _ _ (by omega)
  obtain ⟨v1, hv1⟩ : ∃ x, Psp.within v0 12 = x := ⟨_, rfl⟩
  have v1a : 0 ≤ v1 := by rw [← hv1]; exact Psp.within_lo _ _
  have v1b : v1 < 12 := by rw [← hv1]; exact Psp.within_hi _ _ (by omega)
  obtain ⟨i1, hi1⟩ : ∃ x, Psp.within i0 (1 + f1 + 1) = x := ⟨_, rfl⟩
  have i1a : 0 ≤ i1 := by rw [← hi1]; exact Psp.within_lo _ _
  have i1b : i1 < 1 + f1 + 1 := by rw [← hi1]; exact Psp.within_hi _ _ (by omega)
  obtain ⟨q1, hq1⟩ : ∃ x, Psp.within q0 16 = x := ⟨_, rfl⟩
  have q1a : 0 ≤ q1 := by rw [← hq1]; exact Psp.within_lo _ _
  have q1b : q1 < 16 := by rw [← hq1]; exact Psp.within_hi _ _ (by omega)
  go_enter Try.func27, Try.ntmps27
  go_wp2_with (go_at_call 17; refine (within_i64 _ _ _ (by first | assumption | exact ⟨by omega, by omega⟩) (by exact ⟨by omega, by omega⟩)).mono ?_; rintro e w' ⟨rfl, rfl⟩)
  obtain ⟨y1, hy1⟩ : ∃ x, Psp.within y0 64 = x := ⟨_, rfl⟩
  obtain ⟨z1, hz1⟩ : ∃ x, Psp.within z0 1000 = x := ⟨_, rfl⟩
  have hs2 : ((w.alloc (.cells #[.int .i64 o0, .int .i64 y0, .int .i64 z0] 47)).alloc (.cells zs 27)).heap.size = w.heap.size + 2 := by simp
  have hc2 := obj_below (heap_alloc_new w (.cells #[.int .i64 o0, .int .i64 y0, .int .i64 z0] 47)) (alloc_below _ (.cells zs 27)) (Nat.le_refl _)
  have hr2 : ((w.alloc (.cells #[.int .i64 o0, .int .i64 y0, .int .i64 z0] 47)).alloc (.cells zs 27)).heap[w.heap.size + 1]? = some (.cells zs 27 (0, 0)) := by have h := heap_alloc_new (w.alloc (.cells #[.int .i64 o0, .int .i64 y0, .int .i64 z0] 47)) (.cells zs 27); simpa using h
  have hb2 : Below w.heap.size w ((w.alloc (.cells #[.int .i64 o0, .int .i64 y0, .int .i64 z0] 47)).alloc (.cells zs 27)) := (alloc_below w _).trans ((alloc_below _ _).mono (by simp))
  obtain ⟨W2, hW2⟩ : ∃ W, (w.alloc (.cells #[.int .i64 o0, .int .i64 y0, .int .i64 z0] 47)).alloc (.cells zs 27) = W := ⟨_, rfl⟩
  rw [show (w.alloc (.cells #[.int .i64 o0, .int .i64 y0, .int .i64 z0] 47)).alloc (.cells #[.int .i64 0, .int .i64 0, .int .i64 0, .int .i64 0, .int .i64 0, .int .i64 0, .slice none 0 0, .slice none 0 0, .slice none 0 0, .slice none 0 0] 27) = W2 from hW2]
  rw [hW2] at hs2 hc2 hr2 hb2
  replace hs2 : w.heap.size + 2 ≤ W2.heap.size := by omega
  have HC2 := Lib.hid hc2
  have HR2 := Lib.hid hr2
  have HB2 := Lib.hid hb2
  have x1 : W2.cell? ⟨w.heap.size, 1, none⟩ = some (.int .i64 y0) := by rw [cell_of_row W2 _ 1 _ _ _ hc2]; rfl
  have x2 : W2.cell? ⟨w.heap.size, 2, none⟩ = some (.int .i64 z0) := by rw [cell_of_row W2 _ 2 _ _ _ hc2]; rfl
  clear hW2 hc2 hr2 hb2
  have hst := And.intro x1 x2
  have hwr : IntKind.i64.wrap (1 + c1 - 1) = c1 := (IntWalk.i64_in _ (by omega)).trans (by omega)
  apply wp_join (W0 := (W2.alloc (.cells #[.int .i64 c1, .int .i64 (1 + q1), .int .i64 1, .int .i64 y1, .int .i64 z1, .int .i64 0] 50)).drew)
  case h =>
   go_region_held3 (fun w' => w'.cell? ⟨w.heap.size, 1, none⟩ = some (.int .i64 y0) ∧ w'.cell? ⟨w.heap.size, 2, none⟩ = some (.int .i64 z0))
    (first | assumption | go_keep | (go_split_ands; exact ⟨by assumption, by assumption⟩) | (go_split_ands; exact ⟨((alloc_below W2 _).cell (p := ⟨w.heap.size, 1, none⟩) (by show w.heap.size < W2.heap.size; omega)).trans x1, ((alloc_below W2 _).cell (p := ⟨w.heap.size, 2, none⟩) (by show w.heap.size < W2.heap.size; omega)).trans x2⟩))
    (first | (go_at_call 17; refine (within_i64 _ _ _ (by first | assumption | exact ⟨by omega, by omega⟩) (by exact ⟨by omega, by omega⟩)).mono ?_; rintro e w' ⟨rfl, rfl⟩))
   all_goals exact ⟨rfl, rfl⟩
  have hb3 : Below W2.heap.size W2 ((W2.alloc (.cells #[.int .i64 c1, .int .i64 (1 + q1), .int .i64 1, .int .i64 y1, .int .i64 z1, .int .i64 0] 50)).drew) := (alloc_below W2 _).drew
  have hq3 : ((W2.alloc (.cells #[.int .i64 c1, .int .i64 (1 + q1), .int .i64 1, .int .i64 y1, .int .i64 z1, .int .i64 0] 50)).drew).heap[W2.heap.size]? = some (.cells #[.int .i64 c1, .int .i64 (1 + q1), .int .i64 1, .int .i64 y1, .int .i64 z1, .int .i64 0] 50 (0, 0)) := heap_alloc_new W2 _
  obtain ⟨W3, hW3⟩ : ∃ W, (W2.alloc (.cells #[.int .i64 c1, .int .i64 (1 + q1), .int .i64 1, .int .i64 y1, .int .i64 z1, .int .i64 0] 50)).drew = W := ⟨_, rfl⟩
  rw [hW3] at hb3 hq3 ⊢
  clear hW3 hst x1 x2 hwr
  have HB3 := Lib.hid (Below.then HB2.out hb3 HB2.out.size)
  have HC3 := Lib.hid (obj_below HC2.out hb3 (Nat.le_refl _))
  have HR3 := Lib.hid (obj_below HR2.out hb3 (Nat.le_refl _))
  have HQ3 := Lib.hid hq3
  clear hb3 hq3 HB2 HC2 HR2
  obtain ⟨pr, hpr⟩ : ∃ x, Psp.primary (1 + f1) v1 i1 = x := ⟨_, rfl⟩
  have HPr : Hid (∀ W : World, Calls Try.prog 69 #[.int .i64 (1 + f1), .int .i64 v1, .int .i64 i1] W fun e w' => e = .returned (.int .i64 pr) ∧ W = w') := Lib.hid fun W => by rw [← hpr]; exact r_primary_any (1 + f1) v1 i1 W (by omega) (by omega) (by omega) (by omega)
  have HE : Hid ((⟨1, 100 + (1 + Psp.within c0 4) - 1, 0, 0, 0, 0, [rqR (1 + Psp.within c0 4) (1 + Psp.within q0 16) (Psp.within y0 64) (Psp.within z0 1000)], [], [], []⟩ : Psp.Msg) = ⟨1, 100 + (1 + c1) - 1, 0, 0, 0, 0, [⟨c1, 1 + q1, 1, y1, z1, 0⟩], [], [], []⟩) := Lib.hid (by simp only [hf1, hv1, hi1, hpr, hc1, hq1, hy1, hz1, rqR]; try rw [show 1 + c1 - 1 = c1 by omega])
  have hq9 : q ≤ 9 := by omega
  have hqpos : 1 ≤ q := by omega
  have Hqq : Hid (Psp.quorum (1 + f1) = (q : Int)) := Lib.hid (by unfold Psp.quorum; rw [if_pos ⟨by omega, by omega⟩, hqq, hf1])
  clear hf1 hc1 hv1 hi1 hq1 hy1 hz1 hpr hqq
  go_upto_region 5 with (first | (go_at_call 17; refine (within_i64 _ _ _ (by first | assumption | exact ⟨by omega, by omega⟩) (by exact ⟨by omega, by omega⟩)).mono ?_; rintro e w' ⟨rfl, rfl⟩) | (go_at_call 69; refine (HPr.out _).mono ?_; rintro e w' ⟨rfl, rfl⟩))
  have hb4 := alloc_below W3 (.cells #[.int .i64 1, .int .i64 pr, .int .i64 0, .int .i64 0, .int .i64 0, .int .i64 0, .slice none 0 0, .slice none 0 0, .slice none 0 0, .slice none 0 0] 27)
  have hm4 := heap_alloc_new W3 (.cells #[.int .i64 1, .int .i64 pr, .int .i64 0, .int .i64 0, .int .i64 0, .int .i64 0, .slice none 0 0, .slice none 0 0, .slice none 0 0, .slice none 0 0] 27)
  obtain ⟨W4, hW4⟩ : ∃ W, W3.alloc (.cells #[.int .i64 1, .int .i64 pr, .int .i64 0, .int .i64 0, .int .i64 0, .int .i64 0, .slice none 0 0, .slice none 0 0, .slice none 0 0, .slice none 0 0] 27) = W := ⟨_, rfl⟩
  rw [hW4] at hb4 hm4 ⊢
  clear hW4
  have HB4 := Lib.hid (Below.then HB3.out hb4 HB3.out.size)
  have HQ4 := Lib.hid (obj_below HQ3.out hb4 (Nat.le_refl _))
  have HR4 := Lib.hid (obj_below HR3.out hb4 (Nat.le_refl _))
  have HM4 := Lib.hid hm4
  have hr3 := (Array.getElem?_eq_some_iff.1 HR3.out).1
  have hq2 := (Array.getElem?_eq_some_iff.1 HQ3.out).1
  have hm4l := (Array.getElem?_eq_some_iff.1 hm4).1
  have HRB := Lib.hid (show Rb w W4 W3.heap.size #[.int .i64 1, .int .i64 pr, .int .i64 0, .int .i64 0, .int .i64 0, .int .i64 0, .slice none 0 0, .slice none 0 0, .slice none 0 0, .slice none 0 0] from ⟨hm4, HR4.out, HB4.out, hr3⟩)
  clear hb4 hm4 HB3 HC3 HR3 HM4 HR4
  have x0 : W4.cell? ⟨W3.heap.size, 0, none⟩ = some (.int .i64 1) := (by rw [cell_of_row W4 _ 0 _ _ _ HRB.out.box]; rfl)
  have x1 : W4.cell? ⟨W3.heap.size, 1, none⟩ = some (.int .i64 pr) := (by rw [cell_of_row W4 _ 1 _ _ _ HRB.out.box]; rfl)
  have fz1 := frozen_of_row W4 _ 1 _ _ HRB.out.box
  have x6 : W4.cell? ⟨W3.heap.size, 6, none⟩ = some (.slice none 0 0) := (by rw [cell_of_row W4 _ 6 _ _ _ HRB.out.box]; rfl)
  have fz6 := frozen_of_row W4 _ 6 _ _ HRB.out.box
  have g0 : W4.cell? ⟨W2.heap.size, 0, none⟩ = some (.int .i64 c1) := (by rw [cell_of_row W4 _ 0 _ _ _ HQ4.out]; rfl)
  have g1 : W4.cell? ⟨W2.heap.size, 1, none⟩ = some (.int .i64 (1 + q1)) := (by rw [cell_of_row W4 _ 1 _ _ _ HQ4.out]; rfl)
  have g2 : W4.cell? ⟨W2.heap.size, 2, none⟩ = some (.int .i64 1) := (by rw [cell_of_row W4 _ 2 _ _ _ HQ4.out]; rfl)
  have g3 : W4.cell? ⟨W2.heap.size, 3, none⟩ = some (.int .i64 y1) := (by rw [cell_of_row W4 _ 3 _ _ _ HQ4.out]; rfl)
  have g4 : W4.cell? ⟨W2.heap.size, 4, none⟩ = some (.int .i64 z1) := (by rw [cell_of_row W4 _ 4 _ _ _ HQ4.out]; rfl)
  have g5 : W4.cell? ⟨W2.heap.size, 5, none⟩ = some (.int .i64 0) := (by rw [cell_of_row W4 _ 5 _ _ _ HQ4.out]; rfl)
  have hq4 : W2.heap.size < W4.heap.size := by omega
  go_wp2_with fail
  go_region
  clear x0 x1 fz1 x6 fz6 g0 g1 g2 g3 g4 g5
  have hss : ((W4.setCell ⟨W3.heap.size, 1, none⟩ (.int .i64 (100 + (1 + c1) - 1))).setCell ⟨W3.heap.size, 6, none⟩ (.slice (some ⟨W4.heap.size, 0, none⟩) 1 1)).heap.size = W4.heap.size := by simp [World.setCell]
  have hra := ((HRB.out.set 1 (.int .i64 (100 + (1 + c1) - 1))).set 6 (.slice (some ⟨W4.heap.size, 0, none⟩) 1 1))
  obtain ⟨Wa, hWa⟩ : ∃ W, ((W4.setCell ⟨W3.heap.size, 1, none⟩ (.int .i64 (100 + (1 + c1) - 1))).setCell ⟨W3.heap.size, 6, none⟩ (.slice (some ⟨W4.heap.size, 0, none⟩) 1 1)) = W := ⟨_, rfl⟩
  rw [hWa] at hss hra ⊢
  have hla := lies_new Wa [.int .i64 c1, .int .i64 (1 + q1), .int .i64 1, .int .i64 y1, .int .i64 z1, .int .i64 0] 50 _ hss
  have hsa : (Wa.alloc (.cells #[.int .i64 c1, .int .i64 (1 + q1), .int .i64 1, .int .i64 y1, .int .i64 z1, .int .i64 0] 50)).heap.size = Wa.heap.size + 1 := by simp
  have hrq : RdR (Wa.alloc (.cells #[.int .i64 c1, .int .i64 (1 + q1), .int .i64 1, .int .i64 y1, .int .i64 z1, .int .i64 0] 50)).drew (fun b => w.heap.size + 1 < b) (.slice (some ⟨W4.heap.size, 0, none⟩) 1 1) [⟨c1, 1 + q1, 1, y1, z1, 0⟩] := ⟨rfl, _, 1, rfl, Nat.le_refl _, by unfold maxLen; omega, fun _ => ⟨W4.heap.size, 0, rfl, by show w.heap.size + 1 < W4.heap.size; omega, by show W4.heap.size < (Wa.alloc (.cells #[.int .i64 c1, .int .i64 (1 + q1), .int .i64 1, .int .i64 y1, .int .i64 z1, .int .i64 0] 50)).heap.size; rw [hsa]; omega, hla⟩⟩
  have hob : (Wa.alloc (.cells #[.int .i64 c1, .int .i64 (1 + q1), .int .i64 1, .int .i64 y1, .int .i64 z1, .int .i64 0] 50)).drew.heap[W4.heap.size]? = some (.cells #[.int .i64 c1, .int .i64 (1 + q1), .int .i64 1, .int .i64 y1, .int .i64 z1, .int .i64 0] 50 (0, 0)) := by have h := heap_alloc_new Wa (.cells #[.int .i64 c1, .int .i64 (1 + q1), .int .i64 1, .int .i64 y1, .int .i64 z1, .int .i64 0] 50); rw [hss] at h; exact h
  have HRB5' := Lib.hid (show Rb w (Wa.alloc (.cells #[.int .i64 c1, .int .i64 (1 + q1), .int .i64 1, .int .i64 y1, .int .i64 z1, .int .i64 0] 50)).drew W3.heap.size #[.int .i64 1, .int .i64 (100 + (1 + c1) - 1), .int .i64 0, .int .i64 0, .int .i64 0, .int .i64 0, .slice (some ⟨W4.heap.size, 0, none⟩) 1 1, .slice none 0 0, .slice none 0 0, .slice none 0 0] from (Rb.alloc hra (.cells #[.int .i64 c1, .int .i64 (1 + q1), .int .i64 1, .int .i64 y1, .int .i64 z1, .int .i64 0] 50)).drew)
  have HMO' := Lib.hid (show MsgOk (Wa.alloc (.cells #[.int .i64 c1, .int .i64 (1 + q1), .int .i64 1, .int .i64 y1, .int .i64 z1, .int .i64 0] 50)).drew (fun b => w.heap.size + 1 < b) ⟨⟨1, 100 + (1 + c1) - 1, 0, 0, 0, 0, [⟨c1, 1 + q1, 1, y1, z1, 0⟩], [], [], []⟩, (.slice (some ⟨W4.heap.size, 0, none⟩) 1 1), .slice none 0 0, .slice none 0 0, .slice none 0 0⟩ from ⟨hrq, RdP.none_, RdC.nil, RdA.nil⟩)
  obtain ⟨W5, hW5⟩ : ∃ W, (Wa.alloc (.cells #[.int .i64 c1, .int .i64 (1 + q1), .int .i64 1, .int .i64 y1, .int .i64 z1, .int .i64 0] 50)).drew = W := ⟨_, rfl⟩
  rw [hW5] at HRB5' HMO' hob ⊢
  have HOb := Lib.hid hob
  have HRB5 := HRB5'
  have HMO := HMO'
  clear hW5 hWa HRB5' HMO' hla hsa hrq hra hss hob
  have hm5 := HRB5.out.box
  obtain ⟨y0', y1', y2', y3', y4', y5', y6', y7', y8', y9'⟩ := box_cells hm5
  have Hth := Lib.hid (row_there HRB5.out.res)
  obtain ⟨s1, s2⟩ := row_store HRB5.out.res [.int .i64 1, .int .i64 (100 + (1 + c1) - 1), .int .i64 0, .int .i64 0, .int .i64 0, .int .i64 0, .slice (some ⟨W4.heap.size, 0, none⟩) 1 1, .slice none 0 0, .slice none 0 0, .slice none 0 0] rfl
  have T1 := Lib.hid s1
  have T3 := Lib.hid (below_setCells HRB5.out.be (w.heap.size + 1) (by omega) [.int .i64 1, .int .i64 (100 + (1 + c1) - 1), .int .i64 0, .int .i64 0, .int .i64 0, .int .i64 0, .slice (some ⟨W4.heap.size, 0, none⟩) 1 1, .slice none 0 0, .slice none 0 0, .slice none 0 0])
  have HRf := Lib.hid (HMO.out.keeps (P' := fun b => w.heap.size ≤ b) (w' := W5.setCells (w.heap.size + 1) 0 [.int .i64 1, .int .i64 (100 + (1 + c1) - 1), .int .i64 0, .int .i64 0, .int .i64 0, .int .i64 0, .slice (some ⟨W4.heap.size, 0, none⟩) 1 1, .slice none 0 0, .slice none 0 0, .slice none 0 0]) ⟨by rw [setCells_size]; exact Nat.le_refl _, fun b (hb : w.heap.size + 1 < b) hlt => ⟨s2 b (by omega), by omega⟩⟩)
  have HOw' := Lib.hid (show (W5.setCells (w.heap.size + 1) 0 [.int .i64 1, .int .i64 (100 + (1 + c1) - 1), .int .i64 0, .int .i64 0, .int .i64 0, .int .i64 0, .slice (some ⟨W4.heap.size, 0, none⟩) 1 1, .slice none 0 0, .slice none 0 0, .slice none 0 0]).ownsRow w.heap.size 50 6 (.slice (some ⟨W4.heap.size, 0, none⟩) 1 1) 1 (rq ⟨c1, 1 + q1, 1, y1, z1, 0⟩) from own_lit1 ((s2 W4.heap.size (by omega)).trans HOb.out) rfl (by omega))
  clear s1 s2 hm5
  go_wp2_with (first | (refine wpList_store_mid rfl 27 (.tmp 14) (.tmp 142) rfl (w.heap.size + 1) 0 #[.int .i64 1, .int .i64 (100 + (1 + c1) - 1), .int .i64 0, .int .i64 0, .int .i64 0, .int .i64 0, .slice (some ⟨W4.heap.size, 0, none⟩) 1 1, .slice none 0 0, .slice none 0 0, .slice none 0 0] rfl rfl Hth.out sizeM (by simp [Value.oneCell']) ?_))
  refine bodyPost_ret (v := .agg #[.int .i64 1, .int .i64 (100 + (1 + c1) - 1), .int .i64 0, .int .i64 0, .int .i64 0, .int .i64 0, .slice (some ⟨W4.heap.size, 0, none⟩) 1 1, .slice none 0 0, .slice none 0 0, .slice none 0 0]) ?_ rfl ?_
  · exact results_cell_row Try.results27 _ _ (w.heap.size + 1) _ _ _ _ rfl T1.out Try.underlying27 rfl sizeM
  · have hE := HE.out
    rw [hE]
    exact ⟨(some ⟨W4.heap.size, 0, none⟩), none, none, none, 1, 0, 0, 0, rfl, HRf.out, T3.out, owns_req HOw'.out⟩
end Go.Proofs.Ytljfoajhobambaa

end

section
/- psephoslaw06.right, kind 3. Printed by gen_rt2.py. -/
namespace Go.Proofs.Ytljfoajhobambaa
open Go.RowKit
set_option linter.unusedVariables false
set_option linter.unusedSimpArgs false

set_option maxRecDepth 100000 in
set_option maxHeartbeats 4000000 in
theorem right_3 (k0 f0 c0 v0 i0 q0 o0 y0 z0 : Int) (w : World) (hk : isI64 k0) (hf : isI64 f0) (hc : isI64 c0) (hv : isI64 v0) (hi : isI64 i0) (hq : isI64 q0) (hy : isI64 y0) (hz : isI64 z0) (q : Nat) (hqq : (q : Int) = 2 * (1 + Psp.within f0 4) + 1) (h6 : Psp.within k0 10 = 2) :
    Calls Try.prog 27 #[.int .i64 k0, .int .i64 f0, .int .i64 c0, .int .i64 v0, .int .i64 i0, .int .i64 q0, .agg #[.int .i64 o0, .int .i64 y0, .int .i64 z0]] w (Gives ⟨3, Psp.primary (1 + Psp.within f0 4) (Psp.within v0 12) (Psp.within i0 (1 + Psp.within f0 4 + 1)), Psp.within v0 12, Psp.within i0 (1 + Psp.within f0 4 + 1), 1 + Psp.within q0 16, 0, [rqR (1 + Psp.within c0 4) (1 + Psp.within q0 16) (Psp.within y0 64) (Psp.within z0 1000)], [], [], []⟩ w) := by
  obtain ⟨f1, hf1⟩ : ∃ x, Psp.within f0 4 = x := ⟨_, rfl⟩
  have f1a : 0 ≤ f1 := by rw [← hf1]; exact Psp.within_lo _ _
  have f1b : f1 < 4 := by rw [← hf1]; exact Psp.within_hi _ _ (by omega)
  obtain ⟨c1, hc1⟩ : ∃ x, Psp.within c0 4 = x := ⟨_, rfl⟩
  have c1a : 0 ≤ c1 := by rw [← hc1]; exact Psp.within_lo _ _
  have c1b : c1 < 4 := by rw [← hc1]; exact Psp.within_hi _ _ (by omega)
  obtain ⟨v1, hv1⟩ : ∃ x, Psp.within v0 12 = x := ⟨_, rfl⟩
  have v1a : 0 ≤ v1 := by rw [← hv1]; exact Psp.within_lo _ _
  have v1b : v1 < 12 := by rw [← hv1]; exact Psp.within_hi _ _ (by omega)
  obtain ⟨i1, hi1⟩ : ∃ x, Psp.within i0 (1 + f1 + 1) = x := ⟨_, rfl⟩
  have i1a : 0 ≤ i1 := by rw [← hi1]; exact Psp.within_lo _ _
  have i1b : i1 < 1 + f1 + 1 := by rw [← hi1]; exact Psp.within_hi _ _ (by omega)
  obtain ⟨q1, hq1⟩ : ∃ x, Psp.within q0 16 = x := ⟨_, rfl⟩
  have q1a : 0 ≤ q1 := by rw [← hq1]; exact Psp.within_lo _ _
  have q1b : q1 < 16 := by rw [← hq1]; exact Psp.within_hi _ _ (by omega)
  go_enter Try.func27, Try.ntmps27
  go_wp2_with (go_at_call 17; refine (within_i64 _ _ _ (by first | assumption | exact ⟨by omega, by omega⟩) (by exact ⟨by omega, by omega⟩)).mono ?_; rintro e w' ⟨rfl, rfl⟩)
  obtain ⟨y1, hy1⟩ : ∃ x, Psp.within y0 64 = x := ⟨_, rfl⟩
  obtain ⟨z1, hz1⟩ : ∃ x, Psp.within z0 1000 = x := ⟨_, rfl⟩
  have hs2 : ((w.alloc (.cells #[.int .i64 o0, .int .i64 y0, .int .i64 z0] 47)).alloc (.cells zs 27)).heap.size = w.heap.size + 2 := by simp
  have hc2 := obj_below (heap_alloc_new w (.cells #[.int .i64 o0, .int .i64 y0, .int .i64 z0] 47)) (alloc_below _ (.cells zs 27)) (Nat.le_refl _)
  have hr2 : ((w.alloc (.cells #[.int .i64 o0, .int .i64 y0, .int .i64 z0] 47)).alloc (.cells zs 27)).heap[w.heap.size + 1]? = some (.cells zs 27 (0, 0)) := by have h := heap_alloc_new (w.alloc (.cells #[.int .i64 o0, .int .i64 y0, .int .i64 z0] 47)) (.cells zs 27); simpa using h
  have hb2 : Below w.heap.size w ((w.alloc (.cells #[.int .i64 o0, .int .i64 y0, .int .i64 z0] 47)).alloc (.cells zs 27)) := (alloc_below w _).trans ((alloc_below _ _).mono (by simp))
  obtain ⟨W2, hW2⟩ : ∃ W, (w.alloc (.cells #[.int .i64 o0, .int .i64 y0, .int .i64 z0] 47)).alloc (.cells zs 27) = W := ⟨_, rfl⟩
  rw [show (w.alloc (.cells #[.int .i64 o0, .int .i64 y0, .int .i64 z0] 47)).alloc (.cells #[.int .i64 0, .int .i64 0, .int .i64 0, .int .i64 0, .int .i64 0, .int .i64 0, .slice none 0 0, .slice none 0 0, .slice none 0 0, .slice none 0 0] 27) = W2 from hW2]
  rw [hW2] at hs2 hc2 hr2 hb2
  replace hs2 : w.heap.size + 2 ≤ W2.heap.size := by omega
  have HC2 := Lib.hid hc2
  have HR2 := Lib.hid hr2
  have HB2 := Lib.hid hb2
  have x1 : W2.cell? ⟨w.heap.size, 1, none⟩ = some (.int .i64 y0) := by rw [cell_of_row W2 _ 1 _ _ _ hc2]; rfl
  have x2 : W2.cell? ⟨w.heap.size, 2, none⟩ = some (.int .i64 z0) := by rw [cell_of_row W2 _ 2 _ _ _ hc2]; rfl
  clear hW2 hc2 hr2 hb2
  have hst := And.intro x1 x2
  have hwr : IntKind.i64.wrap (1 + c1 - 1) = c1 := (IntWalk.i64_in _ (by omega)).trans (by omega)
  apply wp_join (W0 := (W2.alloc (.cells #[.int .i64 c1, .int .i64 (1 + q1), .int .i64 1, .int .i64 y1, .int .i64 z1, .int .i64 0] 50)).drew)
  case h =>
   go_region_held3 (fun w' => w'.cell? ⟨w.heap.size, 1, none⟩ = some (.int .i64 y0) ∧ w'.cell? ⟨w.heap.size, 2, none⟩ = some (.int .i64 z0))
    (first | assumption | go_keep | (go_split_ands; exact ⟨by assumption, by assumption⟩) | (go_split_ands; exact ⟨((alloc_below W2 _).cell (p := ⟨w.heap.size, 1, none⟩) (by show w.heap.size < W2.heap.size; omega)).trans x1, ((alloc_below W2 _).cell (p := ⟨w.heap.size, 2, none⟩) (by show w.heap.size < W2.heap.size; omega)).trans x2⟩))
    (first | (go_at_call 17; refine (within_i64 _ _ _ (by first | assumption | exact ⟨by omega, by omega⟩) (by exact ⟨by omega, by omega⟩)).mono ?_; rintro e w' ⟨rfl, rfl⟩))
   all_goals exact ⟨rfl, rfl⟩
  have hb3 : Below W2.heap.size W2 ((W2.alloc (.cells #[.int .i64 c1, .int .i64 (1 + q1), .int .i64 1, .int .i64 y1, .int .i64 z1, .int .i64 0] 50)).drew) := (alloc_below W2 _).drew
  have hq3 : ((W2.alloc (.cells #[.int .i64 c1, .int .i64 (1 + q1), .int .i64 1, .int .i64 y1, .int .i64 z1, .int .i64 0] 50)).drew).heap[W2.heap.size]? = some (.cells #[.int .i64 c1, .int .i64 (1 + q1), .int .i64 1, .int .i64 y1, .int .i64 z1, .int .i64 0] 50 (0, 0)) := heap_alloc_new W2 _
  obtain ⟨W3, hW3⟩ : ∃ W, (W2.alloc (.cells #[.int .i64 c1, .int .i64 (1 + q1), .int .i64 1, .int .i64 y1, .int .i64 z1, .int .i64 0] 50)).drew = W := ⟨_, rfl⟩
  rw [hW3] at hb3 hq3 ⊢
  clear hW3 hst x1 x2 hwr
  have HB3 := Lib.hid (Below.then HB2.out hb3 HB2.out.size)
  have HC3 := Lib.hid (obj_below HC2.out hb3 (Nat.le_refl _))
  have HR3 := Lib.hid (obj_below HR2.out hb3 (Nat.le_refl _))
  have HQ3 := Lib.hid hq3
  clear hb3 hq3 HB2 HC2 HR2
  obtain ⟨pr, hpr⟩ : ∃ x, Psp.primary (1 + f1) v1 i1 = x := ⟨_, rfl⟩
  have HPr : Hid (∀ W : World, Calls Try.prog 69 #[.int .i64 (1 + f1), .int .i64 v1, .int .i64 i1] W fun e w' => e = .returned (.int .i64 pr) ∧ W = w') := Lib.hid fun W => by rw [← hpr]; exact r_primary_any (1 + f1) v1 i1 W (by omega) (by omega) (by omega) (by omega)
  have HE : Hid ((⟨3, Psp.primary (1 + Psp.within f0 4) (Psp.within v0 12) (Psp.within i0 (1 + Psp.within f0 4 + 1)), Psp.within v0 12, Psp.within i0 (1 + Psp.within f0 4 + 1), 1 + Psp.within q0 16, 0, [rqR (1 + Psp.within c0 4) (1 + Psp.within q0 16) (Psp.within y0 64) (Psp.within z0 1000)], [], [], []⟩ : Psp.Msg) = ⟨3, pr, v1, i1, 1 + q1, 0, [⟨c1, 1 + q1, 1, y1, z1, 0⟩], [], [], []⟩) := Lib.hid (by simp only [hf1, hv1, hi1, hpr, hc1, hq1, hy1, hz1, rqR]; try rw [show 1 + c1 - 1 = c1 by omega])
  have hq9 : q ≤ 9 := by omega
  have hqpos : 1 ≤ q := by omega
  have Hqq : Hid (Psp.quorum (1 + f1) = (q : Int)) := Lib.hid (by unfold Psp.quorum; rw [if_pos ⟨by omega, by omega⟩, hqq, hf1])
  clear hf1 hc1 hv1 hi1 hq1 hy1 hz1 hpr hqq
  go_upto_region 5 with (first | (go_at_call 17; refine (within_i64 _ _ _ (by first | assumption | exact ⟨by omega, by omega⟩) (by exact ⟨by omega, by omega⟩)).mono ?_; rintro e w' ⟨rfl, rfl⟩) | (go_at_call 69; refine (HPr.out _).mono ?_; rintro e w' ⟨rfl, rfl⟩))
  have hb4 := alloc_below W3 (.cells #[.int .i64 3, .int .i64 pr, .int .i64 0, .int .i64 0, .int .i64 0, .int .i64 0, .slice none 0 0, .slice none 0 0, .slice none 0 0, .slice none 0 0] 27)
  have hm4 := heap_alloc_new W3 (.cells #[.int .i64 3, .int .i64 pr, .int .i64 0, .int .i64 0, .int .i64 0, .int .i64 0, .slice none 0 0, .slice none 0 0, .slice none 0 0, .slice none 0 0] 27)
  obtain ⟨W4, hW4⟩ : ∃ W, W3.alloc (.cells #[.int .i64 3, .int .i64 pr, .int .i64 0, .int .i64 0, .int .i64 0, .int .i64 0, .slice none 0 0, .slice none 0 0, .slice none 0 0, .slice none 0 0] 27) = W := ⟨_, rfl⟩
  rw [hW4] at hb4 hm4 ⊢
  clear hW4
  have HB4 := Lib.hid (Below.then HB3.out hb4 HB3.out.size)
  have HQ4 := Lib.hid (obj_below HQ3.out hb4 (Nat.le_refl _))
  have HR4 := Lib.hid (obj_below HR3.out hb4 (Nat.le_refl _))
  have HM4 := Lib.hid hm4
  have hr3 := (Array.getElem?_eq_some_iff.1 HR3.out).1
  have hq2 := (Array.getElem?_eq_some_iff.1 HQ3.out).1
  have hm4l := (Array.getElem?_eq_some_iff.1 hm4).1
  have HRB := Lib.hid (show Rb w W4 W3.heap.size #[.int .i64 3, .int .i64 pr, .int .i64 0, .int .i64 0, .int .i64 0, .int .i64 0, .slice none 0 0, .slice none 0 0, .slice none 0 0, .slice none 0 0] from ⟨hm4, HR4.out, HB4.out, hr3⟩)
  clear hb4 hm4 HB3 HC3 HR3 HM4 HR4
  have x0 : W4.cell? ⟨W3.heap.size, 0, none⟩ = some (.int .i64 3) := (by rw [cell_of_row W4 _ 0 _ _ _ HRB.out.box]; rfl)
  have x2 : W4.cell? ⟨W3.heap.size, 2, none⟩ = some (.int .i64 0) := (by rw [cell_of_row W4 _ 2 _ _ _ HRB.out.box]; rfl)
  have fz2 := frozen_of_row W4 _ 2 _ _ HRB.out.box
  have x3 : W4.cell? ⟨W3.heap.size, 3, none⟩ = some (.int .i64 0) := (by rw [cell_of_row W4 _ 3 _ _ _ HRB.out.box]; rfl)
  have fz3 := frozen_of_row W4 _ 3 _ _ HRB.out.box
  have x4 : W4.cell? ⟨W3.heap.size, 4, none⟩ = some (.int .i64 0) := (by rw [cell_of_row W4 _ 4 _ _ _ HRB.out.box]; rfl)
  have fz4 := frozen_of_row W4 _ 4 _ _ HRB.out.box
  have x6 : W4.cell? ⟨W3.heap.size, 6, none⟩ = some (.slice none 0 0) := (by rw [cell_of_row W4 _ 6 _ _ _ HRB.out.box]; rfl)
  have fz6 := frozen_of_row W4 _ 6 _ _ HRB.out.box
  have g0 : W4.cell? ⟨W2.heap.size, 0, none⟩ = some (.int .i64 c1) := (by rw [cell_of_row W4 _ 0 _ _ _ HQ4.out]; rfl)
  have g1 : W4.cell? ⟨W2.heap.size, 1, none⟩ = some (.int .i64 (1 + q1)) := (by rw [cell_of_row W4 _ 1 _ _ _ HQ4.out]; rfl)
  have g2 : W4.cell? ⟨W2.heap.size, 2, none⟩ = some (.int .i64 1) := (by rw [cell_of_row W4 _ 2 _ _ _ HQ4.out]; rfl)
  have g3 : W4.cell? ⟨W2.heap.size, 3, none⟩ = some (.int .i64 y1) := (by rw [cell_of_row W4 _ 3 _ _ _ HQ4.out]; rfl)
  have g4 : W4.cell? ⟨W2.heap.size, 4, none⟩ = some (.int .i64 z1) := (by rw [cell_of_row W4 _ 4 _ _ _ HQ4.out]; rfl)
  have g5 : W4.cell? ⟨W2.heap.size, 5, none⟩ = some (.int .i64 0) := (by rw [cell_of_row W4 _ 5 _ _ _ HQ4.out]; rfl)
  have hq4 : W2.heap.size < W4.heap.size := by omega
  go_wp2_with fail
  go_region
  clear x0 x2 fz2 x3 fz3 x4 fz4 x6 fz6 g0 g1 g2 g3 g4 g5
  have hss : ((((W4.setCell ⟨W3.heap.size, 2, none⟩ (.int .i64 v1)).setCell ⟨W3.heap.size, 3, none⟩ (.int .i64 i1)).setCell ⟨W3.heap.size, 4, none⟩ (.int .i64 (1 + q1))).setCell ⟨W3.heap.size, 6, none⟩ (.slice (some ⟨W4.heap.size, 0, none⟩) 1 1)).heap.size = W4.heap.size := by simp [World.setCell]
  have hra := ((((HRB.out.set 2 (.int .i64 v1)).set 3 (.int .i64 i1)).set 4 (.int .i64 (1 + q1))).set 6 (.slice (some ⟨W4.heap.size, 0, none⟩) 1 1))
  obtain ⟨Wa, hWa⟩ : ∃ W, ((((W4.setCell ⟨W3.heap.size, 2, none⟩ (.int .i64 v1)).setCell ⟨W3.heap.size, 3, none⟩ (.int .i64 i1)).setCell ⟨W3.heap.size, 4, none⟩ (.int .i64 (1 + q1))).setCell ⟨W3.heap.size, 6, none⟩ (.slice (some ⟨W4.heap.size, 0, none⟩) 1 1)) = W := ⟨_, rfl⟩
  rw [hWa] at hss hra ⊢
  have hla := lies_new Wa [.int .i64 c1, .int .i64 (1 + q1), .int .i64 1, .int .i64 y1, .int .i64 z1, .int .i64 0] 50 _ hss
  have hsa : (Wa.alloc (.cells #[.int .i64 c1, .int .i64 (1 + q1), .int .i64 1, .int .i64 y1, .int .i64 z1, .int .i64 0] 50)).heap.size = Wa.heap.size + 1 := by simp
  have hrq : RdR (Wa.alloc (.cells #[.int .i64 c1, .int .i64 (1 + q1), .int .i64 1, .int .i64 y1, .int .i64 z1, .int .i64 0] 50)).drew (fun b => w.heap.size + 1 < b) (.slice (some ⟨W4.heap.size, 0, none⟩) 1 1) [⟨c1, 1 + q1, 1, y1, z1, 0⟩] := ⟨rfl, _, 1, rfl, Nat.le_refl _, by unfold maxLen; omega, fun _ => ⟨W4.heap.size, 0, rfl, by show w.heap.size + 1 < W4.heap.size; omega, by show W4.heap.size < (Wa.alloc (.cells #[.int .i64 c1, .int .i64 (1 + q1), .int .i64 1, .int .i64 y1, .int .i64 z1, .int .i64 0] 50)).heap.size; rw [hsa]; omega, hla⟩⟩
  have hob : (Wa.alloc (.cells #[.int .i64 c1, .int .i64 (1 + q1), .int .i64 1, .int .i64 y1, .int .i64 z1, .int .i64 0] 50)).drew.heap[W4.heap.size]? = some (.cells #[.int .i64 c1, .int .i64 (1 + q1), .int .i64 1, .int .i64 y1, .int .i64 z1, .int .i64 0] 50 (0, 0)) := by have h := heap_alloc_new Wa (.cells #[.int .i64 c1, .int .i64 (1 + q1), .int .i64 1, .int .i64 y1, .int .i64 z1, .int .i64 0] 50); rw [hss] at h; exact h
  have HRB5' := Lib.hid (show Rb w (Wa.alloc (.cells #[.int .i64 c1, .int .i64 (1 + q1), .int .i64 1, .int .i64 y1, .int .i64 z1, .int .i64 0] 50)).drew W3.heap.size #[.int .i64 3, .int .i64 pr, .int .i64 v1, .int .i64 i1, .int .i64 (1 + q1), .int .i64 0, .slice (some ⟨W4.heap.size, 0, none⟩) 1 1, .slice none 0 0, .slice none 0 0, .slice none 0 0] from (Rb.alloc hra (.cells #[.int .i64 c1, .int .i64 (1 + q1), .int .i64 1, .int .i64 y1, .int .i64 z1, .int .i64 0] 50)).drew)
  have HMO' := Lib.hid (show MsgOk (Wa.alloc (.cells #[.int .i64 c1, .int .i64 (1 + q1), .int .i64 1, .int .i64 y1, .int .i64 z1, .int .i64 0] 50)).drew (fun b => w.heap.size + 1 < b) ⟨⟨3, pr, v1, i1, 1 + q1, 0, [⟨c1, 1 + q1, 1, y1, z1, 0⟩], [], [], []⟩, (.slice (some ⟨W4.heap.size, 0, none⟩) 1 1), .slice none 0 0, .slice none 0 0, .slice none 0 0⟩ from ⟨hrq, RdP.none_, RdC.nil, RdA.nil⟩)
  obtain ⟨W5, hW5⟩ : ∃ W, (Wa.alloc (.cells #[.int .i64 c1, .int .i64 (1 + q1), .int .i64 1, .int .i64 y1, .int .i64 z1, .int .i64 0] 50)).drew = W := ⟨_, rfl⟩
  rw [hW5] at HRB5' HMO' hob ⊢
  have HOb := Lib.hid hob
  have HRB5 := HRB5'
  have HMO := HMO'
  clear hW5 hWa HRB5' HMO' hla hsa hrq hra hss hob
  have hm5 := HRB5.out.box
  obtain ⟨y0', y1', y2', y3', y4', y5', y6', y7', y8', y9'⟩ := box_cells hm5
  have Hth := Lib.hid (row_there HRB5.out.res)
  obtain ⟨s1, s2⟩ := row_store HRB5.out.res [.int .i64 3, .int .i64 pr, .int .i64 v1, .int .i64 i1, .int .i64 (1 + q1), .int .i64 0, .slice (some ⟨W4.heap.size, 0, none⟩) 1 1, .slice none 0 0, .slice none 0 0, .slice none 0 0] rfl
  have T1 := Lib.hid s1
  have T3 := Lib.hid (below_setCells HRB5.out.be (w.heap.size + 1) (by omega) [.int .i64 3, .int .i64 pr, .int .i64 v1, .int .i64 i1, .int .i64 (1 + q1), .int .i64 0, .slice (some ⟨W4.heap.size, 0, none⟩) 1 1, .slice none 0 0, .slice none 0 0, .slice none 0 0])
  have HRf := Lib.hid (HMO.out.keeps (P' := fun b => w.heap.size ≤ b) (w' := W5.setCells (w.heap.size + 1) 0 [.int .i64 3, .int .i64 pr, .int .i64 v1, .int .i64 i1, .int .i64 (1 + q1), .int .i64 0, .slice (some ⟨W4.heap.size, 0, none⟩) 1 1, .slice none 0 0, .slice none 0 0, .slice none 0 0]) ⟨by rw [setCells_size]; exact Nat.le_refl _, fun b (hb : w.heap.size + 1 < b) hlt => ⟨s2 b (by omega), by omega⟩⟩)
  have HOw' := Lib.hid (show (W5.setCells (w.heap.size + 1) 0 [.int .i64 3, .int .i64 pr, .int .i64 v1, .int .i64 i1, .int .i64 (1 + q1), .int .i64 0, .slice (some ⟨W4.heap.size, 0, none⟩) 1 1, .slice none 0 0, .slice none 0 0, .slice none 0 0]).ownsRow w.heap.size 50 6 (.slice (some ⟨W4.heap.size, 0, none⟩) 1 1) 1 (rq ⟨c1, 1 + q1, 1, y1, z1, 0⟩) from own_lit1 ((s2 W4.heap.size (by omega)).trans HOb.out) rfl (by omega))
  clear s1 s2 hm5
  go_wp2_with (first | (refine wpList_store_mid rfl 27 (.tmp 14) (.tmp 142) rfl (w.heap.size + 1) 0 #[.int .i64 3, .int .i64 pr, .int .i64 v1, .int .i64 i1, .int .i64 (1 + q1), .int .i64 0, .slice (some ⟨W4.heap.size, 0, none⟩) 1 1, .slice none 0 0, .slice none 0 0, .slice none 0 0] rfl rfl Hth.out sizeM (by simp [Value.oneCell']) ?_))
  refine bodyPost_ret (v := .agg #[.int .i64 3, .int .i64 pr, .int .i64 v1, .int .i64 i1, .int .i64 (1 + q1), .int .i64 0, .slice (some ⟨W4.heap.size, 0, none⟩) 1 1, .slice none 0 0, .slice none 0 0, .slice none 0 0]) ?_ rfl ?_
  · exact results_cell_row Try.results27 _ _ (w.heap.size + 1) _ _ _ _ rfl T1.out Try.underlying27 rfl sizeM
  · have hE := HE.out
    rw [hE]
    exact ⟨(some ⟨W4.heap.size, 0, none⟩), none, none, none, 1, 0, 0, 0, rfl, HRf.out, T3.out, owns_req HOw'.out⟩
end Go.Proofs.Ytljfoajhobambaa

end

section
/- psephoslaw06.right, kind 4. Printed by gen_rt2.py. -/
namespace Go.Proofs.Ytljfoajhobambaa
open Go.RowKit
set_option linter.unusedVariables false
set_option linter.unusedSimpArgs false

set_option maxRecDepth 100000 in
set_option maxHeartbeats 4000000 in
theorem right_4 (k0 f0 c0 v0 i0 q0 o0 y0 z0 : Int) (w : World) (hk : isI64 k0) (hf : isI64 f0) (hc : isI64 c0) (hv : isI64 v0) (hi : isI64 i0) (hq : isI64 q0) (hy : isI64 y0) (hz : isI64 z0) (q : Nat) (hqq : (q : Int) = 2 * (1 + Psp.within f0 4) + 1) (h6 : Psp.within k0 10 = 3) :
    Calls Try.prog 27 #[.int .i64 k0, .int .i64 f0, .int .i64 c0, .int .i64 v0, .int .i64 i0, .int .i64 q0, .agg #[.int .i64 o0, .int .i64 y0, .int .i64 z0]] w (Gives ⟨4, Psp.primary (1 + Psp.within f0 4) (Psp.within v0 12) (Psp.within i0 (1 + Psp.within f0 4 + 1)), Psp.within v0 12, Psp.within i0 (1 + Psp.within f0 4 + 1), 1 + Psp.within q0 16, 0, [rqR (1 + Psp.within c0 4) (1 + Psp.within q0 16) (Psp.within y0 64) (Psp.within z0 1000)], [], [], []⟩ w) := by
  obtain ⟨f1, hf1⟩ : ∃ x, Psp.within f0 4 = x := ⟨_, rfl⟩
  have f1a : 0 ≤ f1 := by rw [← hf1]; exact Psp.within_lo _ _
  have f1b : f1 < 4 := by rw [← hf1]; exact Psp.within_hi _ _ (by omega)
  obtain ⟨c1, hc1⟩ : ∃ x, Psp.within c0 4 = x := ⟨_, rfl⟩
  have c1a : 0 ≤ c1 := by rw [← hc1]; exact Psp.within_lo _ _
  have c1b : c1 < 4 := by rw [← hc1]; exact Psp.within_hi _ _ (by omega)
  obtain ⟨v1, hv1⟩ : ∃ x, Psp.within v0 12 = x := ⟨_, rfl⟩
  have v1a : 0 ≤ v1 := by rw [← hv1]; exact Psp.within_lo _ _
  have v1b : v1 < 12 := by rw [← hv1]; exact Psp.within_hi _ _ (by omega)
  obtain ⟨i1, hi1⟩ : ∃ x, Psp.within i0 (1 + f1 + 1) = x := ⟨_, rfl⟩
  have i1a : 0 ≤ i1 := by rw [← hi1]; exact Psp.within_lo _ _
  have i1b : i1 < 1 + f1 + 1 := by rw [← hi1]; exact Psp.within_hi _ _ (by omega)
  obtain ⟨q1, hq1⟩ : ∃ x, Psp.within q0 16 = x := ⟨_, rfl⟩
  have q1a : 0 ≤ q1 := by rw [← hq1]; exact Psp.within_lo _ _
  have q1b : q1 < 16 := by rw [← hq1]; exact Psp.within_hi _ _ (by omega)
  go_enter Try.func27, Try.ntmps27
  go_wp2_with (go_at_call 17; refine (within_i64 _ _ _ (by first | assumption | exact ⟨by omega, by omega⟩) (by exact ⟨by omega, by omega⟩)).mono ?_; rintro e w' ⟨rfl, rfl⟩)
  obtain ⟨y1, hy1⟩ : ∃ x, Psp.within y0 64 = x := ⟨_, rfl⟩
  obtain ⟨z1, hz1⟩ : ∃ x, Psp.within z0 1000 = x := ⟨_, rfl⟩
  have hs2 : ((w.alloc (.cells #[.int .i64 o0, .int .i64 y0, .int .i64 z0] 47)).alloc (.cells zs 27)).heap.size = w.heap.size + 2 := by simp
  have hc2 := obj_below (heap_alloc_new w (.cells #[.int .i64 o0, .int .i64 y0, .int .i64 z0] 47)) (alloc_below _ (.cells zs 27)) (Nat.le_refl _)
  have hr2 : ((w.alloc (.cells #[.int .i64 o0, .int .i64 y0, .int .i64 z0] 47)).alloc (.cells zs 27)).heap[w.heap.size + 1]? = some (.cells zs 27 (0, 0)) := by have h := heap_alloc_new (w.alloc (.cells #[.int .i64 o0, .int .i64 y0, .int .i64 z0] 47)) (.cells zs 27); simpa using h
  have hb2 : Below w.heap.size w ((w.alloc (.cells #[.int .i64 o0, .int .i64 y0, .int .i64 z0] 47)).alloc (.cells zs 27)) := (alloc_below w _).trans ((alloc_below _ _).mono (by simp))
  obtain ⟨W2, hW2⟩ : ∃ W, (w.alloc (.cells #[.int .i64 o0, .int .i64 y0, .int .i64 z0] 47)).alloc (.cells zs 27) = W := ⟨_, rfl⟩
  rw [show (w.alloc (.cells #[.int .i64 o0, .int .i64 y0, .int .i64 z0] 47)).alloc (.cells #[.int .i64 0, .int .i64 0, .int .i64 0, .int .i64 0, .int .i64 0, .int .i64 0, .slice none 0 0, .slice none 0 0, .slice none 0 0, .slice none 0 0] 27) = W2 from hW2]
  rw [hW2] at hs2 hc2 hr2 hb2
  replace hs2 : w.heap.size + 2 ≤ W2.heap.size := by omega
  have HC2 := Lib.hid hc2
  have HR2 := Lib.hid hr2
  have HB2 := Lib.hid hb2
  have x1 : W2.cell? ⟨w.heap.size, 1, none⟩ = some (.int .i64 y0) := by rw [cell_of_row W2 _ 1 _ _ _ hc2]; rfl
  have x2 : W2.cell? ⟨w.heap.size, 2, none⟩ = some (.int .i64 z0) := by rw [cell_of_row W2 _ 2 _ _ _ hc2]; rfl
  clear hW2 hc2 hr2 hb2
  have hst := And.intro x1 x2
  have hwr : IntKind.i64.wrap (1 + c1 - 1) = c1 := (IntWalk.i64_in _ (by omega)).trans (by omega)
  apply wp_join (W0 := (W2.alloc (.cells #[.int .i64 c1, .int .i64 (1 + q1), .int .i64 1, .int .i64 y1, .int .i64 z1, .int .i64 0] 50)).drew)
  case h =>
   go_region_held3 (fun w' => w'.cell? ⟨w.heap.size, 1, none⟩ = some (.int .i64 y0) ∧ w'.cell? ⟨w.heap.size, 2, none⟩ = some (.int .i64 z0))
    (first | assumption | go_keep | (go_split_ands; exact ⟨by assumption, by assumption⟩) | (go_split_ands; exact ⟨((alloc_below W2 _).cell (p := ⟨w.heap.size, 1, none⟩) (by show w.heap.size < W2.heap.size; omega)).trans x1, ((alloc_below W2 _).cell (p := ⟨w.heap.size, 2, none⟩) (by show w.heap.size < W2.heap.size; omega)).trans x2⟩))
    (first | (go_at_call 17; refine (within_i64 _ _ _ (by first | assumption | exact ⟨by omega, by omega⟩) (by exact ⟨by omega, by omega⟩)).mono ?_; rintro e w' ⟨rfl, rfl⟩))
   all_goals exact ⟨rfl, rfl⟩
  have hb3 : Below W2.heap.size W2 ((W2.alloc (.cells #[.int .i64 c1, .int .i64 (1 + q1), .int .i64 1, .int .i64 y1, .int .i64 z1, .int .i64 0] 50)).drew) := (alloc_below W2 _).drew
  have hq3 : ((W2.alloc (.cells #[.int .i64 c1, .int .i64 (1 + q1), .int .i64 1, .int .i64 y1, .int .i64 z1, .int .i64 0] 50)).drew).heap[W2.heap.size]? = some (.cells #[.int .i64 c1, .int .i64 (1 + q1), .int .i64 1, .int .i64 y1, .int .i64 z1, .int .i64 0] 50 (0, 0)) := heap_alloc_new W2 _
  obtain ⟨W3, hW3⟩ : ∃ W, (W2.alloc (.cells #[.int .i64 c1, .int .i64 (1 + q1), .int .i64 1, .int .i64 y1, .int .i64 z1, .int .i64 0] 50)).drew = W := ⟨_, rfl⟩
  rw [hW3] at hb3 hq3 ⊢
  clear hW3 hst x1 x2 hwr
  have HB3 := Lib.hid (Below.then HB2.out hb3 HB2.out.size)
  have HC3 := Lib.hid (obj_below HC2.out hb3 (Nat.le_refl _))
  have HR3 := Lib.hid (obj_below HR2.out hb3 (Nat.le_refl _))
  have HQ3 := Lib.hid hq3
  clear hb3 hq3 HB2 HC2 HR2
  obtain ⟨pr, hpr⟩ : ∃ x, Psp.primary (1 + f1) v1 i1 = x := ⟨_, rfl⟩
  have HPr : Hid (∀ W : World, Calls Try.prog 69 #[.int .i64 (1 + f1), .int .i64 v1, .int .i64 i1] W fun e w' => e = .returned (.int .i64 pr) ∧ W = w') := Lib.hid fun W => by rw [← hpr]; exact r_primary_any (1 + f1) v1 i1 W (by omega) (by omega) (by omega) (by omega)
  have HE : Hid ((⟨4, Psp.primary (1 + Psp.within f0 4) (Psp.within v0 12) (Psp.within i0 (1 + Psp.within f0 4 + 1)), Psp.within v0 12, Psp.within i0 (1 + Psp.within f0 4 + 1), 1 + Psp.within q0 16, 0, [rqR (1 + Psp.within c0 4) (1 + Psp.within q0 16) (Psp.within y0 64) (Psp.within z0 1000)], [], [], []⟩ : Psp.Msg) = ⟨4, pr, v1, i1, 1 + q1, 0, [⟨c1, 1 + q1, 1, y1, z1, 0⟩], [], [], []⟩) := Lib.hid (by simp only [hf1, hv1, hi1, hpr, hc1, hq1, hy1, hz1, rqR]; try rw [show 1 + c1 - 1 = c1 by omega])
  have hq9 : q ≤ 9 := by omega
  have hqpos : 1 ≤ q := by omega
  have Hqq : Hid (Psp.quorum (1 + f1) = (q : Int)) := Lib.hid (by unfold Psp.quorum; rw [if_pos ⟨by omega, by omega⟩, hqq, hf1])
  clear hf1 hc1 hv1 hi1 hq1 hy1 hz1 hpr hqq
  go_upto_region 5 with (first | (go_at_call 17; refine (within_i64 _ _ _ (by first | assumption | exact ⟨by omega, by omega⟩) (by exact ⟨by omega, by omega⟩)).mono ?_; rintro e w' ⟨rfl, rfl⟩) | (go_at_call 69; refine (HPr.out _).mono ?_; rintro e w' ⟨rfl, rfl⟩))
  have hb4 := alloc_below W3 (.cells #[.int .i64 4, .int .i64 pr, .int .i64 0, .int .i64 0, .int .i64 0, .int .i64 0, .slice none 0 0, .slice none 0 0, .slice none 0 0, .slice none 0 0] 27)
  have hm4 := heap_alloc_new W3 (.cells #[.int .i64 4, .int .i64 pr, .int .i64 0, .int .i64 0, .int .i64 0, .int .i64 0, .slice none 0 0, .slice none 0 0, .slice none 0 0, .slice none 0 0] 27)
  obtain ⟨W4, hW4⟩ : ∃ W, W3.alloc (.cells #[.int .i64 4, .int .i64 pr, .int .i64 0, .int .i64 0, .int .i64 0, .int .i64 0, .slice none 0 0, .slice none 0 0, .slice none 0 0, .slice none 0 0] 27) = W := ⟨_, rfl⟩
  rw [hW4] at hb4 hm4 ⊢
  clear hW4
  have HB4 := Lib.hid (Below.then HB3.out hb4 HB3.out.size)
  have HQ4 := Lib.hid (obj_below HQ3.out hb4 (Nat.le_refl _))
  have HR4 := Lib.hid (obj_below HR3.out hb4 (Nat.le_refl _))
  have HM4 := Lib.hid hm4
  have hr3 := (Array.getElem?_eq_some_iff.1 HR3.out).1
  have hq2 := (Array.getElem?_eq_some_iff.1 HQ3.out).1
  have hm4l := (Array.getElem?_eq_some_iff.1 hm4).1
  have HRB := Lib.hid (show Rb w W4 W3.heap.size #[.int .i64 4, .int .i64 pr, .int .i64 0, .int .i64 0, .int .i64 0, .int .i64 0, .slice none 0 0, .slice none 0 0, .slice none 0 0, .slice none 0 0] from ⟨hm4, HR4.out, HB4.out, hr3⟩)
  clear hb4 hm4 HB3 HC3 HR3 HM4 HR4
  have x0 : W4.cell? ⟨W3.heap.size, 0, none⟩ = some (.int .i64 4) := (by rw [cell_of_row W4 _ 0 _ _ _ HRB.out.box]; rfl)
  have x2 : W4.cell? ⟨W3.heap.size, 2, none⟩ = some (.int .i64 0) := (by rw [cell_of_row W4 _ 2 _ _ _ HRB.out.box]; rfl)
  have fz2 := frozen_of_row W4 _ 2 _ _ HRB.out.box
  have x3 : W4.cell? ⟨W3.heap.size, 3, none⟩ = some (.int .i64 0) := (by rw [cell_of_row W4 _ 3 _ _ _ HRB.out.box]; rfl)
  have fz3 := frozen_of_row W4 _ 3 _ _ HRB.out.box
  have x4 : W4.cell? ⟨W3.heap.size, 4, none⟩ = some (.int .i64 0) := (by rw [cell_of_row W4 _ 4 _ _ _ HRB.out.box]; rfl)
  have fz4 := frozen_of_row W4 _ 4 _ _ HRB.out.box
  have x6 : W4.cell? ⟨W3.heap.size, 6, none⟩ = some (.slice none 0 0) := (by rw [cell_of_row W4 _ 6 _ _ _ HRB.out.box]; rfl)
  have fz6 := frozen_of_row W4 _ 6 _ _ HRB.out.box
  have g0 : W4.cell? ⟨W2.heap.size, 0, none⟩ = some (.int .i64 c1) := (by rw [cell_of_row W4 _ 0 _ _ _ HQ4.out]; rfl)
  have g1 : W4.cell? ⟨W2.heap.size, 1, none⟩ = some (.int .i64 (1 + q1)) := (by rw [cell_of_row W4 _ 1 _ _ _ HQ4.out]; rfl)
  have g2 : W4.cell? ⟨W2.heap.size, 2, none⟩ = some (.int .i64 1) := (by rw [cell_of_row W4 _ 2 _ _ _ HQ4.out]; rfl)
  have g3 : W4.cell? ⟨W2.heap.size, 3, none⟩ = some (.int .i64 y1) := (by rw [cell_of_row W4 _ 3 _ _ _ HQ4.out]; rfl)
  have g4 : W4.cell? ⟨W2.heap.size, 4, none⟩ = some (.int .i64 z1) := (by rw [cell_of_row W4 _ 4 _ _ _ HQ4.out]; rfl)
  have g5 : W4.cell? ⟨W2.heap.size, 5, none⟩ = some (.int .i64 0) := (by rw [cell_of_row W4 _ 5 _ _ _ HQ4.out]; rfl)
  have hq4 : W2.heap.size < W4.heap.size := by omega
  go_wp2_with fail
  go_region
  clear x0 x2 fz2 x3 fz3 x4 fz4 x6 fz6 g0 g1 g2 g3 g4 g5
  have hss : ((((W4.setCell ⟨W3.heap.size, 2, none⟩ (.int .i64 v1)).setCell ⟨W3.heap.size, 3, none⟩ (.int .i64 i1)).setCell ⟨W3.heap.size, 4, none⟩ (.int .i64 (1 + q1))).setCell ⟨W3.heap.size, 6, none⟩ (.slice (some ⟨W4.heap.size, 0, none⟩) 1 1)).heap.size = W4.heap.size := by simp [World.setCell]
  have hra := ((((HRB.out.set 2 (.int .i64 v1)).set 3 (.int .i64 i1)).set 4 (.int .i64 (1 + q1))).set 6 (.slice (some ⟨W4.heap.size, 0, none⟩) 1 1))
  obtain ⟨Wa, hWa⟩ : ∃ W, ((((W4.setCell ⟨W3.heap.size, 2, none⟩ (.int .i64 v1)).setCell ⟨W3.heap.size, 3, none⟩ (.int .i64 i1)).setCell ⟨W3.heap.size, 4, none⟩ (.int .i64 (1 + q1))).setCell ⟨W3.heap.size, 6, none⟩ (.slice (some ⟨W4.heap.size, 0, none⟩) 1 1)) = W := ⟨_, rfl⟩
  rw [hWa] at hss hra ⊢
  have hla := lies_new Wa [.int .i64 c1, .int .i64 (1 + q1), .int .i64 1, .int .i64 y1, .int .i64 z1, .int .i64 0] 50 _ hss
  have hsa : (Wa.alloc (.cells #[.int .i64 c1, .int .i64 (1 + q1), .int .i64 1, .int .i64 y1, .int .i64 z1, .int .i64 0] 50)).heap.size = Wa.heap.size + 1 := by simp
  have hrq : RdR (Wa.alloc (.cells #[.int .i64 c1, .int .i64 (1 + q1), .int .i64 1, .int .i64 y1, .int .i64 z1, .int .i64 0] 50)).drew (fun b => w.heap.size + 1 < b) (.slice (some ⟨W4.heap.size, 0, none⟩) 1 1) [⟨c1, 1 + q1, 1, y1, z1, 0⟩] := ⟨rfl, _, 1, rfl, Nat.le_refl _, by unfold maxLen; omega, fun _ => ⟨W4.heap.size, 0, rfl, by show w.heap.size + 1 < W4.heap.size; omega, by show W4.heap.size < (Wa.alloc (.cells #[.int .i64 c1, .int .i64 (1 + q1), .int .i64 1, .int .i64 y1, .int .i64 z1, .int .i64 0] 50)).heap.size; rw [hsa]; omega, hla⟩⟩
  have hob : (Wa.alloc (.cells #[.int .i64 c1, .int .i64 (1 + q1), .int .i64 1, .int .i64 y1, .int .i64 z1, .int .i64 0] 50)).drew.heap[W4.heap.size]? = some (.cells #[.int .i64 c1, .int .i64 (1 + q1), .int .i64 1, .int .i64 y1, .int .i64 z1, .int .i64 0] 50 (0, 0)) := by have h := heap_alloc_new Wa (.cells #[.int .i64 c1, .int .i64 (1 + q1), .int .i64 1, .int .i64 y1, .int .i64 z1, .int .i64 0] 50); rw [hss] at h; exact h
  have HRB5' := Lib.hid (show Rb w (Wa.alloc (.cells #[.int .i64 c1, .int .i64 (1 + q1), .int .i64 1, .int .i64 y1, .int .i64 z1, .int .i64 0] 50)).drew W3.heap.size #[.int .i64 4, .int .i64 pr, .int .i64 v1, .int .i64 i1, .int .i64 (1 + q1), .int .i64 0, .slice (some ⟨W4.heap.size, 0, none⟩) 1 1, .slice none 0 0, .slice none 0 0, .slice none 0 0] from (Rb.alloc hra (.cells #[.int .i64 c1, .int .i64 (1 + q1), .int .i64 1, .int .i64 y1, .int .i64 z1, .int .i64 0] 50)).drew)
  have HMO' := Lib.hid (show MsgOk (Wa.alloc (.cells #[.int .i64 c1, .int .i64 (1 + q1), .int .i64 1, .int .i64 y1, .int .i64 z1, .int .i64 0] 50)).drew (fun b => w.heap.size + 1 < b) ⟨⟨4, pr, v1, i1, 1 + q1, 0, [⟨c1, 1 + q1, 1, y1, z1, 0⟩], [], [], []⟩, (.slice (some ⟨W4.heap.size, 0, none⟩) 1 1), .slice none 0 0, .slice none 0 0, .slice none 0 0⟩ from ⟨hrq, RdP.none_, RdC.nil, RdA.nil⟩)
  obtain ⟨W5, hW5⟩ : ∃ W, (Wa.alloc (.cells #[.int .i64 c1, .int .i64 (1 + q1), .int .i64 1, .int .i64 y1, .int .i64 z1, .int .i64 0] 50)).drew = W := ⟨_, rfl⟩
  rw [hW5] at HRB5' HMO' hob ⊢
  have HOb := Lib.hid hob
  have HRB5 := HRB5'
  have HMO := HMO'
  clear hW5 hWa HRB5' HMO' hla hsa hrq hra hss hob
  have hm5 := HRB5.out.box
  obtain ⟨y0', y1', y2', y3', y4', y5', y6', y7', y8', y9'⟩ := box_cells hm5
  have Hth := Lib.hid (row_there HRB5.out.res)
  obtain ⟨s1, s2⟩ := row_store HRB5.out.res [.int .i64 4, .int .i64 pr, .int .i64 v1, .int .i64 i1, .int .i64 (1 + q1), .int .i64 0, .slice (some ⟨W4.heap.size, 0, none⟩) 1 1, .slice none 0 0, .slice none 0 0, .slice none 0 0] rfl
  have T1 := Lib.hid s1
  have T3 := Lib.hid (below_setCells HRB5.out.be (w.heap.size + 1) (by omega) [.int .i64 4, .int .i64 pr, .int .i64 v1, .int .i64 i1, .int .i64 (1 + q1), .int .i64 0, .slice (some ⟨W4.heap.size, 0, none⟩) 1 1, .slice none 0 0, .slice none 0 0, .slice none 0 0])
  have HRf := Lib.hid (HMO.out.keeps (P' := fun b => w.heap.size ≤ b) (w' := W5.setCells (w.heap.size + 1) 0 [.int .i64 4, .int .i64 pr, .int .i64 v1, .int .i64 i1, .int .i64 (1 + q1), .int .i64 0, .slice (some ⟨W4.heap.size, 0, none⟩) 1 1, .slice none 0 0, .slice none 0 0, .slice none 0 0]) ⟨by rw [setCells_size]; exact Nat.le_refl _, fun b (hb : w.heap.size + 1 < b) hlt => ⟨s2 b (by omega), by omega⟩⟩)
  have HOw' := Lib.hid (show (W5.setCells (w.heap.size + 1) 0 [.int .i64 4, .int .i64 pr, .int .i64 v1, .int .i64 i1, .int .i64 (1 + q1), .int .i64 0, .slice (some ⟨W4.heap.size, 0, none⟩) 1 1, .slice none 0 0, .slice none 0 0, .slice none 0 0]).ownsRow w.heap.size 50 6 (.slice (some ⟨W4.heap.size, 0, none⟩) 1 1) 1 (rq ⟨c1, 1 + q1, 1, y1, z1, 0⟩) from own_lit1 ((s2 W4.heap.size (by omega)).trans HOb.out) rfl (by omega))
  clear s1 s2 hm5
  go_wp2_with (first | (refine wpList_store_mid rfl 27 (.tmp 14) (.tmp 142) rfl (w.heap.size + 1) 0 #[.int .i64 4, .int .i64 pr, .int .i64 v1, .int .i64 i1, .int .i64 (1 + q1), .int .i64 0, .slice (some ⟨W4.heap.size, 0, none⟩) 1 1, .slice none 0 0, .slice none 0 0, .slice none 0 0] rfl rfl Hth.out sizeM (by simp [Value.oneCell']) ?_))
  refine bodyPost_ret (v := .agg #[.int .i64 4, .int .i64 pr, .int .i64 v1, .int .i64 i1, .int .i64 (1 + q1), .int .i64 0, .slice (some ⟨W4.heap.size, 0, none⟩) 1 1, .slice none 0 0, .slice none 0 0, .slice none 0 0]) ?_ rfl ?_
  · exact results_cell_row Try.results27 _ _ (w.heap.size + 1) _ _ _ _ rfl T1.out Try.underlying27 rfl sizeM
  · have hE := HE.out
    rw [hE]
    exact ⟨(some ⟨W4.heap.size, 0, none⟩), none, none, none, 1, 0, 0, 0, rfl, HRf.out, T3.out, owns_req HOw'.out⟩
end Go.Proofs.Ytljfoajhobambaa

end

section
/- psephoslaw06.right, kind 5. Printed by gen_rt2.py. -/
namespace Go.Proofs.Ytljfoajhobambaa
open Go.RowKit
set_option linter.unusedVariables false
set_option linter.unusedSimpArgs false

set_option maxRecDepth 100000 in
set_option maxHeartbeats 4000000 in
theorem right_5 (k0 f0 c0 v0 i0 q0 o0 y0 z0 : Int) (w : World) (hk : isI64 k0) (hf : isI64 f0) (hc : isI64 c0) (hv : isI64 v0) (hi : isI64 i0) (hq : isI64 q0) (hy : isI64 y0) (hz : isI64 z0) (q : Nat) (hqq : (q : Int) = 2 * (1 + Psp.within f0 4) + 1) (h6 : Psp.within k0 10 = 4) :
    Calls Try.prog 27 #[.int .i64 k0, .int .i64 f0, .int .i64 c0, .int .i64 v0, .int .i64 i0, .int .i64 q0, .agg #[.int .i64 o0, .int .i64 y0, .int .i64 z0]] w (Gives ⟨5, Psp.primary (1 + Psp.within f0 4) (Psp.within v0 12) (Psp.within i0 (1 + Psp.within f0 4 + 1)), Psp.within v0 12, Psp.within i0 (1 + Psp.within f0 4 + 1), 1 + Psp.within q0 16, 0, [rqR (1 + Psp.within c0 4) (1 + Psp.within q0 16) (Psp.within y0 64) (Psp.within z0 1000)], [], [], []⟩ w) := by
  obtain ⟨f1, hf1⟩ : ∃ x, Psp.within f0 4 = x := ⟨_, rfl⟩
  have f1a : 0 ≤ f1 := by rw [← hf1]; exact Psp.within_lo _ _
  have f1b : f1 < 4 := by rw [← hf1]; exact Psp.within_hi _ _ (by omega)
  obtain ⟨c1, hc1⟩ : ∃ x, Psp.within c0 4 = x := ⟨_, rfl⟩
  have c1a : 0 ≤ c1 := by rw [← hc1]; exact Psp.within_lo _ _
  have c1b : c1 < 4 := by rw [← hc1]; exact Psp.within_hi _ _ (by omega)
  obtain ⟨v1, hv1⟩ : ∃ x, Psp.within v0 12 = x := ⟨_, rfl⟩
  have v1a : 0 ≤ v1 := by rw [← hv1]; exact Psp.within_lo _ _
  have v1b : v1 < 12 := by rw [← hv1]; exact Psp.within_hi _ _ (by omega)
  obtain ⟨i1, hi1⟩ : ∃ x, Psp.within i0 (1 + f1 + 1) = x := ⟨_, rfl⟩
  have i1a : 0 ≤ i1 := by rw [← hi1]; exact Psp.within_lo _ _
  have i1b : i1 < 1 + f1 + 1 := by rw [← hi1]; exact Psp.within_hi _ _ (by omega)
  obtain ⟨q1, hq1⟩ : ∃ x, Psp.within q0 16 = x := ⟨_, rfl⟩
  have q1a : 0 ≤ q1 := by rw [← hq1]; exact Psp.within_lo _ _
  have q1b : q1 < 16 := by rw [← hq1]; exact Psp.within_hi _ _ (by omega)
  go_enter Try.func27, Try.ntmps27
  go_wp2_with (go_at_call 17; refine (within_i64 _ _ _ (by first | assumption | exact ⟨by omega, by omega⟩) (by exact ⟨by omega, by omega⟩)).mono ?_; rintro e w' ⟨rfl, rfl⟩)
  obtain ⟨y1, hy1⟩ : ∃ x, Psp.within y0 64 = x := ⟨_, rfl⟩
  obtain ⟨z1, hz1⟩ : ∃ x, Psp.within z0 1000 = x := ⟨_, rfl⟩
  have hs2 : ((w.alloc (.cells #[.int .i64 o0, .int .i64 y0, .int .i64 z0] 47)).alloc (.cells zs 27)).heap.size = w.heap.size + 2 := by simp
  have hc2 := obj_below (heap_alloc_new w (.cells #[.int .i64 o0, .int .i64 y0, .int .i64 z0] 47)) (alloc_below _ (.cells zs 27)) (Nat.le_refl _)
  have hr2 : ((w.alloc (.cells #[.int .i64 o0, .int .i64 y0, .int .i64 z0] 47)).alloc (.cells zs 27)).heap[w.heap.size + 1]? = some (.cells zs 27 (0, 0)) := by have h := heap_alloc_new (w.alloc (.cells #[.int .i64 o0, .int .i64 y0, .int .i64 z0] 47)) (.cells zs 27); simpa using h
  have hb2 : Below w.heap.size w ((w.alloc (.cells #[.int .i64 o0, .int .i64 y0, .int .i64 z0] 47)).alloc (.cells zs 27)) := (alloc_below w _).trans ((alloc_below _ _).mono (by simp))
  obtain ⟨W2, hW2⟩ : ∃ W, (w.alloc (.cells #[.int .i64 o0, .int .i64 y0, .int .i64 z0] 47)).alloc (.cells zs 27) = W := ⟨_, rfl⟩
  rw [show (w.alloc (.cells #[.int .i64 o0, .int .i64 y0, .int .i64 z0] 47)).alloc (.cells #[.int .i64 0, .int .i64 0, .int .i64 0, .int .i64 0, .int .i64 0, .int .i64 0, .slice none 0 0, .slice none 0 0, .slice none 0 0, .slice none 0 0] 27) = W2 from hW2]
  rw [hW2] at hs2 hc2 hr2 hb2
  replace hs2 : w.heap.size + 2 ≤ W2.heap.size := by omega
  have HC2 := Lib.hid hc2
  have HR2 := Lib.hid hr2
  have HB2 := Lib.hid hb2
  have x1 : W2.cell? ⟨w.heap.size, 1, none⟩ = some (.int .i64 y0) := by rw [cell_of_row W2 _ 1 _ _ _ hc2]; rfl
  have x2 : W2.cell? ⟨w.heap.size, 2, none⟩ = some (.int .i64 z0) := by rw [cell_of_row W2 _ 2 _ _ _ hc2]; rfl
  clear hW2 hc2 hr2 hb2
  have hst := And.intro x1 x2
  have hwr : IntKind.i64.wrap (1 + c1 - 1) = c1 := (IntWalk.i64_in _ (by omega)).trans (by omega)
  apply wp_join (W0 := (W2.alloc (.cells #[.int .i64 c1, .int .i64 (1 + q1), .int .i64 1, .int .i64 y1, .int .i64 z1, .int .i64 0] 50)).drew)
  case h =>
   go_region_held3 (fun w' => w'.cell? ⟨w.heap.size, 1, none⟩ = some (.int .i64 y0) ∧ w'.cell? ⟨w.heap.size, 2, none⟩ = some (.int .i64 z0))
    (first | assumption | go_keep | (go_split_ands; exact ⟨by assumption, by assumption⟩) | (go_split_ands; exact ⟨((alloc_below W2 _).cell (p := ⟨w.heap.size, 1, none⟩) (by show w.heap.size < W2.heap.size; omega)).trans x1, ((alloc_below W2 _).cell (p := ⟨w.heap.size, 2, none⟩) (by show w.heap.size < W2.heap.size; omega)).trans x2⟩))
    (first | (go_at_call 17; refine (within_i64 _ _ _ (by first | assumption | exact ⟨by omega, by omega⟩) (by exact ⟨by omega, by omega⟩)).mono ?_; rintro e w' ⟨rfl, rfl⟩))
   all_goals exact ⟨rfl, rfl⟩
  have hb3 : Below W2.heap.size W2 ((W2.alloc (.cells #[.int .i64 c1, .int .i64 (1 + q1), .int .i64 1, .int .i64 y1, .int .i64 z1, .int .i64 0] 50)).drew) := (alloc_below W2 _).drew
  have hq3 : ((W2.alloc (.cells #[.int .i64 c1, .int .i64 (1 + q1), .int .i64 1, .int .i64 y1, .int .i64 z1, .int .i64 0] 50)).drew).heap[W2.heap.size]? = some (.cells #[.int .i64 c1, .int .i64 (1 + q1), .int .i64 1, .int .i64 y1, .int .i64 z1, .int .i64 0] 50 (0, 0)) := heap_alloc_new W2 _
  obtain ⟨W3, hW3⟩ : ∃ W, (W2.alloc (.cells #[.int .i64 c1, .int .i64 (1 + q1), .int .i64 1, .int .i64 y1, .int .i64 z1, .int .i64 0] 50)).drew = W := ⟨_, rfl⟩
  rw [hW3] at hb3 hq3 ⊢
  clear hW3 hst x1 x2 hwr
  have HB3 := Lib.hid (Below.then HB2.out hb3 HB2.out.size)
  have HC3 := Lib.hid (obj_below HC2.out hb3 (Nat.le_refl _))
  have HR3 := Lib.hid (obj_below HR2.out hb3 (Nat.le_refl _))
  have HQ3 := Lib.hid hq3
  clear hb3 hq3 HB2 HC2 HR2
  obtain ⟨pr, hpr⟩ : ∃ x, Psp.primary (1 + f1) v1 i1 = x := ⟨_, rfl⟩
  have HPr : Hid (∀ W : World, Calls Try.prog 69 #[.int .i64 (1 + f1), .int .i64 v1, .int .i64 i1] W fun e w' => e = .returned (.int .i64 pr) ∧ W = w') := Lib.hid fun W => by rw [← hpr]; exact r_primary_any (1 + f1) v1 i1 W (by omega) (by omega) (by omega) (by omega)
  have HE : Hid ((⟨5, Psp.primary (1 + Psp.within f0 4) (Psp.within v0 12) (Psp.within i0 (1 + Psp.within f0 4 + 1)), Psp.within v0 12, Psp.within i0 (1 + Psp.within f0 4 + 1), 1 + Psp.within q0 16, 0, [rqR (1 + Psp.within c0 4) (1 + Psp.within q0 16) (Psp.within y0 64) (Psp.within z0 1000)], [], [], []⟩ : Psp.Msg) = ⟨5, pr, v1, i1, 1 + q1, 0, [⟨c1, 1 + q1, 1, y1, z1, 0⟩], [], [], []⟩) := Lib.hid (by simp only [hf1, hv1, hi1, hpr, hc1, hq1, hy1, hz1, rqR]; try rw [show 1 + c1 - 1 = c1 by omega])
  have hq9 : q ≤ 9 := by omega
  have hqpos : 1 ≤ q := by omega
  have Hqq : Hid (Psp.quorum (1 + f1) = (q : Int)) := Lib.hid (by unfold Psp.quorum; rw [if_pos ⟨by omega, by omega⟩, hqq, hf1])
  clear hf1 hc1 hv1 hi1 hq1 hy1 hz1 hpr hqq
  go_upto_region 5 with (first | (go_at_call 17; refine (within_i64 _ _ _ (by first | assumption | exact ⟨by omega, by omega⟩) (by exact ⟨by omega, by omega⟩)).mono ?_; rintro e w' ⟨rfl, rfl⟩) | (go_at_call 69; refine (HPr.out _).mono ?_; rintro e w' ⟨rfl, rfl⟩))
  have hb4 := alloc_below W3 (.cells #[.int .i64 5, .int .i64 pr, .int .i64 0, .int .i64 0, .int .i64 0, .int .i64 0, .slice none 0 0, .slice none 0 0, .slice none 0 0, .slice none 0 0] 27)
  have hm4 := heap_alloc_new W3 (.cells #[.int .i64 5, .int .i64 pr, .int .i64 0, .int .i64 0, .int .i64 0, .int .i64 0, .slice none 0 0, .slice none 0 0, .slice none 0 0, .slice none 0 0] 27)
  obtain ⟨W4, hW4⟩ : ∃ W, W3.alloc (.cells #[.int .i64 5, .int .i64 pr, .int .i64 0, .int .i64 0, .int .i64 0, .int .i64 0, .slice none 0 0, .slice none 0 0, .slice none 0 0, .slice none 0 0] 27) = W := ⟨_, rfl⟩
  rw [hW4] at hb4 hm4 ⊢
  clear hW4
  have HB4 := Lib.hid (Below.then HB3.out hb4 HB3.out.size)
  have HQ4 := Lib.hid (obj_below HQ3.out hb4 (Nat.le_refl _))
  have HR4 := Lib.hid (obj_below HR3.out hb4 (Nat.le_refl _))
  have HM4 := Lib.hid hm4
  have hr3 := (Array.getElem?_eq_some_iff.1 HR3.out).1
  have hq2 := (Array.getElem?_eq_some_iff.1 HQ3.out).1
  have hm4l := (Array.getElem?_eq_some_iff.1 hm4).1
  have HRB := Lib.hid (show Rb w W4 W3.heap.size #[.int .i64 5, .int .i64 pr, .int .i64 0, .int .i64 0, .int .i64 0, .int .i64 0, .slice none 0 0, .slice none 0 0, .slice none 0 0, .slice none 0 0] from ⟨hm4, HR4.out, HB4.out, hr3⟩)
  clear hb4 hm4 HB3 HC3 HR3 HM4 HR4
  have x0 : W4.cell? ⟨W3.heap.size, 0, none⟩ = some (.int .i64 5) := (by rw [cell_of_row W4 _ 0 _ _ _ HRB.out.box]; rfl)
  have x2 : W4.cell? ⟨W3.heap.size, 2, none⟩ = some (.int .i64 0) := (by rw [cell_of_row W4 _ 2 _ _ _ HRB.out.box]; rfl)
  have fz2 := frozen_of_row W4 _ 2 _ _ HRB.out.box
  have x3 : W4.cell? ⟨W3.heap.size, 3, none⟩ = some (.int .i64 0) := (by rw [cell_of_row W4 _ 3 _ _ _ HRB.out.box]; rfl)
  have fz3 := frozen_of_row W4 _ 3 _ _ HRB.out.box
  have x4 : W4.cell? ⟨W3.heap.size, 4, none⟩ = some (.int .i64 0) := (by rw [cell_of_row W4 _ 4 _ _ _ HRB.out.box]; rfl)
  have fz4 := frozen_of_row W4 _ 4 _ _ HRB.out.box
  have x6 : W4.cell? ⟨W3.heap.size, 6, none⟩ = some (.slice none 0 0) := (by rw [cell_of_row W4 _ 6 _ _ _ HRB.out.box]; rfl)
  have fz6 := frozen_of_row W4 _ 6 _ _ HRB.out.box
  have g0 : W4.cell? ⟨W2.heap.size, 0, none⟩ = some (.int .i64 c1) := (by rw [cell_of_row W4 _ 0 _ _ _ HQ4.out]; rfl)
  have g1 : W4.cell? ⟨W2.heap.size, 1, none⟩ = some (.int .i64 (1 + q1)) := (by rw [cell_of_row W4 _ 1 _ _ _ HQ4.out]; rfl)
  have g2 : W4.cell? ⟨W2.heap.size, 2, none⟩ = some (.int .i64 1) := (by rw [cell_of_row W4 _ 2 _ _ _ HQ4.out]; rfl)
  have g3 : W4.cell? ⟨W2.heap.size, 3, none⟩ = some (.int .i64 y1) := (by rw [cell_of_row W4 _ 3 _ _ _ HQ4.out]; rfl)
  have g4 : W4.cell? ⟨W2.heap.size, 4, none⟩ = some (.int .i64 z1) := (by rw [cell_of_row W4 _ 4 _ _ _ HQ4.out]; rfl)
  have g5 : W4.cell? ⟨W2.heap.size, 5, none⟩ = some (.int .i64 0) := (by rw [cell_of_row W4 _ 5 _ _ _ HQ4.out]; rfl)
  have hq4 : W2.heap.size < W4.heap.size := by omega
  go_wp2_with fail
  go_region
  clear x0 x2 fz2 x3 fz3 x4 fz4 x6 fz6 g0 g1 g2 g3 g4 g5
  have hss : ((((W4.setCell ⟨W3.heap.size, 2, none⟩ (.int .i64 v1)).setCell ⟨W3.heap.size, 3, none⟩ (.int .i64 i1)).setCell ⟨W3.heap.size, 4, none⟩ (.int .i64 (1 + q1))).setCell ⟨W3.heap.size, 6, none⟩ (.slice (some ⟨W4.heap.size, 0, none⟩) 1 1)).heap.size = W4.heap.size := by simp [World.setCell]
  have hra := ((((HRB.out.set 2 (.int .i64 v1)).set 3 (.int .i64 i1)).set 4 (.int .i64 (1 + q1))).set 6 (.slice (some ⟨W4.heap.size, 0, none⟩) 1 1))
  obtain ⟨Wa, hWa⟩ : ∃ W, ((((W4.setCell ⟨W3.heap.size, 2, none⟩ (.int .i64 v1)).setCell ⟨W3.heap.size, 3, none⟩ (.int .i64 i1)).setCell ⟨W3.heap.size, 4, none⟩ (.int .i64 (1 + q1))).setCell ⟨W3.heap.size, 6, none⟩ (.slice (some ⟨W4.heap.size, 0, none⟩) 1 1)) = W := ⟨_, rfl⟩
  rw [hWa] at hss hra ⊢
  have hla := lies_new Wa [.int .i64 c1, .int .i64 (1 + q1), .int .i64 1, .int .i64 y1, .int .i64 z1, .int .i64 0] 50 _ hss
  have hsa : (Wa.alloc (.cells #[.int .i64 c1, .int .i64 (1 + q1), .int .i64 1, .int .i64 y1, .int .i64 z1, .int .i64 0] 50)).heap.size = Wa.heap.size + 1 := by simp
  have hrq : RdR (Wa.alloc (.cells #[.int .i64 c1, .int .i64 (1 + q1), .int .i64 1, .int .i64 y1, .int .i64 z1, .int .i64 0] 50)).drew (fun b => w.heap.size + 1 < b) (.slice (some ⟨W4.heap.size, 0, none⟩) 1 1) [⟨c1, 1 + q1, 1, y1, z1, 0⟩] := ⟨rfl, _, 1, rfl, Nat.le_refl _, by unfold maxLen; omega, fun _ => ⟨W4.heap.size, 0, rfl, by show w.heap.size + 1 < W4.heap.size; omega, by show W4.heap.size < (Wa.alloc (.cells #[.int .i64 c1, .int .i64 (1 + q1), .int .i64 1, .int .i64 y1, .int .i64 z1, .int .i64 0] 50)).heap.size; rw [hsa]; omega, hla⟩⟩
  have hob : (Wa.alloc (.cells #[.int .i64 c1, .int .i64 (1 + q1), .int .i64 1, .int .i64 y1, .int .i64 z1, .int .i64 0] 50)).drew.heap[W4.heap.size]? = some (.cells #[.int .i64 c1, .int .i64 (1 + q1), .int .i64 1, .int .i64 y1, .int .i64 z1, .int .i64 0] 50 (0, 0)) := by have h := heap_alloc_new Wa (.cells #[.int .i64 c1, .int .i64 (1 + q1), .int .i64 1, .int .i64 y1, .int .i64 z1, .int .i64 0] 50); rw [hss] at h; exact h
  have HRB5' := Lib.hid (show Rb w (Wa.alloc (.cells #[.int .i64 c1, .int .i64 (1 + q1), .int .i64 1, .int .i64 y1, .int .i64 z1, .int .i64 0] 50)).drew W3.heap.size #[.int .i64 5, .int .i64 pr, .int .i64 v1, .int .i64 i1, .int .i64 (1 + q1), .int .i64 0, .slice (some ⟨W4.heap.size, 0, none⟩) 1 1, .slice none 0 0, .slice none 0 0, .slice none 0 0] from (Rb.alloc hra (.cells #[.int .i64 c1, .int .i64 (1 + q1), .int .i64 1, .int .i64 y1, .int .i64 z1, .int .i64 0] 50)).drew)
  have HMO' := Lib.hid (show MsgOk (Wa.alloc (.cells #[.int .i64 c1, .int .i64 (1 + q1), .int .i64 1, .int .i64 y1, .int .i64 z1, .int .i64 0] 50)).drew (fun b => w.heap.size + 1 < b) ⟨⟨5, pr, v1, i1, 1 + q1, 0, [⟨c1, 1 + q1, 1, y1, z1, 0⟩], [], [], []⟩, (.slice (some ⟨W4.heap.size, 0, none⟩) 1 1), .slice none 0 0, .slice none 0 0, .slice none 0 0⟩ from ⟨hrq, RdP.none_, RdC.nil, RdA.nil⟩)
  obtain ⟨W5, hW5⟩ : ∃ W, (Wa.alloc (.cells #[.int .i64 c1, .int .i64 (1 + q1), .int .i64 1, .int .i64 y1, .int .i64 z1, .int .i64 0] 50)).drew = W := ⟨_, rfl⟩
  rw [hW5] at HRB5' HMO' hob ⊢
  have HOb := Lib.hid hob
  have HRB5 := HRB5'
  have HMO := HMO'
  clear hW5 hWa HRB5' HMO' hla hsa hrq hra hss hob
  have hm5 := HRB5.out.box
  obtain ⟨y0', y1', y2', y3', y4', y5', y6', y7', y8', y9'⟩ := box_cells hm5
  have Hth := Lib.hid (row_there HRB5.out.res)
  obtain ⟨s1, s2⟩ := row_store HRB5.out.res [.int .i64 5, .int .i64 pr, .int .i64 v1, .int .i64 i1, .int .i64 (1 + q1), .int .i64 0, .slice (some ⟨W4.heap.size, 0, none⟩) 1 1, .slice none 0 0, .slice none 0 0, .slice none 0 0] rfl
  have T1 := Lib.hid s1
  have T3 := Lib.hid (below_setCells HRB5.out.be (w.heap.size + 1) (by omega) [.int .i64 5, .int .i64 pr, .int .i64 v1, .int .i64 i1, .int .i64 (1 + q1), .int .i64 0, .slice (some ⟨W4.heap.size, 0, none⟩) 1 1, .slice none 0 0, .slice none 0 0, .slice none 0 0])
  have HRf := Lib.hid (HMO.out.keeps (P' := fun b => w.heap.size ≤ b) (w' := W5.setCells (w.heap.size + 1) 0 [.int .i64 5, .int .i64 pr, .int .i64 v1, .int .i64 i1, .int .i64 (1 + q1), .int .i64 0, .slice (some ⟨W4.heap.size, 0, none⟩) 1 1, .slice none 0 0, .slice none 0 0, .slice none 0 0]) ⟨by rw [setCells_size]; exact Nat.le_refl _, fun b (hb : w.heap.size + 1 < b) hlt => ⟨s2 b (by omega), by omega⟩⟩)
  have HOw' := Lib.hid (show (W5.setCells (w.heap.size + 1) 0 [.int .i64 5, .int .i64 pr, .int .i64 v1, .int .i64 i1, .int .i64 (1 + q1), .int .i64 0, .slice (some ⟨W4.heap.size, 0, none⟩) 1 1, .slice none 0 0, .slice none 0 0, .slice none 0 0]).ownsRow w.heap.size 50 6 (.slice (some ⟨W4.heap.size, 0, none⟩) 1 1) 1 (rq ⟨c1, 1 + q1, 1, y1, z1, 0⟩) from own_lit1 ((s2 W4.heap.size (by omega)).trans HOb.out) rfl (by omega))
  clear s1 s2 hm5
  go_wp2_with (first | (refine wpList_store_mid rfl 27 (.tmp 14) (.tmp 142) rfl (w.heap.size + 1) 0 #[.int .i64 5, .int .i64 pr, .int .i64 v1, .int .i64 i1, .int .i64 (1 + q1), .int .i64 0, .slice (some ⟨W4.heap.size, 0, none⟩) 1 1, .slice none 0 0, .slice none 0 0, .slice none 0 0] rfl rfl Hth.out sizeM (by simp [Value.oneCell']) ?_))
  refine bodyPost_ret (v := .agg #[.int .i64 5, .int .i64 pr, .int .i64 v1, .int .i64 i1, .int .i64 (1 + q1), .int .i64 0, .slice (some ⟨W4.heap.size, 0, none⟩) 1 1, .slice none 0 0, .slice none 0 0, .slice none 0 0]) ?_ rfl ?_
  · exact results_cell_row Try.results27 _ _ (w.heap.size + 1) _ _ _ _ rfl T1.out Try.underlying27 rfl sizeM
  · have hE := HE.out
    rw [hE]
    exact ⟨(some ⟨W4.heap.size, 0, none⟩), none, none, none, 1, 0, 0, 0, rfl, HRf.out, T3.out, owns_req HOw'.out⟩
end Go.Proofs.Ytljfoajhobambaa

end

section
/- psephoslaw06.right, kind 7. Printed by gen_rt2.py. -/
namespace Go.Proofs.Ytljfoajhobambaa
open Go.RowKit
set_option linter.unusedVariables false
set_option linter.unusedSimpArgs false

set_option maxRecDepth 100000 in
set_option maxHeartbeats 4000000 in
theorem right_7 (k0 f0 c0 v0 i0 q0 o0 y0 z0 : Int) (w : World) (hk : isI64 k0) (hf : isI64 f0) (hc : isI64 c0) (hv : isI64 v0) (hi : isI64 i0) (hq : isI64 q0) (hy : isI64 y0) (hz : isI64 z0) (q : Nat) (hqq : (q : Int) = 2 * (1 + Psp.within f0 4) + 1) (h6 : Psp.within k0 10 = 6) :
    Calls Try.prog 27 #[.int .i64 k0, .int .i64 f0, .int .i64 c0, .int .i64 v0, .int .i64 i0, .int .i64 q0, .agg #[.int .i64 o0, .int .i64 y0, .int .i64 z0]] w (Gives ⟨7, Psp.primary (1 + Psp.within f0 4) (Psp.within v0 12) (Psp.within i0 (1 + Psp.within f0 4 + 1)), Psp.within v0 12 + 1, 0, 0, 0, [], qL q, [], []⟩ w) := by
  obtain ⟨f1, hf1⟩ : ∃ x, Psp.within f0 4 = x := ⟨_, rfl⟩
  have f1a : 0 ≤ f1 := by rw [← hf1]; exact Psp.within_lo _ _
  have f1b : f1 < 4 := by rw [← hf1]; exact Psp.within_hi _ _ (by omega)
  obtain ⟨c1, hc1⟩ : ∃ x, Psp.within c0 4 = x := ⟨_, rfl⟩
  have c1a : 0 ≤ c1 := by rw [← hc1]; exact Psp.within_lo _ _
  have c1b : c1 < 4 := by rw [← hc1]; exact Psp.within_hi _ _ (by omega)
  obtain ⟨v1, hv1⟩ : ∃ x, Psp.within v0 12 = x := ⟨_, rfl⟩
  have v1a : 0 ≤ v1 := by rw [← hv1]; exact Psp.within_lo _ _
  have v1b : v1 < 12 := by rw [← hv1]; exact Psp.within_hi _ _ (by omega)
  obtain ⟨i1, hi1⟩ : ∃ x, Psp.within i0 (1 + f1 + 1) = x := ⟨_, rfl⟩
  have i1a : 0 ≤ i1 := by rw [← hi1]; exact Psp.within_lo _ _
  have i1b : i1 < 1 + f1 + 1 := by rw [← hi1]; exact Psp.within_hi _ _ (by omega)
  obtain ⟨q1, hq1⟩ : ∃ x, Psp.within q0 16 = x := ⟨_, rfl⟩
  have q1a : 0 ≤ q1 := by rw [← hq1]; exact Psp.within_lo _ _
  have q1b : q1 < 16 := by rw [← hq1]; exact Psp.within_hi _ _ (by omega)
  go_enter Try.func27, Try.ntmps27
  go_wp2_with (go_at_call 17; refine (within_i64 _ _ _ (by first | assumption | exact ⟨by omega, by omega⟩) (by exact ⟨by omega, by omega⟩)).mono ?_; rintro e w' ⟨rfl, rfl⟩)
  obtain ⟨y1, hy1⟩ : ∃ x, Psp.within y0 64 = x := ⟨_, rfl⟩
  obtain ⟨z1, hz1⟩ : ∃ x, Psp.within z0 1000 = x := ⟨_, rfl⟩
  have hs2 : ((w.alloc (.cells #[.int .i64 o0, .int .i64 y0, .int .i64 z0] 47)).alloc (.cells zs 27)).heap.size = w.heap.size + 2 := by simp
  have hc2 := obj_below (heap_alloc_new w (.cells #[.int .i64 o0, .int .i64 y0, .int .i64 z0] 47)) (alloc_below _ (.cells zs 27)) (Nat.le_refl _)
  have hr2 : ((w.alloc (.cells #[.int .i64 o0, .int .i64 y0, .int .i64 z0] 47)).alloc (.cells zs 27)).heap[w.heap.size + 1]? = some (.cells zs 27 (0, 0)) := by have h := heap_alloc_new (w.alloc (.cells #[.int .i64 o0, .int .i64 y0, .int .i64 z0] 47)) (.cells zs 27); simpa using h
  have hb2 : Below w.heap.size w ((w.alloc (.cells #[.int .i64 o0, .int .i64 y0, .int .i64 z0] 47)).alloc (.cells zs 27)) := (alloc_below w _).trans ((alloc_below _ _).mono (by simp))
  obtain ⟨W2, hW2⟩ : ∃ W, (w.alloc (.cells #[.int .i64 o0, .int .i64 y0, .int .i64 z0] 47)).alloc (.cells zs 27) = W := ⟨_, rfl⟩
  rw [show (w.alloc (.cells #[.int .i64 o0, .int .i64 y0, .int .i64 z0] 47)).alloc (.cells #[.int .i64 0, .int .i64 0, .int .i64 0, .int .i64 0, .int .i64 0, .int .i64 0, .slice none 0 0, .slice none 0 0, .slice none 0 0, .slice none 0 0] 27) = W2 from hW2]
  rw [hW2] at hs2 hc2 hr2 hb2
  replace hs2 : w.heap.size + 2 ≤ W2.heap.size := by omega
  have HC2 := Lib.hid hc2
  have HR2 := Lib.hid hr2
  have HB2 := Lib.hid hb2
  have x1 : W2.cell? ⟨w.heap.size, 1, none⟩ = some (.int .i64 y0) := by rw [cell_of_row W2 _ 1 _ _ _ hc2]; rfl
  have x2 : W2.cell? ⟨w.heap.size, 2, none⟩ = some (.int .i64 z0) := by rw [cell_of_row W2 _ 2 _ _ _ hc2]; rfl
  clear hW2 hc2 hr2 hb2
  have hst := And.intro x1 x2
  have hwr : IntKind.i64.wrap (1 + c1 - 1) = c1 := (IntWalk.i64_in _ (by omega)).trans (by omega)
  apply wp_join (W0 := (W2.alloc (.cells #[.int .i64 c1, .int .i64 (1 + q1), .int .i64 1, .int .i64 y1, .int .i64 z1, .int .i64 0] 50)).drew)
  case h =>
   go_region_held3 (fun w' => w'.cell? ⟨w.heap.size, 1, none⟩ = some (.int .i64 y0) ∧ w'.cell? ⟨w.heap.size, 2, none⟩ = some (.int .i64 z0))
    (first | assumption | go_keep | (go_split_ands; exact ⟨by assumption, by assumption⟩) | (go_split_ands; exact ⟨((alloc_below W2 _).cell (p := ⟨w.heap.size, 1, none⟩) (by show w.heap.size < W2.heap.size; omega)).trans x1, ((alloc_below W2 _).cell (p := ⟨w.heap.size, 2, none⟩) (by show w.heap.size < W2.heap.size; omega)).trans x2⟩))
    (first | (go_at_call 17; refine (within_i64 _ _ _ (by first | assumption | exact ⟨by omega, by omega⟩) (by exact ⟨by omega, by omega⟩)).mono ?_; rintro e w' ⟨rfl, rfl⟩))
   all_goals exact ⟨rfl, rfl⟩
  have hb3 : Below W2.heap.size W2 ((W2.alloc (.cells #[.int .i64 c1, .int .i64 (1 + q1), .int .i64 1, .int .i64 y1, .int .i64 z1, .int .i64 0] 50)).drew) := (alloc_below W2 _).drew
  have hq3 : ((W2.alloc (.cells #[.int .i64 c1, .int .i64 (1 + q1), .int .i64 1, .int .i64 y1, .int .i64 z1, .int .i64 0] 50)).drew).heap[W2.heap.size]? = some (.cells #[.int .i64 c1, .int .i64 (1 + q1), .int .i64 1, .int .i64 y1, .int .i64 z1, .int .i64 0] 50 (0, 0)) := heap_alloc_new W2 _
  obtain ⟨W3, hW3⟩ : ∃ W, (W2.alloc (.cells #[.int .i64 c1, .int .i64 (1 + q1), .int .i64 1, .int .i64 y1, .int .i64 z1, .int .i64 0] 50)).drew = W := ⟨_, rfl⟩
  rw [hW3] at hb3 hq3 ⊢
  clear hW3 hst x1 x2 hwr
  have HB3 := Lib.hid (Below.then HB2.out hb3 HB2.out.size)
  have HC3 := Lib.hid (obj_below HC2.out hb3 (Nat.le_refl _))
  have HR3 := Lib.hid (obj_below HR2.out hb3 (Nat.le_refl _))
  have HQ3 := Lib.hid hq3
  clear hb3 hq3 HB2 HC2 HR2
  obtain ⟨pr, hpr⟩ : ∃ x, Psp.primary (1 + f1) v1 i1 = x := ⟨_, rfl⟩
  have HPr : Hid (∀ W : World, Calls Try.prog 69 #[.int .i64 (1 + f1), .int .i64 v1, .int .i64 i1] W fun e w' => e = .returned (.int .i64 pr) ∧ W = w') := Lib.hid fun W => by rw [← hpr]; exact r_primary_any (1 + f1) v1 i1 W (by omega) (by omega) (by omega) (by omega)
  have HE : Hid ((⟨7, Psp.primary (1 + Psp.within f0 4) (Psp.within v0 12) (Psp.within i0 (1 + Psp.within f0 4 + 1)), Psp.within v0 12 + 1, 0, 0, 0, [], qL q, [], []⟩ : Psp.Msg) = ⟨7, pr, v1 + 1, 0, 0, 0, [], qL q, [], []⟩) := Lib.hid (by simp only [hf1, hv1, hi1, hpr, hc1, hq1, hy1, hz1, rqR]; try rw [show 1 + c1 - 1 = c1 by omega])
  have hq9 : q ≤ 9 := by omega
  have hqpos : 1 ≤ q := by omega
  have Hqq : Hid (Psp.quorum (1 + f1) = (q : Int)) := Lib.hid (by unfold Psp.quorum; rw [if_pos ⟨by omega, by omega⟩, hqq, hf1])
  clear hf1 hc1 hv1 hi1 hq1 hy1 hz1 hpr hqq
  go_upto_region 5 with (first | (go_at_call 17; refine (within_i64 _ _ _ (by first | assumption | exact ⟨by omega, by omega⟩) (by exact ⟨by omega, by omega⟩)).mono ?_; rintro e w' ⟨rfl, rfl⟩) | (go_at_call 69; refine (HPr.out _).mono ?_; rintro e w' ⟨rfl, rfl⟩))
  have hb4 := alloc_below W3 (.cells #[.int .i64 7, .int .i64 pr, .int .i64 0, .int .i64 0, .int .i64 0, .int .i64 0, .slice none 0 0, .slice none 0 0, .slice none 0 0, .slice none 0 0] 27)
  have hm4 := heap_alloc_new W3 (.cells #[.int .i64 7, .int .i64 pr, .int .i64 0, .int .i64 0, .int .i64 0, .int .i64 0, .slice none 0 0, .slice none 0 0, .slice none 0 0, .slice none 0 0] 27)
  obtain ⟨W4, hW4⟩ : ∃ W, W3.alloc (.cells #[.int .i64 7, .int .i64 pr, .int .i64 0, .int .i64 0, .int .i64 0, .int .i64 0, .slice none 0 0, .slice none 0 0, .slice none 0 0, .slice none 0 0] 27) = W := ⟨_, rfl⟩
  rw [hW4] at hb4 hm4 ⊢
  clear hW4
  have HB4 := Lib.hid (Below.then HB3.out hb4 HB3.out.size)
  have HQ4 := Lib.hid (obj_below HQ3.out hb4 (Nat.le_refl _))
  have HR4 := Lib.hid (obj_below HR3.out hb4 (Nat.le_refl _))
  have HM4 := Lib.hid hm4
  have hr3 := (Array.getElem?_eq_some_iff.1 HR3.out).1
  have hq2 := (Array.getElem?_eq_some_iff.1 HQ3.out).1
  have hm4l := (Array.getElem?_eq_some_iff.1 hm4).1
  have HRB := Lib.hid (show Rb w W4 W3.heap.size #[.int .i64 7, .int .i64 pr, .int .i64 0, .int .i64 0, .int .i64 0, .int .i64 0, .slice none 0 0, .slice none 0 0, .slice none 0 0, .slice none 0 0] from ⟨hm4, HR4.out, HB4.out, hr3⟩)
  clear hb4 hm4 HB3 HC3 HR3 HM4 HR4
  have x0 : W4.cell? ⟨W3.heap.size, 0, none⟩ = some (.int .i64 7) := (by rw [cell_of_row W4 _ 0 _ _ _ HRB.out.box]; rfl)
  go_upto_region 28 with (go_at_call 93; refine (quorum_m (1 + f1) W4 q Hqq.out hq9).mono ?_; rintro e w5 ⟨A, c, rfl, hown, hb5⟩; have HOw := Lib.hid (RdP.of_own hown); have HOwn := Lib.hid hown; have HR5 := Lib.hid (HRB.out.step hb5); have hz5 := hb5.size; have hl5 : W3.heap.size < w5.heap.size := (by omega); clear hown hb5; have x2 : w5.cell? ⟨W3.heap.size, 2, none⟩ = some (.int .i64 0) := (by rw [cell_of_row w5 _ 2 _ _ _ HR5.out.box]; rfl); have fz2 := frozen_of_row w5 _ 2 _ _ HR5.out.box; have x7 : w5.cell? ⟨W3.heap.size, 7, none⟩ = some (.slice none 0 0) := (by rw [cell_of_row w5 _ 7 _ _ _ HR5.out.box]; rfl); have fz7 := frozen_of_row w5 _ 7 _ _ HR5.out.box)
  clear x2 x7 fz2 fz7
  have HRB5' := Lib.hid (show Rb w ((w5.setCell ⟨W3.heap.size, 2, none⟩ (.int .i64 (v1 + 1))).setCell ⟨W3.heap.size, 7, none⟩ (.slice A q c)) W3.heap.size #[.int .i64 7, .int .i64 pr, .int .i64 (v1 + 1), .int .i64 0, .int .i64 0, .int .i64 0, .slice none 0 0, .slice A q c, .slice none 0 0, .slice none 0 0] from (HR5.out.set 2 (.int .i64 (v1 + 1))).set 7 (.slice A q c))
  have HMO' := Lib.hid (show MsgOk ((w5.setCell ⟨W3.heap.size, 2, none⟩ (.int .i64 (v1 + 1))).setCell ⟨W3.heap.size, 7, none⟩ (.slice A q c)) (fun b => w.heap.size + 1 < b) ⟨⟨7, pr, v1 + 1, 0, 0, 0, [], qL q, [], []⟩, .slice none 0 0, .slice A q c, .slice none 0 0, .slice none 0 0⟩ from ⟨RdP.none_, by unfold RdV; rw [qL_len]; exact HOw.out.keeps ⟨by simp [World.setCell], fun b hb hlt => ⟨by rw [Below.heap_setCell _ ⟨W3.heap.size, 7, none⟩ _ b (by show b ≠ W3.heap.size; have := hb.2; omega), Below.heap_setCell _ ⟨W3.heap.size, 2, none⟩ _ b (by show b ≠ W3.heap.size; have := hb.2; omega)], by have := hb.2; omega⟩⟩, RdC.nil, RdA.nil⟩)
  have HOb' := Lib.hid (own_keep (w' := (w5.setCell ⟨W3.heap.size, 2, none⟩ (.int .i64 (v1 + 1))).setCell ⟨W3.heap.size, 7, none⟩ (.slice A q c)) HOwn.out fun b hb => by have := (HOwn.out.lt b hb).1; rw [Below.heap_setCell _ ⟨W3.heap.size, 7, none⟩ _ b (by show b ≠ W3.heap.size; omega), Below.heap_setCell _ ⟨W3.heap.size, 2, none⟩ _ b (by show b ≠ W3.heap.size; omega)])
  obtain ⟨W5, hW5⟩ : ∃ W, (w5.setCell ⟨W3.heap.size, 2, none⟩ (.int .i64 (v1 + 1))).setCell ⟨W3.heap.size, 7, none⟩ (.slice A q c) = W := ⟨_, rfl⟩
  rw [hW5] at HRB5' HMO' HOb' ⊢
  have HOb := HOb'
  have HRB5 := HRB5'
  have HMO := HMO'
  clear hW5 HRB5' HMO' HOb' x0
  have hm5 := HRB5.out.box
  obtain ⟨y0', y1', y2', y3', y4', y5', y6', y7', y8', y9'⟩ := box_cells hm5
  have Hth := Lib.hid (row_there HRB5.out.res)
  obtain ⟨s1, s2⟩ := row_store HRB5.out.res [.int .i64 7, .int .i64 pr, .int .i64 (v1 + 1), .int .i64 0, .int .i64 0, .int .i64 0, .slice none 0 0, .slice A q c, .slice none 0 0, .slice none 0 0] rfl
  have T1 := Lib.hid s1
  have T3 := Lib.hid (below_setCells HRB5.out.be (w.heap.size + 1) (by omega) [.int .i64 7, .int .i64 pr, .int .i64 (v1 + 1), .int .i64 0, .int .i64 0, .int .i64 0, .slice none 0 0, .slice A q c, .slice none 0 0, .slice none 0 0])
  have HRf := Lib.hid (HMO.out.keeps (P' := fun b => w.heap.size ≤ b) (w' := W5.setCells (w.heap.size + 1) 0 [.int .i64 7, .int .i64 pr, .int .i64 (v1 + 1), .int .i64 0, .int .i64 0, .int .i64 0, .slice none 0 0, .slice A q c, .slice none 0 0, .slice none 0 0]) ⟨by rw [setCells_size]; exact Nat.le_refl _, fun b (hb : w.heap.size + 1 < b) hlt => ⟨s2 b (by omega), by omega⟩⟩)
  have HOw' := Lib.hid (show (W5.setCells (w.heap.size + 1) 0 [.int .i64 7, .int .i64 pr, .int .i64 (v1 + 1), .int .i64 0, .int .i64 0, .int .i64 0, .slice none 0 0, .slice A q c, .slice none 0 0, .slice none 0 0]).ownsRow w.heap.size 52 2 (.slice A q c) q ((qL q).flatMap vt) from own_more (own_keep HOb.out fun b hb => s2 b (by have := (HOb.out.lt b hb).1; omega)) (by omega))
  clear s1 s2 hm5
  go_wp2_with (first | (refine wpList_store_mid rfl 27 (.tmp 14) (.tmp 142) rfl (w.heap.size + 1) 0 #[.int .i64 7, .int .i64 pr, .int .i64 (v1 + 1), .int .i64 0, .int .i64 0, .int .i64 0, .slice none 0 0, .slice A q c, .slice none 0 0, .slice none 0 0] rfl rfl Hth.out sizeM (by simp [Value.oneCell']) ?_))
  refine bodyPost_ret (v := .agg #[.int .i64 7, .int .i64 pr, .int .i64 (v1 + 1), .int .i64 0, .int .i64 0, .int .i64 0, .slice none 0 0, .slice A q c, .slice none 0 0, .slice none 0 0]) ?_ rfl ?_
  · exact results_cell_row Try.results27 _ _ (w.heap.size + 1) _ _ _ _ rfl T1.out Try.underlying27 rfl sizeM
  · have hE := HE.out
    rw [hE]
    exact ⟨none, A, none, none, 0, c, 0, 0, by rw [qL_len]; rfl, by rw [qL_len]; exact HRf.out, T3.out, ⟨World.ownsRow_nil _ _ _ _, by rw [qL_len]; exact HOw'.out, owns_p, fun _ => rfl, fun h => absurd (congrArg List.length h) (by rw [qL_len]; simp; omega), fun _ => rfl⟩⟩
end Go.Proofs.Ytljfoajhobambaa

end

section
/- psephoslaw06.right, kind 8. Printed by gen_rt2.py. -/
namespace Go.Proofs.Ytljfoajhobambaa
open Go.RowKit
set_option linter.unusedVariables false
set_option linter.unusedSimpArgs false

set_option maxRecDepth 100000 in
set_option maxHeartbeats 4000000 in
theorem right_8 (k0 f0 c0 v0 i0 q0 o0 y0 z0 : Int) (w : World) (hk : isI64 k0) (hf : isI64 f0) (hc : isI64 c0) (hv : isI64 v0) (hi : isI64 i0) (hq : isI64 q0) (hy : isI64 y0) (hz : isI64 z0) (q : Nat) (hqq : (q : Int) = 2 * (1 + Psp.within f0 4) + 1) (h6 : Psp.within k0 10 = 7) :
    Calls Try.prog 27 #[.int .i64 k0, .int .i64 f0, .int .i64 c0, .int .i64 v0, .int .i64 i0, .int .i64 q0, .agg #[.int .i64 o0, .int .i64 y0, .int .i64 z0]] w (Gives ⟨8, Psp.primary (1 + Psp.within f0 4) (Psp.within v0 12 + 1) (Psp.within i0 (1 + Psp.within f0 4 + 1)), Psp.within v0 12 + 1, Psp.within i0 (1 + Psp.within f0 4 + 1), 0, 0, [], [], [], ptsR (1 + Psp.within f0 4) q q⟩ w) := by
  obtain ⟨f1, hf1⟩ : ∃ x, Psp.within f0 4 = x := ⟨_, rfl⟩
  have f1a : 0 ≤ f1 := by rw [← hf1]; exact Psp.within_lo _ _
  have f1b : f1 < 4 := by rw [← hf1]; exact Psp.within_hi _ _ (by omega)
  obtain ⟨c1, hc1⟩ : ∃ x, Psp.within c0 4 = x := ⟨_, rfl⟩
  have c1a : 0 ≤ c1 := by rw [← hc1]; exact Psp.within_lo _ _
  have c1b : c1 < 4 := by rw [← hc1]; exact Psp.within_hi _ _ (by omega)
  obtain ⟨v1, hv1⟩ : ∃ x, Psp.within v0 12 = x := ⟨_, rfl⟩
  have v1a : 0 ≤ v1 := by rw [← hv1]; exact Psp.within_lo _ _
  have v1b : v1 < 12 := by rw [← hv1]; exact Psp.within_hi _ _ (by omega)
  obtain ⟨i1, hi1⟩ : ∃ x, Psp.within i0 (1 + f1 + 1) = x := ⟨_, rfl⟩
  have i1a : 0 ≤ i1 := by rw [← hi1]; exact Psp.within_lo _ _
  have i1b : i1 < 1 + f1 + 1 := by rw [← hi1]; exact Psp.within_hi _ _ (by omega)
  obtain ⟨q1, hq1⟩ : ∃ x, Psp.within q0 16 = x := ⟨_, rfl⟩
  have q1a : 0 ≤ q1 := by rw [← hq1]; exact Psp.within_lo _ _
  have q1b : q1 < 16 := by rw [← hq1]; exact Psp.within_hi _ _ (by omega)
  go_enter Try.func27, Try.ntmps27
  go_wp2_with (go_at_call 17; refine (within_i64 _ _ _ (by first | assumption | exact ⟨by omega, by omega⟩) (by exact ⟨by omega, by omega⟩)).mono ?_; rintro e w' ⟨rfl, rfl⟩)
  obtain ⟨y1, hy1⟩ : ∃ x, Psp.within y0 64 = x := ⟨_, rfl⟩
  obtain ⟨z1, hz1⟩ : ∃ x, Psp.within z0 1000 = x := ⟨_, rfl⟩
  have hs2 : ((w.alloc (.cells #[.int .i64 o0, .int .i64 y0, .int .i64 z0] 47)).alloc (.cells zs 27)).heap.size = w.heap.size + 2 := by simp
  have hc2 := obj_below (heap_alloc_new w (.cells #[.int .i64 o0, .int .i64 y0, .int .i64 z0] 47)) (alloc_below _ (.cells zs 27)) (Nat.le_refl _)
  have hr2 : ((w.alloc (.cells #[.int .i64 o0, .int .i64 y0, .int .i64 z0] 47)).alloc (.cells zs 27)).heap[w.heap.size + 1]? = some (.cells zs 27 (0, 0)) := by have h := heap_alloc_new (w.alloc (.cells #[.int .i64 o0, .int .i64 y0, .int .i64 z0] 47)) (.cells zs 27); simpa using h
  have hb2 : Below w.heap.size w ((w.alloc (.cells #[.int .i64 o0, .int .i64 y0, .int .i64 z0] 47)).alloc (.cells zs 27)) := (alloc_below w _).trans ((alloc_below _ _).mono (by simp))
  obtain ⟨W2, hW2⟩ : ∃ W, (w.alloc (.cells #[.int .i64 o0, .int .i64 y0, .int .i64 z0] 47)).alloc (.cells zs 27) = W := ⟨_, rfl⟩
  rw [show (w.alloc (.cells #[.int .i64 o0, .int .i64 y0, .int .i64 z0] 47)).alloc (.cells #[.int .i64 0, .int .i64 0, .int .i64 0, .int .i64 0, .int .i64 0, .int .i64 0, .slice none 0 0, .slice none 0 0, .slice none 0 0, .slice none 0 0] 27) = W2 from hW2]
  rw [hW2] at hs2 hc2 hr2 hb2
  replace hs2 : w.heap.size + 2 ≤ W2.heap.size := by omega
  have HC2 := Lib.hid hc2
  have HR2 := Lib.hid hr2
  have HB2 := Lib.hid hb2
  have x1 : W2.cell? ⟨w.heap.size, 1, none⟩ = some (.int .i64 y0) := by rw [cell_of_row W2 _ 1 _ _ _ hc2]; rfl
  have x2 : W2.cell? ⟨w.heap.size, 2, none⟩ = some (.int .i64 z0) := by rw [cell_of_row W2 _ 2 _ _ _ hc2]; rfl
  clear hW2 hc2 hr2 hb2
  have hst := And.intro x1 x2
  have hwr : IntKind.i64.wrap (1 + c1 - 1) = c1 := (IntWalk.i64_in _ (by omega)).trans (by omega)
  apply wp_join (W0 := (W2.alloc (.cells #[.int .i64 c1, .int .i64 (1 + q1), .int .i64 1, .int .i64 y1, .int .i64 z1, .int .i64 0] 50)).drew)
  case h =>
   go_region_held3 (fun w' => w'.cell? ⟨w.heap.size, 1, none⟩ = some (.int .i64 y0) ∧ w'.cell? ⟨w.heap.size, 2, none⟩ = some (.int .i64 z0))
    (first | assumption | go_keep | (go_split_ands; exact ⟨by assumption, by assumption⟩) | (go_split_ands; exact ⟨((alloc_below W2 _).cell (p := ⟨w.heap.size, 1, none⟩) (by show w.heap.size < W2.heap.size; omega)).trans x1, ((alloc_below W2 _).cell (p := ⟨w.heap.size, 2, none⟩) (by show w.heap.size < W2.heap.size; omega)).trans x2⟩))
    (first | (go_at_call 17; refine (within_i64 _ _ _ (by first | assumption | exact ⟨by omega, by omega⟩) (by exact ⟨by omega, by omega⟩)).mono ?_; rintro e w' ⟨rfl, rfl⟩))
   all_goals exact ⟨rfl, rfl⟩
  have hb3 : Below W2.heap.size W2 ((W2.alloc (.cells #[.int .i64 c1, .int .i64 (1 + q1), .int .i64 1, .int .i64 y1, .int .i64 z1, .int .i64 0] 50)).drew) := (alloc_below W2 _).drew
  have hq3 : ((W2.alloc (.cells #[.int .i64 c1, .int .i64 (1 + q1), .int .i64 1, .int .i64 y1, .int .i64 z1, .int .i64 0] 50)).drew).heap[W2.heap.size]? = some (.cells #[.int .i64 c1, .int .i64 (1 + q1), .int .i64 1, .int .i64 y1, .int .i64 z1, .int .i64 0] 50 (0, 0)) := heap_alloc_new W2 _
  obtain ⟨W3, hW3⟩ : ∃ W, (W2.alloc (.cells #[.int .i64 c1, .int .i64 (1 + q1), .int .i64 1, .int .i64 y1, .int .i64 z1, .int .i64 0] 50)).drew = W := ⟨_, rfl⟩
  rw [hW3] at hb3 hq3 ⊢
  clear hW3 hst x1 x2 hwr
  have HB3 := Lib.hid (Below.then HB2.out hb3 HB2.out.size)
  have HC3 := Lib.hid (obj_below HC2.out hb3 (Nat.le_refl _))
  have HR3 := Lib.hid (obj_below HR2.out hb3 (Nat.le_refl _))
  have HQ3 := Lib.hid hq3
  clear hb3 hq3 HB2 HC2 HR2
  obtain ⟨pr, hpr⟩ : ∃ x, Psp.primary (1 + f1) v1 i1 = x := ⟨_, rfl⟩
  have HPr : Hid (∀ W : World, Calls Try.prog 69 #[.int .i64 (1 + f1), .int .i64 v1, .int .i64 i1] W fun e w' => e = .returned (.int .i64 pr) ∧ W = w') := Lib.hid fun W => by rw [← hpr]; exact r_primary_any (1 + f1) v1 i1 W (by omega) (by omega) (by omega) (by omega)
  obtain ⟨pr2, hpr2⟩ : ∃ x, Psp.primary (1 + f1) (v1 + 1) i1 = x := ⟨_, rfl⟩
  have HPr2 : Hid (∀ W : World, Calls Try.prog 69 #[.int .i64 (1 + f1), .int .i64 (v1 + 1), .int .i64 i1] W fun e w' => e = .returned (.int .i64 pr2) ∧ W = w') := Lib.hid fun W => by rw [← hpr2]; exact r_primary_any (1 + f1) (v1 + 1) i1 W (by omega) (by omega) (by omega) (by omega)
  have HE : Hid ((⟨8, Psp.primary (1 + Psp.within f0 4) (Psp.within v0 12 + 1) (Psp.within i0 (1 + Psp.within f0 4 + 1)), Psp.within v0 12 + 1, Psp.within i0 (1 + Psp.within f0 4 + 1), 0, 0, [], [], [], ptsR (1 + Psp.within f0 4) q q⟩ : Psp.Msg) = ⟨8, pr2, v1 + 1, i1, 0, 0, [], [], [], ptsR (1 + f1) q q⟩) := Lib.hid (by simp only [hf1, hv1, hi1, hpr2])
  have hq9 : q ≤ 9 := by omega
  have hqpos : 1 ≤ q := by omega
  have Hqq : Hid (Psp.quorum (1 + f1) = (q : Int)) := Lib.hid (by unfold Psp.quorum; rw [if_pos ⟨by omega, by omega⟩, hqq, hf1])
  clear hf1 hc1 hv1 hi1 hq1 hy1 hz1 hpr hqq hpr2
  go_upto_region 5 with (first | (go_at_call 17; refine (within_i64 _ _ _ (by first | assumption | exact ⟨by omega, by omega⟩) (by exact ⟨by omega, by omega⟩)).mono ?_; rintro e w' ⟨rfl, rfl⟩) | (go_at_call 69; refine (HPr.out _).mono ?_; rintro e w' ⟨rfl, rfl⟩))
  have hb4 := alloc_below W3 (.cells #[.int .i64 8, .int .i64 pr, .int .i64 0, .int .i64 0, .int .i64 0, .int .i64 0, .slice none 0 0, .slice none 0 0, .slice none 0 0, .slice none 0 0] 27)
  have hm4 := heap_alloc_new W3 (.cells #[.int .i64 8, .int .i64 pr, .int .i64 0, .int .i64 0, .int .i64 0, .int .i64 0, .slice none 0 0, .slice none 0 0, .slice none 0 0, .slice none 0 0] 27)
  obtain ⟨W4, hW4⟩ : ∃ W, W3.alloc (.cells #[.int .i64 8, .int .i64 pr, .int .i64 0, .int .i64 0, .int .i64 0, .int .i64 0, .slice none 0 0, .slice none 0 0, .slice none 0 0, .slice none 0 0] 27) = W := ⟨_, rfl⟩
  rw [hW4] at hb4 hm4 ⊢
  clear hW4
  have HB4 := Lib.hid (Below.then HB3.out hb4 HB3.out.size)
  have HQ4 := Lib.hid (obj_below HQ3.out hb4 (Nat.le_refl _))
  have HR4 := Lib.hid (obj_below HR3.out hb4 (Nat.le_refl _))
  have HM4 := Lib.hid hm4
  have hr3 := (Array.getElem?_eq_some_iff.1 HR3.out).1
  have hq2 := (Array.getElem?_eq_some_iff.1 HQ3.out).1
  have hm4l := (Array.getElem?_eq_some_iff.1 hm4).1
  have HRB := Lib.hid (show Rb w W4 W3.heap.size #[.int .i64 8, .int .i64 pr, .int .i64 0, .int .i64 0, .int .i64 0, .int .i64 0, .slice none 0 0, .slice none 0 0, .slice none 0 0, .slice none 0 0] from ⟨hm4, HR4.out, HB4.out, hr3⟩)
  clear hb4 hm4 HB3 HC3 HR3 HM4 HR4
  have x0 : W4.cell? ⟨W3.heap.size, 0, none⟩ = some (.int .i64 8) := (by rw [cell_of_row W4 _ 0 _ _ _ HRB.out.box]; rfl)
  have x1 : W4.cell? ⟨W3.heap.size, 1, none⟩ = some (.int .i64 pr) := (by rw [cell_of_row W4 _ 1 _ _ _ HRB.out.box]; rfl)
  have fz1 := frozen_of_row W4 _ 1 _ _ HRB.out.box
  have x2 : W4.cell? ⟨W3.heap.size, 2, none⟩ = some (.int .i64 0) := (by rw [cell_of_row W4 _ 2 _ _ _ HRB.out.box]; rfl)
  have fz2 := frozen_of_row W4 _ 2 _ _ HRB.out.box
  have x3 : W4.cell? ⟨W3.heap.size, 3, none⟩ = some (.int .i64 0) := (by rw [cell_of_row W4 _ 3 _ _ _ HRB.out.box]; rfl)
  have fz3 := frozen_of_row W4 _ 3 _ _ HRB.out.box
  have HQn : Hid (∀ W : World, Calls Try.prog 94 #[.int .i64 (1 + f1)] W fun e w' => e = .returned (.int .i64 (q : Int)) ∧ W = w') := Lib.hid fun W => by rw [← Hqq.out]; exact r_quorum_any (1 + f1) W
  go_wp2_with (go_at_call 69; refine (HPr2.out _).mono ?_; rintro e w' ⟨rfl, rfl⟩)
  clear x0 x1 x2 x3 fz1 fz2 fz3
  have HRa := Lib.hid (show Rb w (((W4.setCell ⟨W3.heap.size, 2, none⟩ (.int .i64 (v1 + 1))).setCell ⟨W3.heap.size, 3, none⟩ (.int .i64 i1)).setCell ⟨W3.heap.size, 1, none⟩ (.int .i64 pr2)) W3.heap.size #[.int .i64 8, .int .i64 pr2, .int .i64 (v1 + 1), .int .i64 i1, .int .i64 0, .int .i64 0, .slice none 0 0, .slice none 0 0, .slice none 0 0, .slice none 0 0] from ((HRB.out.set 2 (.int .i64 (v1 + 1))).set 3 (.int .i64 i1)).set 1 (.int .i64 pr2))
  have HJa := Lib.hid (show PJ W4.heap.size (((W4.setCell ⟨W3.heap.size, 2, none⟩ (.int .i64 (v1 + 1))).setCell ⟨W3.heap.size, 3, none⟩ (.int .i64 i1)).setCell ⟨W3.heap.size, 1, none⟩ (.int .i64 pr2)) (.slice none 0 0) [] from ⟨World.ownsRow_nil _ _ _ _, fun _ hy => by (cases hy), by simp [World.setCell]⟩)
  obtain ⟨Wa, hWa⟩ : ∃ W, ((W4.setCell ⟨W3.heap.size, 2, none⟩ (.int .i64 (v1 + 1))).setCell ⟨W3.heap.size, 3, none⟩ (.int .i64 i1)).setCell ⟨W3.heap.size, 1, none⟩ (.int .i64 pr2) = W := ⟨_, rfl⟩
  rw [hWa] at HRa HJa ⊢
  clear hWa
  go_loopw [17] (fun i wr => ∃ (k : Nat) (A : Option Addr) (c : Nat) (xs : List PartV), i = .int .i64 (k : Int) ∧ k ≤ q ∧ xs.length = k ∧ Hid (xs.map (·.p) = ptsR (1 + f1) q k) ∧ Hid (Rb w wr W3.heap.size #[.int .i64 8, .int .i64 pr2, .int .i64 (v1 + 1), .int .i64 i1, .int .i64 0, .int .i64 0, .slice none 0 0, .slice none 0 0, .slice none 0 0, .slice A k c]) ∧ Hid (PJ W4.heap.size wr (.slice A k c) xs)) (fun i _ => q - (intOf i).toNat)
  case atStart => exact ⟨0, none, 0, [], rfl, Nat.zero_le _, rfl, Lib.hid rfl, HRa, HJa⟩
  case round =>
   obtain ⟨k, A, c, xs, rfl, hk, hxk, Hxs, HR, HJ⟩ := hrel
   have Hxk := Lib.hid hxk
   have hle := HJ.out.le
   by_cases hlt : k < q
   · have hqk : decide ((k : Int) < (q : Int)) = true := by simp; omega
     have l9 := laterF_cell (w := wr.drew) (T := fun b => b ≠ W3.heap.size) (show wr.drew.cell? ⟨W3.heap.size, 9, none⟩ = some (.slice A k c) by rw [cell_of_row wr.drew _ 9 _ _ _ HR.out.box]; rfl) (fun hh => hh rfl)
     clear hxk
     go_wp2_with (go_at_call 94; refine (HQn.out _).mono ?_; rintro e w' ⟨rfl, rfl⟩)
     refine wp_region_phasesF (fun b => b ≠ W3.heap.size) [(true, 0), (true, 1), (true, 2), (true, 3), (true, 4), (true, 5), (false, 6), (false, 7), (false, 8), (false, 9)] (by kernel_rfl) (by kernel_rfl) ?_
     simp only [phS, List.getElem?_cons_zero, List.getElem?_cons_succ, Option.toList, List.length_cons, List.length_nil, Nat.reduceAdd, List.drop_succ_cons, List.drop_zero]
     repeat (first | go_big_quiet_step (fail) | quiet_step (fail) | refine wpQuiet_nil ?_)
     clear l9
     go_wp2_with fail
     refine (quorum_m (1 + f1) wr.drew q Hqq.out hq9).mono ?_
     rintro e w1 ⟨Aq, cq, rfl, hown, hb1⟩
     have hb1' : Below wr.heap.size wr w1 := (Below.refl wr.heap.size wr).drew.trans hb1
     have hz1 := hb1'.size
     have HB1 := Lib.hid hb1'
     have HR1 := Lib.hid (HR.out.step hb1')
     have F1 := Lib.hid (Fp.of_below hb1 (fun b => b ≠ W3.heap.size))
     have hT : PartOk w1 (fun j => wr.heap.size ≤ j) (⟨⟨(k : Int) + (1 + f1), qL q, [], 0⟩, .slice Aq q cq, .slice none 0 0⟩ : PartV) := ⟨by show RdV _ _ _ (qL q); unfold RdV; rw [qL_len]; exact (RdP.of_own hown).mono fun b _ hb => hb.2, RdC.nil⟩
     have HTT := Lib.hid hT
     have HT1 := Lib.hid (pv_one hT)
     have Hown1 := Lib.hid (own_below HJ.out.own hb1')
     clear hb1 hb1' hown hT
     go_wp2_with fail
     refine And.intro ⟨⟨w1, F1.out⟩, rfl⟩ ?_
     go_wp2_with fail
     refine And.intro ⟨⟨w1, F1.out⟩, rfl⟩ ?_
     go_wp2_with fail
     refine And.intro ⟨⟨_, F1.out.alloc _⟩, rfl⟩ ?_
     go_wp2_with (at_builtin; refine wpList_app1 partE rfl _ _ rfl W4.heap.size (.slice A k c) k (xs.flatMap pv) rfl (by have h := Hown1.out; rw [Hxk.out] at h; exact h) _ rfl rfl (by exact HT1.out) (by omega) (by decide) (by omega) ?_; intro v' w4 hown4 hg4 _ hv4; have HN := Lib.hid (PJ.next HJ.out HB1.out HTT.out (by rw [Hxk.out]; exact hown4) hg4 hv4); have HR4 := Lib.hid (HR1.out.grown hg4 (fun j hj => (by have := (HJ.out.own.lt j hj).1; omega))); have Hg4 := Lib.hid hg4; clear hown4 hg4 hv4; obtain ⟨A4, c4, e6, _, _, _⟩ := own_slice HN.out.own; have E6 := Lib.hid e6; clear e6)
     have he6 := E6.out
     rw [List.length_append, Hxk.out] at he6
     obtain rfl : v' = .slice A4 (k + 1) c4 := he6
     have hfr : ∀ j, (Value.slice A k c).ownBlock = some j → j ≠ W3.heap.size := fun j hj => by have := (HJ.out.own.lt j hj).1; omega
     refine And.intro ⟨⟨w4, F1.out.grown Hg4.out (fun j hj => Or.inl (hfr j hj))⟩, rfl⟩ ?_
     have z9 := frozen_of_row w4 _ 9 _ _ HR4.out.box
     have x9 : w4.cell? ⟨W3.heap.size, 9, none⟩ = some (.slice A k c) := by rw [cell_of_row w4 _ 9 _ _ _ HR4.out.box]; rfl
     clear hfr
     go_wp2_with fail
     refine ⟨⟨k + 1, A4, c4, xs ++ [(⟨⟨(k : Int) + (1 + f1), qL q, [], 0⟩, .slice Aq q cq, .slice none 0 0⟩ : PartV)], by go_num, by omega, by rw [List.length_append, Hxk.out]; rfl, Lib.hid (by rw [List.map_append, Hxs.out, ptsR_step]; rfl), Lib.hid (HR4.out.set 9 (.slice A4 (k + 1) c4)), Lib.hid (HN.out.set hm4l 9 (.slice A4 (k + 1) c4))⟩, ?_⟩
     simp [intOf]; omega
   · have hkq : q = k := by omega
     subst hkq
     have hqk : decide ((q : Int) < (q : Int)) = false := by simp
     have hRdA : RdA wr (fun b => w.heap.size + 1 < b) (.slice A q c) (ptsR (1 + f1) q q) := ⟨xs, Hxs.out, by have h := HJ.out.own; rw [hxk] at h ⊢; exact (RdP.of_own h).mono (fun b _ hb => by have := hb.2; omega), fun y hy => (HJ.out.inner y hy).keeps (Keeps.mono fun b _ hb => by have := hb.1; omega)⟩
     have HMO := Lib.hid (show MsgOk wr (fun b => w.heap.size + 1 < b) ⟨⟨8, pr2, v1 + 1, i1, 0, 0, [], [], [], ptsR (1 + f1) q q⟩, .slice none 0 0, .slice none 0 0, .slice none 0 0, .slice A q c⟩ from ⟨RdP.none_, RdP.none_, RdC.nil, hRdA⟩)
     have HRB5 := HR
     have HOb := HJ
     clear hRdA hxk HR HJ
     go_upto_region 28 with (go_at_call 94; refine (HQn.out _).mono ?_; rintro e w' ⟨rfl, rfl⟩)
     have hm5 := HRB5.out.box
     obtain ⟨y0', y1', y2', y3', y4', y5', y6', y7', y8', y9'⟩ := box_cells hm5
     have Hth := Lib.hid (row_there HRB5.out.res)
     obtain ⟨s1, s2⟩ := row_store HRB5.out.res [.int .i64 8, .int .i64 pr2, .int .i64 (v1 + 1), .int .i64 i1, .int .i64 0, .int .i64 0, .slice none 0 0, .slice none 0 0, .slice none 0 0, .slice A q c] rfl
     have T1 := Lib.hid s1
     have T3 := Lib.hid (below_setCells HRB5.out.be (w.heap.size + 1) (by omega) [.int .i64 8, .int .i64 pr2, .int .i64 (v1 + 1), .int .i64 i1, .int .i64 0, .int .i64 0, .slice none 0 0, .slice none 0 0, .slice none 0 0, .slice A q c])
     have HRf := Lib.hid (HMO.out.keeps (P' := fun b => w.heap.size ≤ b) (w' := wr.setCells (w.heap.size + 1) 0 [.int .i64 8, .int .i64 pr2, .int .i64 (v1 + 1), .int .i64 i1, .int .i64 0, .int .i64 0, .slice none 0 0, .slice none 0 0, .slice none 0 0, .slice A q c]) ⟨by rw [setCells_size]; exact Nat.le_refl _, fun b (hb : w.heap.size + 1 < b) hlt => ⟨s2 b (by omega), by omega⟩⟩)
     have HOw' := Lib.hid (show PJ W4.heap.size (wr.setCells (w.heap.size + 1) 0 [.int .i64 8, .int .i64 pr2, .int .i64 (v1 + 1), .int .i64 i1, .int .i64 0, .int .i64 0, .slice none 0 0, .slice none 0 0, .slice none 0 0, .slice A q c]) (.slice A q c) xs from ⟨own_keep HOb.out.own fun b hb => s2 b (by have := (HOb.out.own.lt b hb).1; omega), fun y hy => (HOb.out.inner y hy).keeps ⟨by rw [setCells_size]; exact Nat.le_refl _, fun b hb hlt => ⟨s2 b (by have := hb.1; omega), hb⟩⟩, by rw [setCells_size]; exact HOb.out.le⟩)
     clear s1 s2 hm5
     go_wp2_with (first | (refine wpList_store_mid rfl 27 (.tmp 14) (.tmp 142) rfl (w.heap.size + 1) 0 #[.int .i64 8, .int .i64 pr2, .int .i64 (v1 + 1), .int .i64 i1, .int .i64 0, .int .i64 0, .slice none 0 0, .slice none 0 0, .slice none 0 0, .slice A q c] rfl rfl Hth.out sizeM (by simp [Value.oneCell']) ?_))
     refine bodyPost_ret (v := .agg #[.int .i64 8, .int .i64 pr2, .int .i64 (v1 + 1), .int .i64 i1, .int .i64 0, .int .i64 0, .slice none 0 0, .slice none 0 0, .slice none 0 0, .slice A q c]) ?_ rfl ?_
     · exact results_cell_row Try.results27 _ _ (w.heap.size + 1) _ _ _ _ rfl T1.out Try.underlying27 rfl sizeM
     · have hE := HE.out
       rw [hE]
       exact ⟨none, none, none, A, 0, 0, 0, c, by rw [ptsR_len]; rfl, by rw [ptsR_len]; exact HRf.out, T3.out, ⟨World.ownsRow_nil _ _ _ _, World.ownsRow_nil _ _ _ _, ⟨xs, Hxs.out, by have h := HOw'.out.own; rw [Hxk.out] at h; rw [ptsR_len]; exact own_more h (by omega), fun y hy => (HOw'.out.inner y hy).keeps (Keeps.mono fun b _ hb => ⟨by have := hb.1; omega, by rw [ptsR_len]; exact hb.2⟩)⟩, fun _ => rfl, fun _ => rfl, fun h => absurd (congrArg List.length h) (by rw [ptsR_len]; simp; omega)⟩⟩
end Go.Proofs.Ytljfoajhobambaa

end

section
/- psephoslaw06.right, kind 9. Printed by gen_rt2.py. -/
namespace Go.Proofs.Ytljfoajhobambaa
open Go.RowKit
set_option linter.unusedVariables false
set_option linter.unusedSimpArgs false

set_option maxRecDepth 100000 in
set_option maxHeartbeats 4000000 in
theorem right_9 (k0 f0 c0 v0 i0 q0 o0 y0 z0 : Int) (w : World) (hk : isI64 k0) (hf : isI64 f0) (hc : isI64 c0) (hv : isI64 v0) (hi : isI64 i0) (hq : isI64 q0) (hy : isI64 y0) (hz : isI64 z0) (q : Nat) (hqq : (q : Int) = 2 * (1 + Psp.within f0 4) + 1) (h6 : Psp.within k0 10 = 8) :
    Calls Try.prog 27 #[.int .i64 k0, .int .i64 f0, .int .i64 c0, .int .i64 v0, .int .i64 i0, .int .i64 q0, .agg #[.int .i64 o0, .int .i64 y0, .int .i64 z0]] w (Gives ⟨9, Psp.primary (1 + Psp.within f0 4) (Psp.within v0 12) (Psp.within i0 (1 + Psp.within f0 4 + 1)), 0, 0, 0, 0, [], [], [⟨Psp.within v0 12, Psp.within i0 (1 + Psp.within f0 4 + 1), 1 + Psp.within q0 16, [], qL q⟩], []⟩ w) := by
  obtain ⟨f1, hf1⟩ : ∃ x, Psp.within f0 4 = x := ⟨_, rfl⟩
  have f1a : 0 ≤ f1 := by rw [← hf1]; exact Psp.within_lo _ _
  have f1b : f1 < 4 := by rw [← hf1]; exact Psp.within_hi _ _ (by omega)
  obtain ⟨c1, hc1⟩ : ∃ x, Psp.within c0 4 = x := ⟨_, rfl⟩
  have c1a : 0 ≤ c1 := by rw [← hc1]; exact Psp.within_lo _ _
  have c1b : c1 < 4 := by rw [← hc1]; exact Psp.within_hi _ _ (by omega)
  obtain ⟨v1, hv1⟩ : ∃ x, Psp.within v0 12 = x := ⟨_, rfl⟩
  have v1a : 0 ≤ v1 := by rw [← hv1]; exact Psp.within_lo _ _
  have v1b : v1 < 12 := by rw [← hv1]; exact Psp.within_hi _ _ (by omega)
  obtain ⟨i1, hi1⟩ : ∃ x, Psp.within i0 (1 + f1 + 1) = x := ⟨_, rfl⟩
  have i1a : 0 ≤ i1 := by rw [← hi1]; exact Psp.within_lo _ _
  have i1b : i1 < 1 + f1 + 1 := by rw [← hi1]; exact Psp.within_hi _ _ (by omega)
  obtain ⟨q1, hq1⟩ : ∃ x, Psp.within q0 16 = x := ⟨_, rfl⟩
  have q1a : 0 ≤ q1 := by rw [← hq1]; exact Psp.within_lo _ _
  have q1b : q1 < 16 := by rw [← hq1]; exact Psp.within_hi _ _ (by omega)
  go_enter Try.func27, Try.ntmps27
  go_wp2_with (go_at_call 17; refine (within_i64 _ _ _ (by first | assumption | exact ⟨by omega, by omega⟩) (by exact ⟨by omega, by omega⟩)).mono ?_; rintro e w' ⟨rfl, rfl⟩)
  obtain ⟨y1, hy1⟩ : ∃ x, Psp.within y0 64 = x := ⟨_, rfl⟩
  obtain ⟨z1, hz1⟩ : ∃ x, Psp.within z0 1000 = x := ⟨_, rfl⟩
  have hs2 : ((w.alloc (.cells #[.int .i64 o0, .int .i64 y0, .int .i64 z0] 47)).alloc (.cells zs 27)).heap.size = w.heap.size + 2 := by simp
  have hc2 := obj_below (heap_alloc_new w (.cells #[.int .i64 o0, .int .i64 y0, .int .i64 z0] 47)) (alloc_below _ (.cells zs 27)) (Nat.le_refl _)
  have hr2 : ((w.alloc (.cells #[.int .i64 o0, .int .i64 y0, .int .i64 z0] 47)).alloc (.cells zs 27)).heap[w.heap.size + 1]? = some (.cells zs 27 (0, 0)) := by have h := heap_alloc_new (w.alloc (.cells #[.int .i64 o0, .int .i64 y0, .int .i64 z0] 47)) (.cells zs 27); simpa using h
  have hb2 : Below w.heap.size w ((w.alloc (.cells #[.int .i64 o0, .int .i64 y0, .int .i64 z0] 47)).alloc (.cells zs 27)) := (alloc_below w _).trans ((alloc_below _ _).mono (by simp))
  obtain ⟨W2, hW2⟩ : ∃ W, (w.alloc (.cells #[.int .i64 o0, .int .i64 y0, .int .i64 z0] 47)).alloc (.cells zs 27) = W := ⟨_, rfl⟩
  rw [show (w.alloc (.cells #[.int .i64 o0, .int .i64 y0, .int .i64 z0] 47)).alloc (.cells #[.int .i64 0, .int .i64 0, .int .i64 0, .int .i64 0, .int .i64 0, .int .i64 0, .slice none 0 0, .slice none 0 0, .slice none 0 0, .slice none 0 0] 27) = W2 from hW2]
  rw [hW2] at hs2 hc2 hr2 hb2
  replace hs2 : w.heap.size + 2 ≤ W2.heap.size := by omega
  have HC2 := Lib.hid hc2
  have HR2 := Lib.hid hr2
  have HB2 := Lib.hid hb2
  have x1 : W2.cell? ⟨w.heap.size, 1, none⟩ = some (.int .i64 y0) := by rw [cell_of_row W2 _ 1 _ _ _ hc2]; rfl
  have x2 : W2.cell? ⟨w.heap.size, 2, none⟩ = some (.int .i64 z0) := by rw [cell_of_row W2 _ 2 _ _ _ hc2]; rfl
  clear hW2 hc2 hr2 hb2
  have hst := And.intro x1 x2
  have hwr : IntKind.i64.wrap (1 + c1 - 1) = c1 := (IntWalk.i64_in _ (by omega)).trans (by omega)
  apply wp_join (W0 := (W2.alloc (.cells #[.int .i64 c1, .int .i64 (1 + q1), .int .i64 1, .int .i64 y1, .int .i64 z1, .int .i64 0] 50)).drew)
  case h =>
   go_region_held3 (fun w' => w'.cell? ⟨w.heap.size, 1, none⟩ = some (.int .i64 y0) ∧ w'.cell? ⟨w.heap.size, 2, none⟩ = some (.int .i64 z0))
    (first | assumption | go_keep | (go_split_ands; exact ⟨by assumption, by assumption⟩) | (go_split_ands; exact ⟨((alloc_below W2 _).cell (p := ⟨w.heap.size, 1, none⟩) (by show w.heap.size < W2.heap.size; omega)).trans x1, ((alloc_below W2 _).cell (p := ⟨w.heap.size, 2, none⟩) (by show w.heap.size < W2.heap.size; omega)).trans x2⟩))
    (first | (go_at_call 17; refine (within_i64 _ _ _ (by first | assumption | exact ⟨by omega, by omega⟩) (by exact ⟨by omega, by omega⟩)).mono ?_; rintro e w' ⟨rfl, rfl⟩))
   all_goals exact ⟨rfl, rfl⟩
  have hb3 : Below W2.heap.size W2 ((W2.alloc (.cells #[.int .i64 c1, .int .i64 (1 + q1), .int .i64 1, .int .i64 y1, .int .i64 z1, .int .i64 0] 50)).drew) := (alloc_below W2 _).drew
  have hq3 : ((W2.alloc (.cells #[.int .i64 c1, .int .i64 (1 + q1), .int .i64 1, .int .i64 y1, .int .i64 z1, .int .i64 0] 50)).drew).heap[W2.heap.size]? = some (.cells #[.int .i64 c1, .int .i64 (1 + q1), .int .i64 1, .int .i64 y1, .int .i64 z1, .int .i64 0] 50 (0, 0)) := heap_alloc_new W2 _
  obtain ⟨W3, hW3⟩ : ∃ W, (W2.alloc (.cells #[.int .i64 c1, .int .i64 (1 + q1), .int .i64 1, .int .i64 y1, .int .i64 z1, .int .i64 0] 50)).drew = W := ⟨_, rfl⟩
  rw [hW3] at hb3 hq3 ⊢
  clear hW3 hst x1 x2 hwr
  have HB3 := Lib.hid (Below.then HB2.out hb3 HB2.out.size)
  have HC3 := Lib.hid (obj_below HC2.out hb3 (Nat.le_refl _))
  have HR3 := Lib.hid (obj_below HR2.out hb3 (Nat.le_refl _))
  have HQ3 := Lib.hid hq3
  clear hb3 hq3 HB2 HC2 HR2
  obtain ⟨pr, hpr⟩ : ∃ x, Psp.primary (1 + f1) v1 i1 = x := ⟨_, rfl⟩
  have HPr : Hid (∀ W : World, Calls Try.prog 69 #[.int .i64 (1 + f1), .int .i64 v1, .int .i64 i1] W fun e w' => e = .returned (.int .i64 pr) ∧ W = w') := Lib.hid fun W => by rw [← hpr]; exact r_primary_any (1 + f1) v1 i1 W (by omega) (by omega) (by omega) (by omega)
  have HE : Hid ((⟨9, Psp.primary (1 + Psp.within f0 4) (Psp.within v0 12) (Psp.within i0 (1 + Psp.within f0 4 + 1)), 0, 0, 0, 0, [], [], [⟨Psp.within v0 12, Psp.within i0 (1 + Psp.within f0 4 + 1), 1 + Psp.within q0 16, [], qL q⟩], []⟩ : Psp.Msg) = ⟨9, pr, 0, 0, 0, 0, [], [], [⟨v1, i1, 1 + q1, [], qL q⟩], []⟩) := Lib.hid (by simp only [hf1, hv1, hi1, hpr, hc1, hq1, hy1, hz1, rqR]; try rw [show 1 + c1 - 1 = c1 by omega])
  have hq9 : q ≤ 9 := by omega
  have hqpos : 1 ≤ q := by omega
  have Hqq : Hid (Psp.quorum (1 + f1) = (q : Int)) := Lib.hid (by unfold Psp.quorum; rw [if_pos ⟨by omega, by omega⟩, hqq, hf1])
  clear hf1 hc1 hv1 hi1 hq1 hy1 hz1 hpr hqq
  go_upto_region 5 with (first | (go_at_call 17; refine (within_i64 _ _ _ (by first | assumption | exact ⟨by omega, by omega⟩) (by exact ⟨by omega, by omega⟩)).mono ?_; rintro e w' ⟨rfl, rfl⟩) | (go_at_call 69; refine (HPr.out _).mono ?_; rintro e w' ⟨rfl, rfl⟩))
  have hb4 := alloc_below W3 (.cells #[.int .i64 9, .int .i64 pr, .int .i64 0, .int .i64 0, .int .i64 0, .int .i64 0, .slice none 0 0, .slice none 0 0, .slice none 0 0, .slice none 0 0] 27)
  have hm4 := heap_alloc_new W3 (.cells #[.int .i64 9, .int .i64 pr, .int .i64 0, .int .i64 0, .int .i64 0, .int .i64 0, .slice none 0 0, .slice none 0 0, .slice none 0 0, .slice none 0 0] 27)
  obtain ⟨W4, hW4⟩ : ∃ W, W3.alloc (.cells #[.int .i64 9, .int .i64 pr, .int .i64 0, .int .i64 0, .int .i64 0, .int .i64 0, .slice none 0 0, .slice none 0 0, .slice none 0 0, .slice none 0 0] 27) = W := ⟨_, rfl⟩
  rw [hW4] at hb4 hm4 ⊢
  clear hW4
  have HB4 := Lib.hid (Below.then HB3.out hb4 HB3.out.size)
  have HQ4 := Lib.hid (obj_below HQ3.out hb4 (Nat.le_refl _))
  have HR4 := Lib.hid (obj_below HR3.out hb4 (Nat.le_refl _))
  have HM4 := Lib.hid hm4
  have hr3 := (Array.getElem?_eq_some_iff.1 HR3.out).1
  have hq2 := (Array.getElem?_eq_some_iff.1 HQ3.out).1
  have hm4l := (Array.getElem?_eq_some_iff.1 hm4).1
  have HRB := Lib.hid (show Rb w W4 W3.heap.size #[.int .i64 9, .int .i64 pr, .int .i64 0, .int .i64 0, .int .i64 0, .int .i64 0, .slice none 0 0, .slice none 0 0, .slice none 0 0, .slice none 0 0] from ⟨hm4, HR4.out, HB4.out, hr3⟩)
  clear hb4 hm4 HB3 HC3 HR3 HM4 HR4
  have x0 : W4.cell? ⟨W3.heap.size, 0, none⟩ = some (.int .i64 9) := (by rw [cell_of_row W4 _ 0 _ _ _ HRB.out.box]; rfl)
  go_upto_region 28 with (go_at_call 93; refine (quorum_m (1 + f1) W4 q Hqq.out hq9).mono ?_; rintro e w5 ⟨A, c, rfl, hown, hb5⟩; have HOw := Lib.hid (RdP.of_own hown); have HOwn := Lib.hid hown; have HR5 := Lib.hid (HRB.out.step hb5); have hz5 := hb5.size; have hl5 : W3.heap.size < w5.heap.size := (by omega); clear hown hb5; have x8 : w5.cell? ⟨W3.heap.size, 8, none⟩ = some (.slice none 0 0) := (by rw [cell_of_row w5 _ 8 _ _ _ HR5.out.box]; rfl); have fz8 := frozen_of_row w5 _ 8 _ _ HR5.out.box)
  clear x8 fz8
  have hss : (w5.setCell ⟨W3.heap.size, 8, none⟩ (.slice (some ⟨w5.heap.size, 0, none⟩) 1 1)).heap.size = w5.heap.size := by simp [World.setCell]
  have hra := HR5.out.set 8 (.slice (some ⟨w5.heap.size, 0, none⟩) 1 1)
  have hks : ∀ b, W4.heap.size ≤ b → (w5.setCell ⟨W3.heap.size, 8, none⟩ (.slice (some ⟨w5.heap.size, 0, none⟩) 1 1)).heap[b]? = w5.heap[b]? := fun b hb => Below.heap_setCell w5 ⟨W3.heap.size, 8, none⟩ _ b (by show b ≠ W3.heap.size; omega)
  obtain ⟨Wa, hWa⟩ : ∃ W, (w5.setCell ⟨W3.heap.size, 8, none⟩ (.slice (some ⟨w5.heap.size, 0, none⟩) 1 1)) = W := ⟨_, rfl⟩
  rw [hWa] at hss hra hks ⊢
  have hla := lies_new Wa [.int .i64 v1, .int .i64 i1, .int .i64 (1 + q1), .slice none 0 0, .slice A q c] 70 _ hss
  have hsa : (Wa.alloc (.cells #[.int .i64 v1, .int .i64 i1, .int .i64 (1 + q1), .slice none 0 0, .slice A q c] 70)).heap.size = Wa.heap.size + 1 := by simp
  have hva : RdV (Wa.alloc (.cells #[.int .i64 v1, .int .i64 i1, .int .i64 (1 + q1), .slice none 0 0, .slice A q c] 70)) (fun b => w.heap.size + 1 < b) (.slice A q c) (qL q) := by unfold RdV; rw [qL_len]; exact HOw.out.keeps ⟨by omega, fun b hb hlt => ⟨((alloc_below Wa _).block b (by omega)).trans (hks b hb.2), by have := hb.2; omega⟩⟩
  have hca : RdC (Wa.alloc (.cells #[.int .i64 v1, .int .i64 i1, .int .i64 (1 + q1), .slice none 0 0, .slice A q c] 70)) (fun b => w.heap.size + 1 < b) (.slice (some ⟨w5.heap.size, 0, none⟩) 1 1) [(⟨v1, i1, 1 + q1, [], qL q⟩ : Psp.Cert)] := ⟨[⟨⟨v1, i1, 1 + q1, [], qL q⟩, .slice none 0 0, .slice A q c⟩], rfl, ⟨rfl, _, 1, rfl, Nat.le_refl _, by unfold maxLen; omega, fun _ => ⟨w5.heap.size, 0, rfl, by show w.heap.size + 1 < w5.heap.size; omega, by rw [hsa]; omega, hla⟩⟩, fun y hy => by rw [List.mem_singleton.1 hy]; exact ⟨RdP.none_, hva⟩⟩
  have HRB5' := Lib.hid (show Rb w (Wa.alloc (.cells #[.int .i64 v1, .int .i64 i1, .int .i64 (1 + q1), .slice none 0 0, .slice A q c] 70)) W3.heap.size #[.int .i64 9, .int .i64 pr, .int .i64 0, .int .i64 0, .int .i64 0, .int .i64 0, .slice none 0 0, .slice none 0 0, .slice (some ⟨w5.heap.size, 0, none⟩) 1 1, .slice none 0 0] from Rb.alloc hra (.cells #[.int .i64 v1, .int .i64 i1, .int .i64 (1 + q1), .slice none 0 0, .slice A q c] 70))
  have HMO' := Lib.hid (show MsgOk (Wa.alloc (.cells #[.int .i64 v1, .int .i64 i1, .int .i64 (1 + q1), .slice none 0 0, .slice A q c] 70)) (fun b => w.heap.size + 1 < b) ⟨⟨9, pr, 0, 0, 0, 0, [], [], [⟨v1, i1, 1 + q1, [], qL q⟩], []⟩, .slice none 0 0, .slice none 0 0, (.slice (some ⟨w5.heap.size, 0, none⟩) 1 1), .slice none 0 0⟩ from ⟨RdP.none_, RdP.none_, hca, RdA.nil⟩)
  obtain ⟨W5, hW5⟩ : ∃ W, Wa.alloc (.cells #[.int .i64 v1, .int .i64 i1, .int .i64 (1 + q1), .slice none 0 0, .slice A q c] 70) = W := ⟨_, rfl⟩
  rw [hW5] at HRB5' HMO' ⊢
  have HRB5 := HRB5'
  have HMO := HMO'
  clear hW5 hWa HRB5' HMO' x0 hla hsa hva hca hra hss hks
  have hm5 := HRB5.out.box
  obtain ⟨y0', y1', y2', y3', y4', y5', y6', y7', y8', y9'⟩ := box_cells hm5
  have Hth := Lib.hid (row_there HRB5.out.res)
  obtain ⟨s1, s2⟩ := row_store HRB5.out.res [.int .i64 9, .int .i64 pr, .int .i64 0, .int .i64 0, .int .i64 0, .int .i64 0, .slice none 0 0, .slice none 0 0, .slice (some ⟨w5.heap.size, 0, none⟩) 1 1, .slice none 0 0] rfl
  have T1 := Lib.hid s1
  have T3 := Lib.hid (below_setCells HRB5.out.be (w.heap.size + 1) (by omega) [.int .i64 9, .int .i64 pr, .int .i64 0, .int .i64 0, .int .i64 0, .int .i64 0, .slice none 0 0, .slice none 0 0, .slice (some ⟨w5.heap.size, 0, none⟩) 1 1, .slice none 0 0])
  have HRf := Lib.hid (HMO.out.keeps (P' := fun b => w.heap.size ≤ b) (w' := W5.setCells (w.heap.size + 1) 0 [.int .i64 9, .int .i64 pr, .int .i64 0, .int .i64 0, .int .i64 0, .int .i64 0, .slice none 0 0, .slice none 0 0, .slice (some ⟨w5.heap.size, 0, none⟩) 1 1, .slice none 0 0]) ⟨by rw [setCells_size]; exact Nat.le_refl _, fun b (hb : w.heap.size + 1 < b) hlt => ⟨s2 b (by omega), by omega⟩⟩)
  have HOw' := Lib.hid (trivial)
  clear s1 s2 hm5
  go_wp2_with (first | (refine wpList_store_mid rfl 27 (.tmp 14) (.tmp 142) rfl (w.heap.size + 1) 0 #[.int .i64 9, .int .i64 pr, .int .i64 0, .int .i64 0, .int .i64 0, .int .i64 0, .slice none 0 0, .slice none 0 0, .slice (some ⟨w5.heap.size, 0, none⟩) 1 1, .slice none 0 0] rfl rfl Hth.out sizeM (by simp [Value.oneCell']) ?_))
  refine bodyPost_ret (v := .agg #[.int .i64 9, .int .i64 pr, .int .i64 0, .int .i64 0, .int .i64 0, .int .i64 0, .slice none 0 0, .slice none 0 0, .slice (some ⟨w5.heap.size, 0, none⟩) 1 1, .slice none 0 0]) ?_ rfl ?_
  · exact results_cell_row Try.results27 _ _ (w.heap.size + 1) _ _ _ _ rfl T1.out Try.underlying27 rfl sizeM
  · have hE := HE.out
    rw [hE]
    exact ⟨none, none, (some ⟨w5.heap.size, 0, none⟩), none, 0, 0, 1, 0, rfl, HRf.out, T3.out, owns_none⟩
end Go.Proofs.Ytljfoajhobambaa

end

section
/- psephoslaw06.right, every kind; what its message is worth: its form, its bytes, how many they are. -/
namespace Go.Proofs.Ytljfoajhobambaa
open Go.RowKit
set_option linter.unusedVariables false
set_option linter.unusedSimpArgs false

/-- What right returns. -/
def rightA (k0 f0 c0 v0 i0 q0 y0 z0 : Int) (q : Nat) : Psp.Msg :=
  rightM (1 + Psp.within k0 10) (1 + Psp.within f0 4) (1 + Psp.within c0 4) (Psp.within v0 12) (Psp.within i0 (1 + Psp.within f0 4 + 1)) (1 + Psp.within q0 16) (Psp.within y0 64) (Psp.within z0 1000) (z0.tmod 1000)
    (Psp.primary (1 + Psp.within f0 4) (Psp.within v0 12) (Psp.within i0 (1 + Psp.within f0 4 + 1))) (Psp.primary (1 + Psp.within f0 4) (Psp.within v0 12 + 1) (Psp.within i0 (1 + Psp.within f0 4 + 1))) q
theorem right_any (k0 f0 c0 v0 i0 q0 o0 y0 z0 : Int) (w : World) (hk : isI64 k0) (hf : isI64 f0) (hc : isI64 c0) (hv : isI64 v0) (hi : isI64 i0) (hq : isI64 q0) (hy : isI64 y0) (hz : isI64 z0) (q : Nat) (hqq : (q : Int) = 2 * (1 + Psp.within f0 4) + 1) :
    Calls Try.prog 27 #[.int .i64 k0, .int .i64 f0, .int .i64 c0, .int .i64 v0, .int .i64 i0, .int .i64 q0, .agg #[.int .i64 o0, .int .i64 y0, .int .i64 z0]] w (Gives (rightA k0 f0 c0 v0 i0 q0 y0 z0 q) w) := by
  have a0 : 0 ≤ Psp.within k0 10 := Psp.within_lo _ _
  have a1 : Psp.within k0 10 < 10 := Psp.within_hi _ _ (by omega)
  have cases : Psp.within k0 10 = 0 ∨ Psp.within k0 10 = 1 ∨ Psp.within k0 10 = 2 ∨ Psp.within k0 10 = 3 ∨ Psp.within k0 10 = 4 ∨ Psp.within k0 10 = 5 ∨ Psp.within k0 10 = 6 ∨ Psp.within k0 10 = 7 ∨ Psp.within k0 10 = 8 ∨ Psp.within k0 10 = 9 := by omega
  rcases cases with h | h | h | h | h | h | h | h | h | h
  · have := right_1 k0 f0 c0 v0 i0 q0 o0 y0 z0 w hk hf hc hv hi hq hy hz q hqq h
    unfold rightA; rw [h]; simpa [rightM] using this
  · have := right_2 k0 f0 c0 v0 i0 q0 o0 y0 z0 w hk hf hc hv hi hq hy hz h
    unfold rightA; rw [h]; simpa [rightM] using this
  · have := right_3 k0 f0 c0 v0 i0 q0 o0 y0 z0 w hk hf hc hv hi hq hy hz q hqq h
    unfold rightA; rw [h]; simpa [rightM] using this
  · have := right_4 k0 f0 c0 v0 i0 q0 o0 y0 z0 w hk hf hc hv hi hq hy hz q hqq h
    unfold rightA; rw [h]; simpa [rightM] using this
  · have := right_5 k0 f0 c0 v0 i0 q0 o0 y0 z0 w hk hf hc hv hi hq hy hz q hqq h
    unfold rightA; rw [h]; simpa [rightM] using this
  · have := right_6 k0 f0 c0 v0 i0 q0 o0 y0 z0 w hk hf hc hv hi hq hy hz h
    unfold rightA; rw [h]; simpa [rightM] using this
  · have := right_7 k0 f0 c0 v0 i0 q0 o0 y0 z0 w hk hf hc hv hi hq hy hz q hqq h
    unfold rightA; rw [h]; simpa [rightM] using this
  · have := right_8 k0 f0 c0 v0 i0 q0 o0 y0 z0 w hk hf hc hv hi hq hy hz q hqq h
    unfold rightA; rw [h]; simpa [rightM] using this
  · have := right_9 k0 f0 c0 v0 i0 q0 o0 y0 z0 w hk hf hc hv hi hq hy hz q hqq h
    unfold rightA; rw [h]; simpa [rightM] using this
  · have := right_10 k0 f0 c0 v0 i0 q0 o0 y0 z0 w hk hf hc hv hi hq hy hz h
    unfold rightA; rw [h]
    simp only [rightM, Int.reduceAdd, Int.reduceEq, or_self, if_false]
    rw [show 1 + Psp.within c0 4 - 1 = Psp.within c0 4 by omega]
    exact this

/-- A message whose numbers are small and whose lists are short. -/
structure Small (m : Psp.Msg) : Prop where
  k : 0 ≤ m.k ∧ m.k < 1000
  f : 0 ≤ m.f ∧ m.f < 1000
  v : 0 ≤ m.v ∧ m.v < 1000
  i : 0 ≤ m.i ∧ m.i < 1000
  q : 0 ≤ m.q ∧ m.q < 1000
  r : -1000 < m.r ∧ m.r < 1000
  b : Psp.okL Psp.okR m.b = true ∧ (Psp.encL Psp.encR m.b).length ≤ 2000
  o : Psp.okL Psp.okV m.o = true ∧ (Psp.encL Psp.encV m.o).length ≤ 2000
  c : Psp.okL Psp.okC m.c = true ∧ (Psp.encL Psp.encC m.c).length ≤ 2000
  p : Psp.okL Psp.okP m.p = true ∧ (Psp.encL Psp.encP m.p).length ≤ 2000
theorem Small.ok {m : Psp.Msg} (h : Small m) : Psp.okB m = true := okB_of h.k h.f h.v h.i h.q h.r h.b h.o h.c h.p
theorem Small.len {m : Psp.Msg} (h : Small m) : (Psp.encM m).length ≤ 60000 := by
  have a1 : Psp.okN m.k = true := okN_of h.k.1 (by have := h.k.2; omega)
  have a2 : Psp.okN m.f = true := okN_of h.f.1 (by have := h.f.2; omega)
  have a3 : Psp.okN m.v = true := okN_of h.v.1 (by have := h.v.2; omega)
  have a4 : Psp.okN m.i = true := okN_of h.i.1 (by have := h.i.2; omega)
  have a5 : Psp.okN m.q = true := okN_of h.q.1 (by have := h.q.2; omega)
  unfold Psp.encM
  simp only [List.length_append]
  have := Psp.lenN a1
  have := Psp.lenN a2
  have := Psp.lenN a3
  have := Psp.lenN a4
  have := Psp.lenN a5
  have := (Psp.encS_len m.r).2
  have := h.b.2
  have := h.o.2
  have := h.c.2
  have := h.p.2
  omega
theorem Small.okE {m : Psp.Msg} (h : Small m) {s : Int} (h0 : 0 ≤ s) (h1 : s < 1000) : okE s (Psp.encM m) = true := by
  have a : Psp.okN s = true := okN_of h0 (by omega)
  have := Psp.lenN a
  have := h.len
  unfold Go.Proofs.Ytljfoajhobambaa.okE
  rw [a, Bool.true_and, decide_eq_true_eq]
  omega
theorem right_small {k f cl view inst seq y v z p p' : Int} (hk : 1 ≤ k ∧ k ≤ 10) (hf : 1 ≤ f ∧ f ≤ 4) (hc : 1 ≤ cl ∧ cl ≤ 4) (hv : 0 ≤ view ∧ view < 12) (hi : 0 ≤ inst ∧ inst ≤ f) (hs : 1 ≤ seq ∧ seq ≤ 16) (hy : 0 ≤ y ∧ y < 64) (hx : 0 ≤ v ∧ v < 1000) (hz : -1000 < z ∧ z < 1000) (hp : 0 ≤ p ∧ p < 100) (hp' : 0 ≤ p' ∧ p' < 100) {q : Nat} (hq : q ≤ 9) :
    Small (rightM k f cl view inst seq y v z p p' q) := by
  have nb : Psp.okL Psp.okR ([] : List Psp.Req) = true ∧ (Psp.encL Psp.encR ([] : List Psp.Req)).length ≤ 2000 := ⟨rfl, Nat.le_trans nil_lenL (by omega)⟩
  have no : Psp.okL Psp.okV ([] : List Psp.Vote) = true ∧ (Psp.encL Psp.encV ([] : List Psp.Vote)).length ≤ 2000 := ⟨rfl, Nat.le_trans nil_lenL (by omega)⟩
  have nc : Psp.okL Psp.okC ([] : List Psp.Cert) = true ∧ (Psp.encL Psp.encC ([] : List Psp.Cert)).length ≤ 2000 := ⟨rfl, Nat.le_trans nil_lenL (by omega)⟩
  have np : Psp.okL Psp.okP ([] : List Psp.Part) = true ∧ (Psp.encL Psp.encP ([] : List Psp.Part)).length ≤ 2000 := ⟨rfl, Nat.le_trans nil_lenL (by omega)⟩
  have rb : Psp.okL Psp.okR [rqR cl seq y v] = true ∧ (Psp.encL Psp.encR [rqR cl seq y v]).length ≤ 2000 := ⟨one_okL (rq_ok hc hs hy hx), Nat.le_trans (one_lenL (Psp.lenR (rq_ok hc hs hy hx))) (by omega)⟩
  have qo : Psp.okL Psp.okV (qL q) = true ∧ (Psp.encL Psp.encV (qL q)).length ≤ 2000 := ⟨q_okL hq, Nat.le_trans (q_lenL hq) (by omega)⟩
  have cc : Psp.okL Psp.okC [(⟨view, inst, seq, [], qL q⟩ : Psp.Cert)] = true ∧ (Psp.encL Psp.encC [(⟨view, inst, seq, [], qL q⟩ : Psp.Cert)]).length ≤ 2000 := ⟨one_okL (c_ok ⟨hv.1, by omega⟩ ⟨hi.1, by omega⟩ hs hq), Nat.le_trans (one_lenL (c_len ⟨hv.1, by omega⟩ ⟨hi.1, by omega⟩ hs hq)) (by omega)⟩
  have pp : Psp.okL Psp.okP (ptsR f q q) = true ∧ (Psp.encL Psp.encP (ptsR f q q)).length ≤ 2000 := ⟨(pts_okL hf hq).1, Nat.le_trans (pts_okL hf hq).2 (by omega)⟩
  have ks : k = 1 ∨ k = 2 ∨ k = 3 ∨ k = 4 ∨ k = 5 ∨ k = 6 ∨ k = 7 ∨ k = 8 ∨ k = 9 ∨ k = 10 := by omega
  rcases ks with rfl | rfl | rfl | rfl | rfl | rfl | rfl | rfl | rfl | rfl
  all_goals
    simp only [rightM, Int.reduceEq, true_or, or_true, false_or, or_self, if_true, if_false]
    refine ⟨?_, ?_, ?_, ?_, ?_, ?_, (by first | exact nb | exact rb), (by first | exact no | exact qo), (by first | exact nc | exact cc), (by first | exact np | exact pp)⟩ <;> dsimp only <;> omega
theorem prim_bd {f v i : Int} (hf : 1 ≤ f ∧ f ≤ 4) (hv : 0 ≤ v ∧ v ≤ 12) (hi : 0 ≤ i ∧ i ≤ f) : 0 ≤ Psp.primary f v i ∧ Psp.primary f v i < 100 := by
  unfold Psp.primary
  rw [if_pos ⟨hf.1, hf.2, hv.1, by omega, hi.1, hi.2⟩]
  have := Int.emod_nonneg (v + i) (show 3 * f + 1 ≠ 0 by omega)
  have := Int.emod_lt_of_pos (v + i) (show 0 < 3 * f + 1 by omega)
  omega
/-- All of it. -/
theorem right_is (k0 f0 c0 v0 i0 q0 y0 z0 : Int) (q : Nat) (hqq : (q : Int) = 2 * (1 + Psp.within f0 4) + 1) :
    Small (rightA k0 f0 c0 v0 i0 q0 y0 z0 q) ∧ Psp.formM (rightA k0 f0 c0 v0 i0 q0 y0 z0 q) (1 + Psp.within f0 4) (1 + Psp.within c0 4) = true := by
  have k1 : 0 ≤ Psp.within k0 10 := Psp.within_lo _ _
  have k2 : Psp.within k0 10 < 10 := Psp.within_hi _ _ (by omega)
  have f1 : 0 ≤ Psp.within f0 4 := Psp.within_lo _ _
  have f2 : Psp.within f0 4 < 4 := Psp.within_hi _ _ (by omega)
  have c1 : 0 ≤ Psp.within c0 4 := Psp.within_lo _ _
  have c2 : Psp.within c0 4 < 4 := Psp.within_hi _ _ (by omega)
  have v1 : 0 ≤ Psp.within v0 12 := Psp.within_lo _ _
  have v2 : Psp.within v0 12 < 12 := Psp.within_hi _ _ (by omega)
  have i1 : 0 ≤ Psp.within i0 (1 + Psp.within f0 4 + 1) := Psp.within_lo _ _
  have i2 : Psp.within i0 (1 + Psp.within f0 4 + 1) < 1 + Psp.within f0 4 + 1 := Psp.within_hi _ _ (by omega)
  have q1 : 0 ≤ Psp.within q0 16 := Psp.within_lo _ _
  have q2 : Psp.within q0 16 < 16 := Psp.within_hi _ _ (by omega)
  have y1 : 0 ≤ Psp.within y0 64 := Psp.within_lo _ _
  have y2 : Psp.within y0 64 < 64 := Psp.within_hi _ _ (by omega)
  have z1 : 0 ≤ Psp.within z0 1000 := Psp.within_lo _ _
  have z2 : Psp.within z0 1000 < 1000 := Psp.within_hi _ _ (by omega)
  have t1 : -1000 < z0.tmod 1000 := by have := Int.lt_tmod_of_pos z0 (show (0:Int) < 1000 by omega); omega
  have t2 : z0.tmod 1000 < 1000 := Int.tmod_lt_of_pos z0 (by omega)
  unfold rightA
  exact ⟨right_small ⟨by omega, by omega⟩ ⟨by omega, by omega⟩ ⟨by omega, by omega⟩ ⟨v1, v2⟩ ⟨i1, by omega⟩ ⟨by omega, by omega⟩ ⟨y1, y2⟩ ⟨z1, z2⟩ ⟨t1, t2⟩ (prim_bd ⟨by omega, by omega⟩ ⟨v1, by omega⟩ ⟨i1, by omega⟩) (prim_bd ⟨by omega, by omega⟩ ⟨by omega, by omega⟩ ⟨i1, by omega⟩) (by omega),
    right_form ⟨by omega, by omega⟩ ⟨by omega, by omega⟩ ⟨by omega, by omega⟩ ⟨v1, v2⟩ ⟨i1, by omega⟩ ⟨by omega, by omega⟩ ⟨y1, y2⟩ ⟨z1, z2⟩ ⟨t1, t2⟩ hqq⟩
end Go.Proofs.Ytljfoajhobambaa

end
