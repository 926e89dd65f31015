/- psephoslaw06.cut: a certificate with all numbers in their ranges. Printed by gen_ct.py. -/
import Derived.Test.YtadpkjgjciodnaaGreatPhXVi
import Derived.Test.YtadpkjgjciodnaaGreatJ24Vi
import Derived.Test.YtadpkjgjciodnaaGreatJ29Vi
import Derived.Deep.RegionWith
namespace Psp
/-- A request with its numbers in their ranges. -/
def cutR (cl : Int) (r : Req) : Req := ⟨within r.c cl, 1 + within r.t 50, 1, within r.y 64, within r.v 100, 0⟩
/-- A certificate with all numbers in their ranges. -/
def cutC (c : Cert) (f cl : Int) : Cert := ⟨within c.v 13, within c.i (f + 1), 1 + within c.q 16, (c.b.take 3).map (cutR cl), c.o⟩
end Psp
namespace Go.Proofs.YtadpkjgjciodnaaGreat
open Go.RowKit
set_option linter.unusedVariables false
set_option linter.unusedSimpArgs false

theorem within_i (v n : Int) (w : World) (hv : isI64 v) (hn : isI64 n) : Calls Tryz.prog 8 #[.int .i64 v, .int .i64 n] w fun e w' => e = .returned (.int .i64 (Psp.within v n)) ∧ w = w' := within_any v n w hv.1 hv.2 hn.1 hn.2
set_option maxRecDepth 100000 in
set_option maxHeartbeats 8000000 in
theorem cut_m (c : Psp.Cert) (A1 A2 : Option Addr) (c1 c2 : Nat) (f cl : Int) (w : World) (P : Nat → Prop) (hx : CertOk w P ⟨c, .slice A1 c.b.length c1, .slice A2 c.o.length c2⟩) (hw : wfCert c) (hf : 1 ≤ f ∧ f ≤ 4) (hcl : 1 ≤ cl ∧ cl ≤ 4) :
    Calls Tryz.prog 11 #[.agg #[.int .i64 c.v, .int .i64 c.i, .int .i64 c.q, .slice A1 c.b.length c1, .slice A2 c.o.length c2], .int .i64 f, .int .i64 cl] w fun e w' => ∃ A n' c', e = .returned (.agg #[.int .i64 (Psp.cutC c f cl).v, .int .i64 (Psp.cutC c f cl).i, .int .i64 (Psp.cutC c f cl).q, .slice A n' c', .slice A2 c.o.length c2]) ∧ n' = (Psp.cutC c f cl).b.length ∧
      w'.ownsRow w.heap.size 58 6 (.slice A n' c') n' ((Psp.cutC c f cl).b.flatMap rq) ∧ Below w.heap.size w w' := by
  obtain ⟨n, hn⟩ : ∃ n, c.b.length = n := ⟨_, rfl⟩
  have Hn := Lib.hid hn
  rw [hn] at hx ⊢
  have HX := Lib.hid hx
  have Hw := Lib.hid hw
  have i0 := hw.1
  have i1 := hw.2.1
  have i2 := hw.2.2.1
  have q0 : 0 ≤ Psp.within c.q 16 ∧ Psp.within c.q 16 < 16 := ⟨Psp.within_lo _ _, Psp.within_hi _ _ (by omega)⟩
  have Hc : Hid (Psp.cutC c f cl = ⟨(Psp.within c.v 13), (Psp.within c.i (f + 1)), (1 + Psp.within c.q 16), (c.b.take 3).map (Psp.cutR cl), c.o⟩) := Lib.hid rfl
  have hwf : IntKind.i64.wrap (f + 1) = f + 1 := IntWalk.i64_in _ (by omega)
  have hwq : IntKind.i64.wrap (1 + Psp.within c.q 16) = 1 + Psp.within c.q 16 := IntWalk.i64_in _ (by omega)
  have hb0 := (alloc_below w (.cells #[.int .i64 c.v, .int .i64 c.i, .int .i64 c.q, .slice A1 n c1, .slice A2 c.o.length c2] 25)).trans ((alloc_below (w.alloc (.cells #[.int .i64 c.v, .int .i64 c.i, .int .i64 c.q, .slice A1 n c1, .slice A2 c.o.length c2] 25)) (.cells #[.int .i64 0, .int .i64 0, .int .i64 0, .slice none 0 0, .slice none 0 0] 25)).mono (by simp))
  have hc0 := box_below (heap_alloc_new w (.cells #[.int .i64 c.v, .int .i64 c.i, .int .i64 c.q, .slice A1 n c1, .slice A2 c.o.length c2] 25)) (alloc_below (w.alloc (.cells #[.int .i64 c.v, .int .i64 c.i, .int .i64 c.q, .slice A1 n c1, .slice A2 c.o.length c2] 25)) (.cells #[.int .i64 0, .int .i64 0, .int .i64 0, .slice none 0 0, .slice none 0 0] 25)) (Nat.le_refl _)
  have hd0 : ((w.alloc (.cells #[.int .i64 c.v, .int .i64 c.i, .int .i64 c.q, .slice A1 n c1, .slice A2 c.o.length c2] 25)).alloc (.cells #[.int .i64 0, .int .i64 0, .int .i64 0, .slice none 0 0, .slice none 0 0] 25)).heap[w.heap.size + 1]? = some (.cells #[.int .i64 0, .int .i64 0, .int .i64 0, .slice none 0 0, .slice none 0 0] 25 (0, 0)) := by have h := heap_alloc_new (w.alloc (.cells #[.int .i64 c.v, .int .i64 c.i, .int .i64 c.q, .slice A1 n c1, .slice A2 c.o.length c2] 25)) (.cells #[.int .i64 0, .int .i64 0, .int .i64 0, .slice none 0 0, .slice none 0 0] 25); simpa using h
  have hs0 : ((w.alloc (.cells #[.int .i64 c.v, .int .i64 c.i, .int .i64 c.q, .slice A1 n c1, .slice A2 c.o.length c2] 25)).alloc (.cells #[.int .i64 0, .int .i64 0, .int .i64 0, .slice none 0 0, .slice none 0 0] 25)).heap.size = w.heap.size + 2 := by simp
  clear hn hx hw
  go_enter Tryz.func11, Tryz.ntmps11
  go_upto_region 1 with fail
  obtain ⟨W, hW⟩ : ∃ W, (w.alloc (.cells #[.int .i64 c.v, .int .i64 c.i, .int .i64 c.q, .slice A1 n c1, .slice A2 c.o.length c2] 25)).alloc (.cells #[.int .i64 0, .int .i64 0, .int .i64 0, .slice none 0 0, .slice none 0 0] 25) = W := ⟨_, rfl⟩
  rw [hW] at hb0 hc0 hd0 hs0 ⊢
  have HB0 := Lib.hid hb0
  have HC0 := Lib.hid hc0
  have HD0 := Lib.hid hd0
  have hsW : w.heap.size + 2 ≤ W.heap.size := by omega
  have y0 : W.cell? ⟨w.heap.size, 0, none⟩ = some (.int .i64 c.v) := by rw [cell_of_row W _ 0 _ _ _ hc0]; rfl
  have y1 : W.cell? ⟨w.heap.size, 1, none⟩ = some (.int .i64 c.i) := by rw [cell_of_row W _ 1 _ _ _ hc0]; rfl
  have y2 : W.cell? ⟨w.heap.size, 2, none⟩ = some (.int .i64 c.q) := by rw [cell_of_row W _ 2 _ _ _ hc0]; rfl
  have z0 : W.frozen? ⟨w.heap.size, 0, none⟩ = false := frozen_of_row W _ 0 _ _ hc0
  have z1 : W.frozen? ⟨w.heap.size, 1, none⟩ = false := frozen_of_row W _ 1 _ _ hc0
  have z2 : W.frozen? ⟨w.heap.size, 2, none⟩ = false := frozen_of_row W _ 2 _ _ hc0
  clear hW hb0 hc0 hd0 hs0
  have l0 := later_cell (w := W.drew) (show W.drew.cell? ⟨w.heap.size, 0, none⟩ = some (.int .i64 c.v) from y0)
  have l1 := later_cell (w := W.drew) (show W.drew.cell? ⟨w.heap.size, 1, none⟩ = some (.int .i64 c.i) from y1)
  have l2 := later_cell (w := W.drew) (show W.drew.cell? ⟨w.heap.size, 2, none⟩ = some (.int .i64 c.q) from y2)
  refine wp_region_steps 18 (by kernel_rfl) (by kernel_rfl) ?_
  refine wpAny_pre 0 (by kernel_rfl) (fun _ d _ _ _ h => by cases d <;> exact h) ?_
  simp only [List.getElem?_cons_zero, List.getElem?_cons_succ, Option.toList]
  repeat (first | go_big_quiet_step (fail) | quiet_step (fail) | refine wpQuiet_nil ?_)
  refine wpAny_pre 3 (by kernel_rfl) (fun _ d _ _ _ h => by cases d <;> exact h) ?_
  simp only [List.getElem?_cons_zero, List.getElem?_cons_succ, Option.toList]
  repeat (first | go_big_quiet_step (fail) | quiet_step (fail) | refine wpQuiet_nil ?_)
  refine wpAny_pre 5 (by kernel_rfl) (fun _ d _ _ _ h => by cases d <;> exact h) ?_
  simp only [List.getElem?_cons_zero, List.getElem?_cons_succ, Option.toList]
  repeat (first | go_big_quiet_step (fail) | quiet_step (fail) | refine wpQuiet_nil ?_)
  refine wpAny_pre 6 (by kernel_rfl) (fun _ d _ _ _ h => by cases d <;> exact h) ?_
  simp only [List.getElem?_cons_zero, List.getElem?_cons_succ, Option.toList]
  repeat (first | go_big_quiet_step (fail) | quiet_step (fail) | refine wpQuiet_nil ?_)
  refine wpAny_pre 8 (by kernel_rfl) (fun _ d _ _ _ h => by cases d <;> exact h) ?_
  simp only [List.getElem?_cons_zero, List.getElem?_cons_succ, Option.toList]
  repeat (first | go_big_quiet_step (fail) | quiet_step (fail) | refine wpQuiet_nil ?_)
  refine wpAny_pre 12 (by kernel_rfl) (fun _ d _ _ _ h => by cases d <;> exact h) ?_
  simp only [List.getElem?_cons_zero, List.getElem?_cons_succ, Option.toList]
  repeat (first | go_big_quiet_step (fail) | quiet_step (fail) | refine wpQuiet_nil ?_)
  refine wpAny_pre 14 (by kernel_rfl) (fun _ d _ _ _ h => by cases d <;> exact h) ?_
  simp only [List.getElem?_cons_zero, List.getElem?_cons_succ, Option.toList]
  repeat (first | go_big_quiet_step (fail) | quiet_step (fail) | refine wpQuiet_nil ?_)
  refine wpAny_pre 16 (by kernel_rfl) (fun _ d _ _ _ h => by cases d <;> exact h) ?_
  simp only [List.getElem?_cons_zero, List.getElem?_cons_succ, Option.toList]
  repeat (first | go_big_quiet_step (fail) | quiet_step (fail) | refine wpQuiet_nil ?_)
  refine wpAny_stage [0, 3, 5, 6, 8, 12, 14, 16] [(true, 1), (true, 4), (true, 9), (false, 2), (false, 7), (false, 10)] 4 (by kernel_rfl) ?_
  simp only [phW, List.getElem?_cons_zero, List.getElem?_cons_succ, Option.toList, List.length_cons, List.length_nil, Nat.reduceAdd, List.drop_succ_cons, List.drop_zero]
  repeat (first | go_big_quiet_step (fail) | quiet_step (fail) | refine wpQuiet_nil ?_)
  clear l0 l1 l2
  go_wp2_with fail
  refine (within_i _ _ _ (by assumption) (by exact ⟨by omega, by omega⟩)).mono ?_
  rintro e w1 ⟨rfl, rfl⟩
  go_wp2_with fail
  refine And.intro ⟨⟨W.drew, Below.refl _ _⟩, rfl⟩ ?_
  go_wp2_with fail
  refine (within_i _ _ _ (by assumption) (by exact ⟨by omega, by omega⟩)).mono ?_
  rintro e w1 ⟨rfl, rfl⟩
  go_wp2_with fail
  refine And.intro ⟨⟨W.drew, Below.refl _ _⟩, rfl⟩ ?_
  go_wp2_with fail
  refine (within_i _ _ _ (by assumption) (by exact ⟨by omega, by omega⟩)).mono ?_
  rintro e w1 ⟨rfl, rfl⟩
  go_wp2_with fail
  refine And.intro ⟨⟨W.drew, Below.refl _ _⟩, rfl⟩ ?_
  refine wpAny_pre 11 (by kernel_rfl) (fun _ d _ _ _ h => by cases d <;> exact h) ?_
  simp only [List.getElem?_cons_zero, List.getElem?_cons_succ, Option.toList]
  repeat (first | go_big_quiet_step (fail) | quiet_step (fail) | refine wpQuiet_nil ?_)
  refine wpAny_one 13 (by kernel_rfl) ?_
  simp only [List.getElem?_cons_zero, List.getElem?_cons_succ, Option.toList]
  go_wp2_with fail
  refine wpAny_one 15 (by kernel_rfl) ?_
  simp only [List.getElem?_cons_zero, List.getElem?_cons_succ, Option.toList]
  go_wp2_with fail
  refine wpAny_one 17 (by kernel_rfl) ?_
  simp only [List.getElem?_cons_zero, List.getElem?_cons_succ, Option.toList]
  go_wp2_with fail
  refine wpAny_end (by kernel_rfl) ?_
  clear hwf hwq
  go_upto_region 4 with fail
  have hcN : ((((W.setCell ⟨w.heap.size, 0, none⟩ (.int .i64 (Psp.within c.v 13))).setCell ⟨w.heap.size, 1, none⟩ (.int .i64 (Psp.within c.i (f + 1)))).setCell ⟨w.heap.size, 2, none⟩ (.int .i64 (1 + Psp.within c.q 16))).drew).heap[w.heap.size]? = some (.cells #[.int .i64 (Psp.within c.v 13), .int .i64 (Psp.within c.i (f + 1)), .int .i64 (1 + Psp.within c.q 16), .slice A1 n c1, .slice A2 c.o.length c2] 25 (0, 0)) := by
    show (((W.setCell ⟨w.heap.size, 0, none⟩ (.int .i64 (Psp.within c.v 13))).setCell ⟨w.heap.size, 1, none⟩ (.int .i64 (Psp.within c.i (f + 1)))).setCell ⟨w.heap.size, 2, none⟩ (.int .i64 (1 + Psp.within c.q 16))).heap[w.heap.size]? = _
    rw [heap_setCell_same _ _ 2 _ _ _ (heap_setCell_same _ _ 1 _ _ _ (heap_setCell_same W w.heap.size 0 _ _ _ HC0.out))]; rfl
  have hfN : Fp (fun b => b = w.heap.size) W ((((W.setCell ⟨w.heap.size, 0, none⟩ (.int .i64 (Psp.within c.v 13))).setCell ⟨w.heap.size, 1, none⟩ (.int .i64 (Psp.within c.i (f + 1)))).setCell ⟨w.heap.size, 2, none⟩ (.int .i64 (1 + Psp.within c.q 16))).drew) := ((((Fp.refl (fun b => b = w.heap.size) W).setCell (p := ⟨w.heap.size, 0, none⟩) (Or.inl (show w.heap.size = w.heap.size from rfl)) _).setCell (p := ⟨w.heap.size, 1, none⟩) (Or.inl (show w.heap.size = w.heap.size from rfl)) _).setCell (p := ⟨w.heap.size, 2, none⟩) (Or.inl (show w.heap.size = w.heap.size from rfl)) _).drew
  clear y0 y1 y2 z0 z1 z2
  obtain ⟨W1, hW1⟩ : ∃ W1, (((W.setCell ⟨w.heap.size, 0, none⟩ (.int .i64 (Psp.within c.v 13))).setCell ⟨w.heap.size, 1, none⟩ (.int .i64 (Psp.within c.i (f + 1)))).setCell ⟨w.heap.size, 2, none⟩ (.int .i64 (1 + Psp.within c.q 16))).drew = W1 := ⟨_, rfl⟩
  rw [hW1] at hcN hfN ⊢
  clear hW1
  have HC1 := Lib.hid hcN
  have HD1 := Lib.hid ((hfN.block (w.heap.size + 1) (by omega) (by omega)).trans HD0.out)
  have HB1 := Lib.hid (HB0.out.trans (hfN.to_below (B := w.heap.size) (by omega) fun k hk he => by omega))
  clear hcN hfN HC0 HD0 HB0 i0 i1 i2
  have HO1 : Hid (W1.ownsRow (w.heap.size + 2) 58 6 (.slice none 0 0) 0 (((c.b.take 0).map (Psp.cutR cl)).flatMap rq)) := Lib.hid (World.ownsRow_nil _ _ _ _)
  go_loopw [7, 8, 9] (fun o i s9 wr => ∃ (k : Nat) (Ak : Option Addr) (ck : Nat), i = .int .i64 (k : Int) ∧ k ≤ n ∧ k ≤ 3 ∧ o = .slice Ak k ck ∧ Hid (Below w.heap.size w wr) ∧ Hid (wr.heap[w.heap.size]? = some (.cells #[.int .i64 (Psp.within c.v 13), .int .i64 (Psp.within c.i (f + 1)), .int .i64 (1 + Psp.within c.q 16), .slice A1 n c1, .slice A2 c.o.length c2] 25 (0, 0))) ∧ Hid (wr.heap[w.heap.size + 1]? = some (.cells #[.int .i64 0, .int .i64 0, .int .i64 0, .slice none 0 0, .slice none 0 0] 25 (0, 0))) ∧ Hid (wr.ownsRow (w.heap.size + 2) 58 6 (.slice Ak k ck) k (((c.b.take k).map (Psp.cutR cl)).flatMap rq))) (fun _ i _ _ => n - (intOf i).toNat)
  case atStart => exact ⟨0, none, 0, rfl, Nat.zero_le _, Nat.zero_le _, rfl, HB1, HC1, HD1, HO1⟩
  case round =>
    clear HB1 HC1 HD1 HO1
    obtain ⟨k, Ak, ck, rfl, hk, hk3, rfl, HB, HC, HD, HO⟩ := hrel
    have k3 : wr.cell? ⟨w.heap.size, 3, none⟩ = some (.slice A1 n c1) := by rw [cell_of_row _ _ 3 _ _ _ HC.out]; rfl
    have ways : (k < n ∧ k < 3) ∨ ((k < n ∧ k = 3) ∨ k = n) := by omega
    rcases ways with ⟨hlt, h3⟩ | hend
    · have d1 : decide ((k : Int) < (n : Int)) = true := by simp; omega
      have d2 : decide ((k : Int) < 3) = true := by simp; omega
      obtain ⟨b0, o0, c0, he, hb0, _, _, hel⟩ := ri_elem (show RdP w P 6 (.slice A1 n c1) n (c.b.flatMap rq) by have h := HX.out.1; dsimp only at h; rw [Hn.out] at h; exact h) Hn.out (by omega)
      injection he with he1 _ he2
      subst he1 he2
      obtain ⟨x, hx⟩ : ∃ x, c.b[k]? = some x := ⟨c.b[k]'(by rw [Hn.out]; omega), List.getElem?_eq_getElem (by rw [Hn.out]; omega)⟩
      have hrg := hel k x hx wr (HB.out.block b0 hb0)
      have hwx := Hw.out.2.2.2.1 x (List.mem_of_getElem? hx)
      have j0 := hwx.1
      have j1 := hwx.2.1
      have j2 := hwx.2.2.2.1
      have j3 := hwx.2.2.2.2.1
      have q1 : 0 ≤ Psp.within x.t 50 ∧ Psp.within x.t 50 < 50 := ⟨Psp.within_lo _ _, Psp.within_hi _ _ (by omega)⟩
      have hwt : IntKind.i64.wrap (1 + Psp.within x.t 50) = 1 + Psp.within x.t 50 := IntWalk.i64_in _ (by omega)
      have Hcx : Hid ((c.b.take (k + 1)).map (Psp.cutR cl) = (c.b.take k).map (Psp.cutR cl) ++ [Psp.cutR cl x]) := Lib.hid (by obtain ⟨hj, rfl⟩ := List.getElem?_eq_some_iff.1 hx; rw [List.take_succ_eq_append_getElem hj, List.map_append]; rfl)
      have e0 := hrg 0 _ rfl
      have e1 := hrg 1 _ rfl
      have e2 := hrg 2 _ rfl
      have e3 := hrg 3 _ rfl
      have e4 := hrg 4 _ rfl
      have e5 := hrg 5 _ rfl
      simp only [Nat.add_zero, iv] at e0 e1 e2 e3 e4 e5
      have kb0 : (0 : Int) ≤ (k : Int) := by omega
      have kb1 : (k : Int) < (n : Int) := by omega
      have ha := alloc_below wr (.cells #[.int .i64 x.c, .int .i64 x.t, .int .i64 x.k, .int .i64 x.y, .int .i64 x.v, .int .i64 x.s] 58)
      have hr := heap_alloc_new wr (.cells #[.int .i64 x.c, .int .i64 x.t, .int .i64 x.k, .int .i64 x.y, .int .i64 x.v, .int .i64 x.s] 58)
      clear hx hrg hel hwx
      go_upto_region 7 with fail
      clear e0 e1 e2 e3 e4 e5 k3
      obtain ⟨Wa, hWa⟩ : ∃ W, wr.alloc (.cells #[.int .i64 x.c, .int .i64 x.t, .int .i64 x.k, .int .i64 x.y, .int .i64 x.v, .int .i64 x.s] 58) = W := ⟨_, rfl⟩
      rw [hWa] at ha hr ⊢
      have HBa := Lib.hid (Below.then HB.out ha HB.out.size)
      have HCa := Lib.hid (box_below HC.out ha (Nat.le_refl _))
      have HDa := Lib.hid (box_below HD.out ha (Nat.le_refl _))
      have HOa := Lib.hid (own_below HO.out ha)
      have HRa := Lib.hid hr
      have hwM := HB.out.size
      have hNM := (Array.getElem?_eq_some_iff.1 HD.out).1
      have hMa := (Array.getElem?_eq_some_iff.1 hr).1
      have y0 : Wa.cell? ⟨wr.heap.size, 0, none⟩ = some (.int .i64 x.c) := by rw [cell_of_row Wa _ 0 _ _ _ hr]; rfl
      have y1 : Wa.cell? ⟨wr.heap.size, 1, none⟩ = some (.int .i64 x.t) := by rw [cell_of_row Wa _ 1 _ _ _ hr]; rfl
      have y5 : Wa.cell? ⟨wr.heap.size, 5, none⟩ = some (.int .i64 x.s) := by rw [cell_of_row Wa _ 5 _ _ _ hr]; rfl
      have z0 : Wa.frozen? ⟨wr.heap.size, 0, none⟩ = false := frozen_of_row Wa _ 0 _ _ hr
      have z1 : Wa.frozen? ⟨wr.heap.size, 1, none⟩ = false := frozen_of_row Wa _ 1 _ _ hr
      have z5 : Wa.frozen? ⟨wr.heap.size, 5, none⟩ = false := frozen_of_row Wa _ 5 _ _ hr
      have Hlt := Lib.hid (fun b (hb : (Value.slice Ak k ck).ownBlock = some b) => (HO.out.lt b hb).2)
      clear hWa ha hr HB HC HD HO
      have l0 := later_cell (w := Wa.drew) (show Wa.drew.cell? ⟨wr.heap.size, 0, none⟩ = some (.int .i64 x.c) from y0)
      have l1 := later_cell (w := Wa.drew) (show Wa.drew.cell? ⟨wr.heap.size, 1, none⟩ = some (.int .i64 x.t) from y1)
      refine wp_region_steps 14 (by kernel_rfl) (by kernel_rfl) ?_
      refine wpAny_pre 0 (by kernel_rfl) (fun _ d _ _ _ h => by cases d <;> exact h) ?_
      simp only [List.getElem?_cons_zero, List.getElem?_cons_succ, Option.toList]
      repeat (first | go_big_quiet_step (fail) | quiet_step (fail) | refine wpQuiet_nil ?_)
      refine wpAny_pre 2 (by kernel_rfl) (fun _ d _ _ _ h => by cases d <;> exact h) ?_
      simp only [List.getElem?_cons_zero, List.getElem?_cons_succ, Option.toList]
      repeat (first | go_big_quiet_step (fail) | quiet_step (fail) | refine wpQuiet_nil ?_)
      refine wpAny_pre 4 (by kernel_rfl) (fun _ d _ _ _ h => by cases d <;> exact h) ?_
      simp only [List.getElem?_cons_zero, List.getElem?_cons_succ, Option.toList]
      repeat (first | go_big_quiet_step (fail) | quiet_step (fail) | refine wpQuiet_nil ?_)
      refine wpAny_pre 8 (by kernel_rfl) (fun _ d _ _ _ h => by cases d <;> exact h) ?_
      simp only [List.getElem?_cons_zero, List.getElem?_cons_succ, Option.toList]
      repeat (first | go_big_quiet_step (fail) | quiet_step (fail) | refine wpQuiet_nil ?_)
      refine wpAny_pre 10 (by kernel_rfl) (fun _ d _ _ _ h => by cases d <;> exact h) ?_
      simp only [List.getElem?_cons_zero, List.getElem?_cons_succ, Option.toList]
      repeat (first | go_big_quiet_step (fail) | quiet_step (fail) | refine wpQuiet_nil ?_)
      refine wpAny_pre 12 (by kernel_rfl) (fun _ d _ _ _ h => by cases d <;> exact h) ?_
      simp only [List.getElem?_cons_zero, List.getElem?_cons_succ, Option.toList]
      repeat (first | go_big_quiet_step (fail) | quiet_step (fail) | refine wpQuiet_nil ?_)
      refine wpAny_stage [0, 2, 4, 8, 10, 12] [(true, 1), (true, 5), (false, 3), (false, 6)] 4 (by kernel_rfl) ?_
      simp only [phW, List.getElem?_cons_zero, List.getElem?_cons_succ, Option.toList, List.length_cons, List.length_nil, Nat.reduceAdd, List.drop_succ_cons, List.drop_zero]
      repeat (first | go_big_quiet_step (fail) | quiet_step (fail) | refine wpQuiet_nil ?_)
      clear l0 l1
      go_wp2_with fail
      refine (within_i _ _ _ (by assumption) (by exact ⟨by omega, by omega⟩)).mono ?_
      rintro e w1 ⟨rfl, rfl⟩
      go_wp2_with fail
      refine And.intro ⟨⟨Wa.drew, Below.refl _ _⟩, rfl⟩ ?_
      go_wp2_with fail
      refine (within_i _ _ _ (by assumption) (by exact ⟨by omega, by omega⟩)).mono ?_
      rintro e w1 ⟨rfl, rfl⟩
      go_wp2_with fail
      refine And.intro ⟨⟨Wa.drew, Below.refl _ _⟩, rfl⟩ ?_
      refine wpAny_pre 7 (by kernel_rfl) (fun _ d _ _ _ h => by cases d <;> exact h) ?_
      simp only [List.getElem?_cons_zero, List.getElem?_cons_succ, Option.toList]
      repeat (first | go_big_quiet_step (fail) | quiet_step (fail) | refine wpQuiet_nil ?_)
      refine wpAny_one 9 (by kernel_rfl) ?_
      simp only [List.getElem?_cons_zero, List.getElem?_cons_succ, Option.toList]
      go_wp2_with fail
      refine wpAny_one 11 (by kernel_rfl) ?_
      simp only [List.getElem?_cons_zero, List.getElem?_cons_succ, Option.toList]
      go_wp2_with fail
      refine wpAny_one 13 (by kernel_rfl) ?_
      simp only [List.getElem?_cons_zero, List.getElem?_cons_succ, Option.toList]
      go_wp2_with fail
      refine wpAny_end (by kernel_rfl) ?_
      go_upto_region 8 with fail
      have hr7 : ((((Wa.setCell ⟨wr.heap.size, 0, none⟩ (.int .i64 (Psp.within x.c cl))).setCell ⟨wr.heap.size, 1, none⟩ (.int .i64 (1 + Psp.within x.t 50))).setCell ⟨wr.heap.size, 5, none⟩ (.int .i64 0)).drew).heap[wr.heap.size]? = some (.cells #[.int .i64 (Psp.within x.c cl), .int .i64 (1 + Psp.within x.t 50), .int .i64 x.k, .int .i64 x.y, .int .i64 x.v, .int .i64 0] 58 (0, 0)) := by
        show (((Wa.setCell ⟨wr.heap.size, 0, none⟩ (.int .i64 (Psp.within x.c cl))).setCell ⟨wr.heap.size, 1, none⟩ (.int .i64 (1 + Psp.within x.t 50))).setCell ⟨wr.heap.size, 5, none⟩ (.int .i64 0)).heap[wr.heap.size]? = _
        rw [heap_setCell_same _ _ 5 _ _ _ (heap_setCell_same _ _ 1 _ _ _ (heap_setCell_same Wa wr.heap.size 0 _ _ _ HRa.out))]; rfl
      have hf7 : Fp (fun b => b = wr.heap.size) Wa ((((Wa.setCell ⟨wr.heap.size, 0, none⟩ (.int .i64 (Psp.within x.c cl))).setCell ⟨wr.heap.size, 1, none⟩ (.int .i64 (1 + Psp.within x.t 50))).setCell ⟨wr.heap.size, 5, none⟩ (.int .i64 0)).drew) := ((((Fp.refl (fun b => b = wr.heap.size) Wa).setCell (p := ⟨wr.heap.size, 0, none⟩) (Or.inl (show wr.heap.size = wr.heap.size from rfl)) _).setCell (p := ⟨wr.heap.size, 1, none⟩) (Or.inl (show wr.heap.size = wr.heap.size from rfl)) _).setCell (p := ⟨wr.heap.size, 5, none⟩) (Or.inl (show wr.heap.size = wr.heap.size from rfl)) _).drew
      obtain ⟨Wb, hWb⟩ : ∃ Wb, (((Wa.setCell ⟨wr.heap.size, 0, none⟩ (.int .i64 (Psp.within x.c cl))).setCell ⟨wr.heap.size, 1, none⟩ (.int .i64 (1 + Psp.within x.t 50))).setCell ⟨wr.heap.size, 5, none⟩ (.int .i64 0)).drew = Wb := ⟨_, rfl⟩
      rw [hWb] at hr7 hf7 ⊢
      have HR7 := Lib.hid hr7
      have HF7 := Lib.hid hf7
      clear y0 y1 y5 z0 z1 z5 hWb
      have hMb := hf7.size
      have y3 : Wb.cell? ⟨wr.heap.size, 3, none⟩ = some (.int .i64 x.y) := by rw [cell_of_row Wb _ 3 _ _ _ hr7]; rfl
      have y4 : Wb.cell? ⟨wr.heap.size, 4, none⟩ = some (.int .i64 x.v) := by rw [cell_of_row Wb _ 4 _ _ _ hr7]; rfl
      have y2 : Wb.cell? ⟨wr.heap.size, 2, none⟩ = some (.int .i64 x.k) := by rw [cell_of_row Wb _ 2 _ _ _ hr7]; rfl
      have z2 : Wb.frozen? ⟨wr.heap.size, 2, none⟩ = false := frozen_of_row Wb _ 2 _ _ hr7
      have z3 : Wb.frozen? ⟨wr.heap.size, 3, none⟩ = false := frozen_of_row Wb _ 3 _ _ hr7
      have z4 : Wb.frozen? ⟨wr.heap.size, 4, none⟩ = false := frozen_of_row Wb _ 4 _ _ hr7
      have l3 := later_cell (w := Wb.drew) (show Wb.drew.cell? ⟨wr.heap.size, 3, none⟩ = some (.int .i64 x.y) from y3)
      have l4 := later_cell (w := Wb.drew) (show Wb.drew.cell? ⟨wr.heap.size, 4, none⟩ = some (.int .i64 x.v) from y4)
      clear hr7 hf7
      refine wp_region_steps 11 (by kernel_rfl) (by kernel_rfl) ?_
      refine wpAny_pre 0 (by kernel_rfl) (fun _ d _ _ _ h => by cases d <;> exact h) ?_
      simp only [List.getElem?_cons_zero, List.getElem?_cons_succ, Option.toList]
      repeat (first | go_big_quiet_step (fail) | quiet_step (fail) | refine wpQuiet_nil ?_)
      refine wpAny_pre 1 (by kernel_rfl) (fun _ d _ _ _ h => by cases d <;> exact h) ?_
      simp only [List.getElem?_cons_zero, List.getElem?_cons_succ, Option.toList]
      repeat (first | go_big_quiet_step (fail) | quiet_step (fail) | refine wpQuiet_nil ?_)
      refine wpAny_pre 4 (by kernel_rfl) (fun _ d _ _ _ h => by cases d <;> exact h) ?_
      simp only [List.getElem?_cons_zero, List.getElem?_cons_succ, Option.toList]
      repeat (first | go_big_quiet_step (fail) | quiet_step (fail) | refine wpQuiet_nil ?_)
      refine wpAny_pre 5 (by kernel_rfl) (fun _ d _ _ _ h => by cases d <;> exact h) ?_
      simp only [List.getElem?_cons_zero, List.getElem?_cons_succ, Option.toList]
      repeat (first | go_big_quiet_step (fail) | quiet_step (fail) | refine wpQuiet_nil ?_)
      refine wpAny_pre 9 (by kernel_rfl) (fun _ d _ _ _ h => by cases d <;> exact h) ?_
      simp only [List.getElem?_cons_zero, List.getElem?_cons_succ, Option.toList]
      repeat (first | go_big_quiet_step (fail) | quiet_step (fail) | refine wpQuiet_nil ?_)
      refine wpAny_stage [0, 1, 4, 5, 9] [(true, 2), (true, 6), (false, 3), (false, 7)] 2 (by kernel_rfl) ?_
      simp only [phW, List.getElem?_cons_zero, List.getElem?_cons_succ, Option.toList, List.length_cons, List.length_nil, Nat.reduceAdd, List.drop_succ_cons, List.drop_zero]
      repeat (first | go_big_quiet_step (fail) | quiet_step (fail) | refine wpQuiet_nil ?_)
      clear l3 l4
      go_wp2_with fail
      refine (within_i _ _ _ (by assumption) (by exact ⟨by omega, by omega⟩)).mono ?_
      rintro e w1 ⟨rfl, rfl⟩
      go_wp2_with fail
      refine And.intro ⟨⟨Wb.drew, Below.refl _ _⟩, rfl⟩ ?_
      go_wp2_with fail
      refine (within_i _ _ _ (by assumption) (by exact ⟨by omega, by omega⟩)).mono ?_
      rintro e w1 ⟨rfl, rfl⟩
      go_wp2_with fail
      refine And.intro ⟨⟨Wb.drew, Below.refl _ _⟩, rfl⟩ ?_
      refine wpAny_pre 8 (by kernel_rfl) (fun _ d _ _ _ h => by cases d <;> exact h) ?_
      simp only [List.getElem?_cons_zero, List.getElem?_cons_succ, Option.toList]
      repeat (first | go_big_quiet_step (fail) | quiet_step (fail) | refine wpQuiet_nil ?_)
      refine wpAny_one 10 (by kernel_rfl) ?_
      simp only [List.getElem?_cons_zero, List.getElem?_cons_succ, Option.toList]
      go_wp2_with fail
      refine wpAny_end (by kernel_rfl) ?_
      go_upto_region 9 with fail
      have hr8 : ((((Wb.setCell ⟨wr.heap.size, 2, none⟩ (.int .i64 1)).setCell ⟨wr.heap.size, 3, none⟩ (.int .i64 (Psp.within x.y 64))).setCell ⟨wr.heap.size, 4, none⟩ (.int .i64 (Psp.within x.v 100))).drew).heap[wr.heap.size]? = some (.cells #[.int .i64 (Psp.within x.c cl), .int .i64 (1 + Psp.within x.t 50), .int .i64 1, .int .i64 (Psp.within x.y 64), .int .i64 (Psp.within x.v 100), .int .i64 0] 58 (0, 0)) := by
        show (((Wb.setCell ⟨wr.heap.size, 2, none⟩ (.int .i64 1)).setCell ⟨wr.heap.size, 3, none⟩ (.int .i64 (Psp.within x.y 64))).setCell ⟨wr.heap.size, 4, none⟩ (.int .i64 (Psp.within x.v 100))).heap[wr.heap.size]? = _
        rw [heap_setCell_same _ _ 4 _ _ _ (heap_setCell_same _ _ 3 _ _ _ (heap_setCell_same Wb wr.heap.size 2 _ _ _ HR7.out))]; rfl
      have hf8 : Fp (fun b => b = wr.heap.size) Wb ((((Wb.setCell ⟨wr.heap.size, 2, none⟩ (.int .i64 1)).setCell ⟨wr.heap.size, 3, none⟩ (.int .i64 (Psp.within x.y 64))).setCell ⟨wr.heap.size, 4, none⟩ (.int .i64 (Psp.within x.v 100))).drew) := ((((Fp.refl (fun b => b = wr.heap.size) Wb).setCell (p := ⟨wr.heap.size, 2, none⟩) (Or.inl (show wr.heap.size = wr.heap.size from rfl)) _).setCell (p := ⟨wr.heap.size, 3, none⟩) (Or.inl (show wr.heap.size = wr.heap.size from rfl)) _).setCell (p := ⟨wr.heap.size, 4, none⟩) (Or.inl (show wr.heap.size = wr.heap.size from rfl)) _).drew
      obtain ⟨Wc, hWc⟩ : ∃ Wc, (((Wb.setCell ⟨wr.heap.size, 2, none⟩ (.int .i64 1)).setCell ⟨wr.heap.size, 3, none⟩ (.int .i64 (Psp.within x.y 64))).setCell ⟨wr.heap.size, 4, none⟩ (.int .i64 (Psp.within x.v 100))).drew = Wc := ⟨_, rfl⟩
      rw [hWc] at hr8 hf8 ⊢
      have hF : Fp (fun b => b = wr.heap.size) Wa Wc := HF7.out.trans hf8 fun k hk => .inl hk
      have HF := Lib.hid hF
      have hMc := hF.size
      have HOc := Lib.hid (own_keep HOa.out (w' := Wc) fun b hb => hF.block b (HOa.out.lt b hb).2 (by have := Hlt.out b hb; omega))
      clear y2 y3 y4 z2 z3 z4 hWc hF hf8
      have y0 : Wc.cell? ⟨wr.heap.size, 0, none⟩ = some (.int .i64 (Psp.within x.c cl)) := by rw [cell_of_row Wc _ 0 _ _ _ hr8]; rfl
      have y1 : Wc.cell? ⟨wr.heap.size, 1, none⟩ = some (.int .i64 (1 + Psp.within x.t 50)) := by rw [cell_of_row Wc _ 1 _ _ _ hr8]; rfl
      have y2 : Wc.cell? ⟨wr.heap.size, 2, none⟩ = some (.int .i64 1) := by rw [cell_of_row Wc _ 2 _ _ _ hr8]; rfl
      have y3 : Wc.cell? ⟨wr.heap.size, 3, none⟩ = some (.int .i64 (Psp.within x.y 64)) := by rw [cell_of_row Wc _ 3 _ _ _ hr8]; rfl
      have y4 : Wc.cell? ⟨wr.heap.size, 4, none⟩ = some (.int .i64 (Psp.within x.v 100)) := by rw [cell_of_row Wc _ 4 _ _ _ hr8]; rfl
      have y5 : Wc.cell? ⟨wr.heap.size, 5, none⟩ = some (.int .i64 0) := by rw [cell_of_row Wc _ 5 _ _ _ hr8]; rfl
      clear hr8
      have hbs : w.heap.size + 2 ≤ Wc.heap.size := by omega
      go_wp2_with (at_builtin; refine wpList_app1 reqE rfl _ _ rfl (w.heap.size + 2) (.slice Ak k ck) k _ rfl HOc.out _ rfl rfl (by simp [Value.oneCell']) (by omega) (by decide) (by omega) ?_; intro v' w4 hown4 hg4 hb4 _; have Hown4 := Lib.hid hown4; have Hg4 := Lib.hid hg4; clear hown4 hg4 hb4; obtain ⟨A4, c4, rfl, _, _, _⟩ := own_slice Hown4.out)
      have hrow : ∀ j, (Value.slice Ak k ck).ownBlock = some j → w.heap.size + 2 ≤ j := fun j hj => (HOc.out.lt j hj).1
      have hFg : Fp (fun b => w.heap.size + 2 ≤ b) Wa w4 := (HF.out.mono fun j _ hj => by omega).grown Hg4.out (fun j hj => Or.inl (hrow j hj))
      have HBn := Lib.hid (HBa.out.trans (hFg.to_below (B := w.heap.size) (by omega) fun k hk he => by omega))
      have HCn := Lib.hid ((hFg.block w.heap.size (by omega) (by omega)).trans HCa.out)
      have HDn := Lib.hid ((hFg.block (w.heap.size + 1) (by omega) (by omega)).trans HDa.out)
      have HOn : Hid (w4.ownsRow (w.heap.size + 2) 58 6 (.slice A4 (k + 1) c4) (k + 1) (((c.b.take (k + 1)).map (Psp.cutR cl)).flatMap rq)) := Lib.hid (by rw [Hcx.out, List.flatMap_append]; have h := Hown4.out; simpa [rq, iv, Psp.cutR] using h)
      clear hrow hFg y0 y1 y2 y3 y4 y5
      go_wp2_with fail
      first
        | (go_roundw
           case rel => exact ⟨k + 1, A4, c4, by go_num, by omega, by omega, rfl, HBn, HCn, HDn, HOn⟩
           case measure => simp [intOf]; omega)
        | (refine ⟨⟨k + 1, A4, c4, by go_num, by omega, by omega, rfl, HBn, HCn, HDn, HOn⟩, ?_⟩
           simp [intOf]; omega)
    · have Htk : Hid (c.b.take k = c.b.take 3) := Lib.hid (by
        rcases hend with ⟨_, h⟩ | h
        · rw [h]
        · rw [List.take_of_length_le (by rw [Hn.out]; omega), List.take_of_length_le (by rw [Hn.out]; omega)])
      have z3 : wr.frozen? ⟨w.heap.size, 3, none⟩ = false := frozen_of_row _ _ 3 _ _ HC.out
      have hwr := HB.out.size
      have hNM := (Array.getElem?_eq_some_iff.1 HD.out).1
      rcases hend with ⟨hl, h3⟩ | hk0
      · have d1 : decide ((k : Int) < (n : Int)) = true := by simp; omega
        have d2 : decide ((k : Int) < 3) = false := by simp; omega
        clear h3
        go_upto_region 11 with fail
        have hc3 : (wr.setCell ⟨w.heap.size, 3, none⟩ (.slice Ak k ck)).heap[w.heap.size]? = some (.cells #[.int .i64 (Psp.within c.v 13), .int .i64 (Psp.within c.i (f + 1)), .int .i64 (1 + Psp.within c.q 16), .slice Ak k ck, .slice A2 c.o.length c2] 25 (0, 0)) := by rw [heap_setCell_same wr w.heap.size 3 _ _ _ HC.out]; rfl
        have hd3 : (wr.setCell ⟨w.heap.size, 3, none⟩ (.slice Ak k ck)).heap[w.heap.size + 1]? = _ := (Below.heap_setCell wr ⟨w.heap.size, 3, none⟩ _ (w.heap.size + 1) (by show w.heap.size + 1 ≠ w.heap.size; omega)).trans HD.out
        have hf3 : Fp (fun b => b = w.heap.size ∨ b = w.heap.size + 1) wr (wr.setCell ⟨w.heap.size, 3, none⟩ (.slice Ak k ck)) := (Fp.refl _ wr).setCell (p := ⟨w.heap.size, 3, none⟩) (Or.inl (Or.inl (show w.heap.size = w.heap.size from rfl))) _
        obtain ⟨W2, hW2⟩ : ∃ W2, wr.setCell ⟨w.heap.size, 3, none⟩ (.slice Ak k ck) = W2 := ⟨_, rfl⟩
        rw [hW2] at hc3 hd3 hf3 ⊢
        have m0 : W2.cell? ⟨w.heap.size, 0, none⟩ = some (.int .i64 (Psp.within c.v 13)) := by rw [cell_of_row _ _ 0 _ _ _ hc3]; rfl
        have m1 : W2.cell? ⟨w.heap.size, 1, none⟩ = some (.int .i64 (Psp.within c.i (f + 1))) := by rw [cell_of_row _ _ 1 _ _ _ hc3]; rfl
        have m2 : W2.cell? ⟨w.heap.size, 2, none⟩ = some (.int .i64 (1 + Psp.within c.q 16)) := by rw [cell_of_row _ _ 2 _ _ _ hc3]; rfl
        have m3 : W2.cell? ⟨w.heap.size, 3, none⟩ = some (.slice Ak k ck) := by rw [cell_of_row _ _ 3 _ _ _ hc3]; rfl
        have m4 : W2.cell? ⟨w.heap.size, 4, none⟩ = some (.slice A2 c.o.length c2) := by rw [cell_of_row _ _ 4 _ _ _ hc3]; rfl
        have Hth := Lib.hid (row_there hd3)
        obtain ⟨s1, s2⟩ := row_store hd3 [.int .i64 (Psp.within c.v 13), .int .i64 (Psp.within c.i (f + 1)), .int .i64 (1 + Psp.within c.q 16), .slice Ak k ck, .slice A2 c.o.length c2] rfl
        have T1 := Lib.hid s1
        have HFf : Hid (Fp (fun b => b = w.heap.size ∨ b = w.heap.size + 1) wr (W2.setCells (w.heap.size + 1) 0 [.int .i64 (Psp.within c.v 13), .int .i64 (Psp.within c.i (f + 1)), .int .i64 (1 + Psp.within c.q 16), .slice Ak k ck, .slice A2 c.o.length c2])) := Lib.hid (hf3.setCells (Or.inl (Or.inr rfl)) _)
        clear hW2 hc3 hd3 hf3 s1 s2 k3 z3
        go_wp2_with (first | (refine wpList_store_mid rfl 25 (.tmp 6) (.tmp 69) rfl (w.heap.size + 1) 0 #[.int .i64 (Psp.within c.v 13), .int .i64 (Psp.within c.i (f + 1)), .int .i64 (1 + Psp.within c.q 16), .slice Ak k ck, .slice A2 c.o.length c2] rfl rfl Hth.out sizeC (by simp [Value.oneCell']) ?_))
        refine bodyPost_ret (v := .agg #[.int .i64 (Psp.within c.v 13), .int .i64 (Psp.within c.i (f + 1)), .int .i64 (1 + Psp.within c.q 16), .slice Ak k ck, .slice A2 c.o.length c2]) ?_ rfl ?_
        · exact results_cell_row Tryz.results11 _ _ (w.heap.size + 1) _ _ _ _ rfl T1.out Tryz.underlying25 rfl sizeC
        · refine ⟨Ak, k, ck, by rw [Hc.out], ?_, ?_, HB.out.trans (HFf.out.to_below (B := w.heap.size) hwr fun k hk he => by omega)⟩
          · rw [Hc.out, ← Htk.out, List.length_map, List.length_take, Hn.out]; omega
          · rw [Hc.out, ← Htk.out]
            exact own_more (own_keep HO.out fun b hb => HFf.out.block b (HO.out.lt b hb).2 (by have := (HO.out.lt b hb).1; omega)) (by omega)
      · subst hk0
        have d1 : decide ((k : Int) < (k : Int)) = false := by simp
        go_upto_region 11 with fail
        have hc3 : (wr.setCell ⟨w.heap.size, 3, none⟩ (.slice Ak k ck)).heap[w.heap.size]? = some (.cells #[.int .i64 (Psp.within c.v 13), .int .i64 (Psp.within c.i (f + 1)), .int .i64 (1 + Psp.within c.q 16), .slice Ak k ck, .slice A2 c.o.length c2] 25 (0, 0)) := by rw [heap_setCell_same wr w.heap.size 3 _ _ _ HC.out]; rfl
        have hd3 : (wr.setCell ⟨w.heap.size, 3, none⟩ (.slice Ak k ck)).heap[w.heap.size + 1]? = _ := (Below.heap_setCell wr ⟨w.heap.size, 3, none⟩ _ (w.heap.size + 1) (by show w.heap.size + 1 ≠ w.heap.size; omega)).trans HD.out
        have hf3 : Fp (fun b => b = w.heap.size ∨ b = w.heap.size + 1) wr (wr.setCell ⟨w.heap.size, 3, none⟩ (.slice Ak k ck)) := (Fp.refl _ wr).setCell (p := ⟨w.heap.size, 3, none⟩) (Or.inl (Or.inl (show w.heap.size = w.heap.size from rfl))) _
        obtain ⟨W2, hW2⟩ : ∃ W2, wr.setCell ⟨w.heap.size, 3, none⟩ (.slice Ak k ck) = W2 := ⟨_, rfl⟩
        rw [hW2] at hc3 hd3 hf3 ⊢
        have m0 : W2.cell? ⟨w.heap.size, 0, none⟩ = some (.int .i64 (Psp.within c.v 13)) := by rw [cell_of_row _ _ 0 _ _ _ hc3]; rfl
        have m1 : W2.cell? ⟨w.heap.size, 1, none⟩ = some (.int .i64 (Psp.within c.i (f + 1))) := by rw [cell_of_row _ _ 1 _ _ _ hc3]; rfl
        have m2 : W2.cell? ⟨w.heap.size, 2, none⟩ = some (.int .i64 (1 + Psp.within c.q 16)) := by rw [cell_of_row _ _ 2 _ _ _ hc3]; rfl
        have m3 : W2.cell? ⟨w.heap.size, 3, none⟩ = some (.slice Ak k ck) := by rw [cell_of_row _ _ 3 _ _ _ hc3]; rfl
        have m4 : W2.cell? ⟨w.heap.size, 4, none⟩ = some (.slice A2 c.o.length c2) := by rw [cell_of_row _ _ 4 _ _ _ hc3]; rfl
        have Hth := Lib.hid (row_there hd3)
        obtain ⟨s1, s2⟩ := row_store hd3 [.int .i64 (Psp.within c.v 13), .int .i64 (Psp.within c.i (f + 1)), .int .i64 (1 + Psp.within c.q 16), .slice Ak k ck, .slice A2 c.o.length c2] rfl
        have T1 := Lib.hid s1
        have HFf : Hid (Fp (fun b => b = w.heap.size ∨ b = w.heap.size + 1) wr (W2.setCells (w.heap.size + 1) 0 [.int .i64 (Psp.within c.v 13), .int .i64 (Psp.within c.i (f + 1)), .int .i64 (1 + Psp.within c.q 16), .slice Ak k ck, .slice A2 c.o.length c2])) := Lib.hid (hf3.setCells (Or.inl (Or.inr rfl)) _)
        clear hW2 hc3 hd3 hf3 s1 s2 k3 z3
        go_wp2_with (first | (refine wpList_store_mid rfl 25 (.tmp 6) (.tmp 69) rfl (w.heap.size + 1) 0 #[.int .i64 (Psp.within c.v 13), .int .i64 (Psp.within c.i (f + 1)), .int .i64 (1 + Psp.within c.q 16), .slice Ak k ck, .slice A2 c.o.length c2] rfl rfl Hth.out sizeC (by simp [Value.oneCell']) ?_))
        refine bodyPost_ret (v := .agg #[.int .i64 (Psp.within c.v 13), .int .i64 (Psp.within c.i (f + 1)), .int .i64 (1 + Psp.within c.q 16), .slice Ak k ck, .slice A2 c.o.length c2]) ?_ rfl ?_
        · exact results_cell_row Tryz.results11 _ _ (w.heap.size + 1) _ _ _ _ rfl T1.out Tryz.underlying25 rfl sizeC
        · refine ⟨Ak, k, ck, by rw [Hc.out], ?_, ?_, HB.out.trans (HFf.out.to_below (B := w.heap.size) hwr fun k hk he => by omega)⟩
          · rw [Hc.out, ← Htk.out, List.length_map, List.length_take, Hn.out]; omega
          · rw [Hc.out, ← Htk.out]
            exact own_more (own_keep HO.out fun b hb => HFf.out.block b (HO.out.lt b hb).2 (by have := (HO.out.lt b hb).1; omega)) (by omega)
end Go.Proofs.YtadpkjgjciodnaaGreat
