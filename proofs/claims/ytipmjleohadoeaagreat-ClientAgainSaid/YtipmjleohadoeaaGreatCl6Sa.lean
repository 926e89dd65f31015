/- A client's Take. Printed by gen_cl6.py. -/
import Derived.Test.YtipmjleohadoeaaGreatCl5Sa
import Derived.Test.YtipmjleohadoeaaGreatOpSa
import Derived.Test.YtipmjleohadoeaaGreatJ36Sa
namespace Go.Proofs.YtipmjleohadoeaaGreat
open Go.RowKit
set_option linter.unusedVariables false
set_option linter.unusedSimpArgs false

theorem take_idle (U : Nat → Prop) (k ct g : Nat) (c : Cf) (id : Int) (s : CS) (v : Value) (w : World) (h : Clm w U k ct g c id s) (hw : s.waits = false) :
    Calls Tryz.prog 14 #[.pointer (some ⟨k, 0, none⟩), v] w fun e w' => e = .returned (.bool false) ∧ w = w' := by
  obtain ⟨Ai, ci, Aa, ca, Ac, cc, Ao, co, L, ho⟩ := h.opens
  have hrw := ho.row
  rw [hw] at hrw
  have f18 : w.cell? ⟨k, 18, none⟩ = some (.bool false) := rowc hrw 18 rfl
  clear hrw ho h
  go_enter Tryz.func14, Tryz.ntmps14
  go_wp2_with fail
  go_ret
  exact ⟨rfl, rfl⟩

set_option maxRecDepth 100000 in
set_option maxHeartbeats 16000000 in
theorem take_shut (U : Nat → Prop) (g bm k ct : Nat) (K : List Key) (c : Cf) (id : Int) (s : CS) (b : List UInt8) (v : Value) (w : World) (h : Cn w U g bm K k ct c id s) (hw : s.waits = true) (hx : RdP w (fun x => x < w.heap.size) 1 v b.length (b.map bv))
    (hF : ∀ n a m, dN b 0 = some (n, a) → Psp.parseM (b.drop a.toNat) = some m → FormOk c.f c.cl m) (hop : openM b c.f c.cl K = none) :
    Calls Tryz.prog 14 #[.pointer (some ⟨k, 0, none⟩), v] w fun e w' => e = .returned (.bool false) ∧ Below w.heap.size w w' := by
  have HN := Lib.hid h
  have HX := Lib.hid hx
  have HFk := Lib.hid hF
  have HOp := Lib.hid hop
  obtain ⟨Ai, ci, Aa, ca, Ac, cc, Ao, co, L, ho⟩ := h.cm.opens
  clear h hx hF hop
  have hrw := ho.row
  rw [hw] at hrw
  have f18 : w.cell? ⟨k, 18, none⟩ = some (.bool true) := rowc hrw 18 rfl
  clear hrw
  go_enter Tryz.func14, Tryz.ntmps14
  go_upto_region 3 with fail
  clear f18
  have hrow := ho.row
  have hkl := ho.lt k ho.uk
  have l0 := later_cell (w := w.drew) (show w.drew.cell? ⟨k, 0, none⟩ = some (.int .i64 c.f) from rowc hrow 0 rfl)
  have l1 := later_cell (w := w.drew) (show w.drew.cell? ⟨k, 1, none⟩ = some (.int .i64 c.cl) from rowc hrow 1 rfl)
  have l16 := later_cell (w := w.drew) (show w.drew.cell? ⟨k, 16, none⟩ = some (.pointer (some ⟨g, 0, none⟩)) from rowc hrow 16 rfl)
  have HO := Lib.hid ho
  have HLF : Hid (Below w.drew.heap.size w.drew w.drew) := Lib.hid (Below.refl _ _)
  clear hrow ho
  go_cut [5, 6, 7] from 16 (fun mv sv_ ev_ wx => ev_ = .int .i64 2 ∧ Hid (Below w.heap.size w wx))
  case first =>
    refine wp_region_M (fun w' => ∃ p : Later w.drew, w' = p.W) [0, 1, 2, 3, 4, 5, 6, 7, 8, 9, 10, 11, 12, 13, 14, 15, 16, 17, 18, 19, 20, 21, 22, 23] 24 (by kernel_rfl) (by kernel_rfl) ?_
    obtain ⟨Wd, hWd⟩ : ∃ Wd, w.drew = Wd := ⟨_, rfl⟩
    have hdz : Wd.heap.size = w.heap.size := by rw [← hWd]; rfl
    have hdr : Below w.heap.size w Wd := by rw [← hWd]; exact (Below.refl _ _).drew
    have HDz := Lib.hid hdz
    have HDr := Lib.hid hdr
    rw [hWd] at l0 l1 l16 HLF ⊢
    have HND := Lib.hid (HN.out.nt.below hdr)
    have HXD := Lib.hid (RdP.keeps HX.out (Keeps.on hdr))
    clear hWd hdz hdr
    refine wpAnyM_read [] 0 (by kernel_rfl) (fun _ d _ _ _ h => by cases d <;> exact h) ⟨⟨_, HLF.out⟩, rfl⟩ ?_
    simp only [List.getElem?_cons_zero, List.getElem?_cons_succ, Option.toList]
    repeat (first | go_big_quiet_step (fail) | quiet_step (fail) | refine wpQuiet_nil ?_)
    refine wpAnyM_read [0] 1 (by kernel_rfl) (fun _ d _ _ _ h => by cases d <;> exact h) ⟨⟨_, HLF.out⟩, rfl⟩ ?_
    simp only [List.getElem?_cons_zero, List.getElem?_cons_succ, Option.toList]
    repeat (first | go_big_quiet_step (fail) | quiet_step (fail) | refine wpQuiet_nil ?_)
    refine wpAnyM_read [0, 1] 2 (by kernel_rfl) (fun _ d _ _ _ h => by cases d <;> exact h) ⟨⟨_, HLF.out⟩, rfl⟩ ?_
    simp only [List.getElem?_cons_zero, List.getElem?_cons_succ, Option.toList]
    repeat (first | go_big_quiet_step (fail) | quiet_step (fail) | refine wpQuiet_nil ?_)
    refine wpAnyM_read [0, 1, 2] 3 (by kernel_rfl) (fun _ d _ _ _ h => by cases d <;> exact h) ⟨⟨_, HLF.out⟩, rfl⟩ ?_
    simp only [List.getElem?_cons_zero, List.getElem?_cons_succ, Option.toList]
    repeat (first | go_big_quiet_step (fail) | quiet_step (fail) | refine wpQuiet_nil ?_)
    refine wpAnyM_read [0, 1, 2, 3] 4 (by kernel_rfl) (fun _ d _ _ _ h => by cases d <;> exact h) ⟨⟨_, HLF.out⟩, rfl⟩ ?_
    simp only [List.getElem?_cons_zero, List.getElem?_cons_succ, Option.toList]
    repeat (first | go_big_quiet_step (fail) | quiet_step (fail) | refine wpQuiet_nil ?_)
    refine wpAnyM_read [0, 1, 2, 3, 4] 5 (by kernel_rfl) (fun _ d _ _ _ h => by cases d <;> exact h) ⟨⟨_, HLF.out⟩, rfl⟩ ?_
    simp only [List.getElem?_cons_zero, List.getElem?_cons_succ, Option.toList]
    repeat (first | go_big_quiet_step (fail) | quiet_step (fail) | refine wpQuiet_nil ?_)
    refine wpAnyM_read [0, 1, 2, 3, 4, 5] 6 (by kernel_rfl) (fun _ d _ _ _ h => by cases d <;> exact h) ⟨⟨_, HLF.out⟩, rfl⟩ ?_
    simp only [List.getElem?_cons_zero, List.getElem?_cons_succ, Option.toList]
    repeat (first | go_big_quiet_step (fail) | quiet_step (fail) | refine wpQuiet_nil ?_)
    refine wpAnyM_read [0, 1, 2, 3, 4, 5, 6] 7 (by kernel_rfl) (fun _ d _ _ _ h => by cases d <;> exact h) ⟨⟨_, HLF.out⟩, rfl⟩ ?_
    simp only [List.getElem?_cons_zero, List.getElem?_cons_succ, Option.toList]
    repeat (first | go_big_quiet_step (fail) | quiet_step (fail) | refine wpQuiet_nil ?_)
    refine wpAnyM_read [0, 1, 2, 3, 4, 5, 6, 7] 8 (by kernel_rfl) (fun _ d _ _ _ h => by cases d <;> exact h) ⟨⟨_, HLF.out⟩, rfl⟩ ?_
    simp only [List.getElem?_cons_zero, List.getElem?_cons_succ, Option.toList]
    repeat (first | go_big_quiet_step (fail) | quiet_step (fail) | refine wpQuiet_nil ?_)
    refine wpAnyM_read [0, 1, 2, 3, 4, 5, 6, 7, 8] 9 (by kernel_rfl) (fun _ d _ _ _ h => by cases d <;> exact h) ⟨⟨_, HLF.out⟩, rfl⟩ ?_
    simp only [List.getElem?_cons_zero, List.getElem?_cons_succ, Option.toList]
    repeat (first | go_big_quiet_step (fail) | quiet_step (fail) | refine wpQuiet_nil ?_)
    refine wpAnyM_read [0, 1, 2, 3, 4, 5, 6, 7, 8, 9] 10 (by kernel_rfl) (fun _ d _ _ _ h => by cases d <;> exact h) ⟨⟨_, HLF.out⟩, rfl⟩ ?_
    simp only [List.getElem?_cons_zero, List.getElem?_cons_succ, Option.toList]
    repeat (first | go_big_quiet_step (fail) | quiet_step (fail) | refine wpQuiet_nil ?_)
    refine wpAnyM_read [0, 1, 2, 3, 4, 5, 6, 7, 8, 9, 10] 11 (by kernel_rfl) (fun _ d _ _ _ h => by cases d <;> exact h) ⟨⟨_, HLF.out⟩, rfl⟩ ?_
    simp only [List.getElem?_cons_zero, List.getElem?_cons_succ, Option.toList]
    repeat (first | go_big_quiet_step (fail) | quiet_step (fail) | refine wpQuiet_nil ?_)
    refine wpAnyM_read [0, 1, 2, 3, 4, 5, 6, 7, 8, 9, 10, 11] 12 (by kernel_rfl) (fun _ d _ _ _ h => by cases d <;> exact h) ⟨⟨_, HLF.out⟩, rfl⟩ ?_
    simp only [List.getElem?_cons_zero, List.getElem?_cons_succ, Option.toList]
    repeat (first | go_big_quiet_step (fail) | quiet_step (fail) | refine wpQuiet_nil ?_)
    refine wpAnyM_read [0, 1, 2, 3, 4, 5, 6, 7, 8, 9, 10, 11, 12] 13 (by kernel_rfl) (fun _ d _ _ _ h => by cases d <;> exact h) ⟨⟨_, HLF.out⟩, rfl⟩ ?_
    simp only [List.getElem?_cons_zero, List.getElem?_cons_succ, Option.toList]
    repeat (first | go_big_quiet_step (fail) | quiet_step (fail) | refine wpQuiet_nil ?_)
    refine wpAnyM_read [0, 1, 2, 3, 4, 5, 6, 7, 8, 9, 10, 11, 12, 13] 14 (by kernel_rfl) (fun _ d _ _ _ h => by cases d <;> exact h) ⟨⟨_, HLF.out⟩, rfl⟩ ?_
    simp only [List.getElem?_cons_zero, List.getElem?_cons_succ, Option.toList]
    repeat (first | go_big_quiet_step (fail) | quiet_step (fail) | refine wpQuiet_nil ?_)
    clear l0 l1 l16
    refine wpAnyM_two 15 20 (by kernel_rfl) ?_ ?_
    · skip
      simp only [List.getElem?_cons_zero, List.getElem?_cons_succ, Option.toList]
      go_wp2_with fail
      refine (open_m b v c.f c.cl g bm K Wd HXD.out HND.out HFk.out).mono ?_
      rintro e w5 ⟨h1, h2, hbq⟩
      obtain rfl := h2 HOp.out
      replace HLF := Lib.hid (Below.then HLF.out hbq HLF.out.size)
      have HBq := Lib.hid hbq
      have hzq := hbq.size
      clear h1 h2 hbq
      go_wp2_with fail
      first | refine And.intro (fun _ => ⟨⟨_, HLF.out⟩, rfl⟩) ?_ | refine And.intro ⟨⟨_, HLF.out⟩, rfl⟩ ?_
      refine wpAnyM_read [0, 1, 2, 3, 4, 5, 6, 7, 8, 9, 10, 11, 12, 13, 14, 15] 16 (by kernel_rfl) (fun _ d _ _ _ h => by cases d <;> exact h) ⟨⟨_, HLF.out⟩, rfl⟩ ?_
      simp only [List.getElem?_cons_zero, List.getElem?_cons_succ, Option.toList]
      repeat (first | go_big_quiet_step (fail) | quiet_step (fail) | refine wpQuiet_nil ?_)
      refine wpAnyM_read [0, 1, 2, 3, 4, 5, 6, 7, 8, 9, 10, 11, 12, 13, 14, 15, 16] 17 (by kernel_rfl) (fun _ d _ _ _ h => by cases d <;> exact h) ⟨⟨_, HLF.out⟩, rfl⟩ ?_
      simp only [List.getElem?_cons_zero, List.getElem?_cons_succ, Option.toList]
      repeat (first | go_big_quiet_step (fail) | quiet_step (fail) | refine wpQuiet_nil ?_)
      refine wpAnyM_read [0, 1, 2, 3, 4, 5, 6, 7, 8, 9, 10, 11, 12, 13, 14, 15, 16, 17] 18 (by kernel_rfl) (fun _ d _ _ _ h => by cases d <;> exact h) ⟨⟨_, HLF.out⟩, rfl⟩ ?_
      simp only [List.getElem?_cons_zero, List.getElem?_cons_succ, Option.toList]
      repeat (first | go_big_quiet_step (fail) | quiet_step (fail) | refine wpQuiet_nil ?_)
      refine wpAnyM_read [0, 1, 2, 3, 4, 5, 6, 7, 8, 9, 10, 11, 12, 13, 14, 15, 16, 17, 18] 19 (by kernel_rfl) (fun _ d _ _ _ h => by cases d <;> exact h) ⟨⟨_, HLF.out⟩, rfl⟩ ?_
      simp only [List.getElem?_cons_zero, List.getElem?_cons_succ, Option.toList]
      repeat (first | go_big_quiet_step (fail) | quiet_step (fail) | refine wpQuiet_nil ?_)
      refine wpAnyM_one 20 (by kernel_rfl) ?_
      simp only [List.getElem?_cons_zero, List.getElem?_cons_succ, Option.toList]
      go_wp2_with fail
      have hba := alloc_below w5 (.cells #[.int .i64 0, .int .i64 0, .int .i64 0, .int .i64 0, .int .i64 0, .int .i64 0, .slice none 0 0, .slice none 0 0, .slice none 0 0, .slice none 0 0] 56)
      have hca := heap_alloc_new w5 (.cells #[.int .i64 0, .int .i64 0, .int .i64 0, .int .i64 0, .int .i64 0, .int .i64 0, .slice none 0 0, .slice none 0 0, .slice none 0 0, .slice none 0 0] 56)
      replace HLF := Lib.hid (Below.then HLF.out hba HLF.out.size)
      first | refine And.intro (fun _ => ⟨⟨_, HLF.out⟩, rfl⟩) ?_ | refine And.intro ⟨⟨_, HLF.out⟩, rfl⟩ ?_
      obtain ⟨w6, hW_⟩ : ∃ W_, (w5).alloc (.cells #[.int .i64 0, .int .i64 0, .int .i64 0, .int .i64 0, .int .i64 0, .int .i64 0, .slice none 0 0, .slice none 0 0, .slice none 0 0, .slice none 0 0] 56) = W_ := ⟨_, rfl⟩
      rw [hW_] at hba hca HLF ⊢
      have hlt_ := (Array.getElem?_eq_some_iff.1 hca).1
      have HCR := Lib.hid hca
      have HBR := Lib.hid hba
      clear hW_ hba hca
      refine wpAnyM_one 21 (by kernel_rfl) ?_
      simp only [List.getElem?_cons_zero, List.getElem?_cons_succ, Option.toList]
      have hth := row_there HCR.out
      obtain ⟨s1, s2⟩ := row_store HCR.out [.int .i64 0, .int .i64 0, .int .i64 0, .int .i64 0, .int .i64 0, .int .i64 0, .slice none 0 0, .slice none 0 0, .slice none 0 0, .slice none 0 0] rfl
      have hle_ : Wd.heap.size ≤ w5.heap.size := by omega
      have HLS : Hid (Below Wd.heap.size Wd (w6.setCells (w5.heap.size) 0 [.int .i64 0, .int .i64 0, .int .i64 0, .int .i64 0, .int .i64 0, .int .i64 0, .slice none 0 0, .slice none 0 0, .slice none 0 0, .slice none 0 0])) := Lib.hid (((Fp.of_below HLF.out (fun _ => False)).setCells (Or.inr hle_) _).to_below (Nat.le_refl _) fun _ _ h => h.elim)
      have Hth := Lib.hid hth
      have S1 := Lib.hid s1
      clear hth s1 s2
      go_wp2_with (refine wpList_store_mid rfl 56 (.tmp 5) (.tmp 33) rfl (w5.heap.size) 0 #[.int .i64 0, .int .i64 0, .int .i64 0, .int .i64 0, .int .i64 0, .int .i64 0, .slice none 0 0, .slice none 0 0, .slice none 0 0, .slice none 0 0] rfl rfl Hth.out sizeM (by simp [Value.oneCell']) ?_)
      first | refine And.intro (fun _ => ⟨⟨_, HLS.out⟩, rfl⟩) ?_ | refine And.intro ⟨⟨_, HLS.out⟩, rfl⟩ ?_
      refine wpAnyM_one 22 (by kernel_rfl) ?_
      simp only [List.getElem?_cons_zero, List.getElem?_cons_succ, Option.toList]
      go_wp2_with fail
      first | refine And.intro (fun _ => ⟨⟨_, HLS.out⟩, rfl⟩) ?_ | refine And.intro ⟨⟨_, HLS.out⟩, rfl⟩ ?_
      refine wpAnyM_one 23 (by kernel_rfl) ?_
      simp only [List.getElem?_cons_zero, List.getElem?_cons_succ, Option.toList]
      go_wp2_with fail
      first | refine And.intro (fun _ => ⟨⟨_, HLS.out⟩, rfl⟩) ?_ | refine And.intro ⟨⟨_, HLS.out⟩, rfl⟩ ?_
      refine And.intro (by kernel_rfl) ?_
      go_wp2_with fail
      go_meet
      have hfin := Below.then HDr.out HLS.out HDr.out.size
      exact ⟨rfl, Lib.hid hfin⟩
    · skip
      simp only [List.getElem?_cons_zero, List.getElem?_cons_succ, Option.toList]
      go_wp2_with fail
      have hba := alloc_below Wd (.cells #[.int .i64 0, .int .i64 0, .int .i64 0, .int .i64 0, .int .i64 0, .int .i64 0, .slice none 0 0, .slice none 0 0, .slice none 0 0, .slice none 0 0] 56)
      have hca := heap_alloc_new Wd (.cells #[.int .i64 0, .int .i64 0, .int .i64 0, .int .i64 0, .int .i64 0, .int .i64 0, .slice none 0 0, .slice none 0 0, .slice none 0 0, .slice none 0 0] 56)
      replace HLF := Lib.hid (Below.then HLF.out hba HLF.out.size)
      first | refine And.intro (fun _ => ⟨⟨_, HLF.out⟩, rfl⟩) ?_ | refine And.intro ⟨⟨_, HLF.out⟩, rfl⟩ ?_
      obtain ⟨w5, hW_⟩ : ∃ W_, (Wd).alloc (.cells #[.int .i64 0, .int .i64 0, .int .i64 0, .int .i64 0, .int .i64 0, .int .i64 0, .slice none 0 0, .slice none 0 0, .slice none 0 0, .slice none 0 0] 56) = W_ := ⟨_, rfl⟩
      rw [hW_] at hba hca HLF ⊢
      have hlt_ := (Array.getElem?_eq_some_iff.1 hca).1
      have HCR := Lib.hid hca
      have HBR := Lib.hid hba
      clear hW_ hba hca
      have HX5 := Lib.hid (RdP.keeps HXD.out (Keeps.on HBR.out))
      refine wpAnyM_one 15 (by kernel_rfl) ?_
      simp only [List.getElem?_cons_zero, List.getElem?_cons_succ, Option.toList]
      go_wp2_with fail
      refine (open_m b v c.f c.cl g bm K w5 HX5.out (HND.out.below HBR.out) HFk.out).mono ?_
      rintro e w6 ⟨h1, h2, hbq⟩
      obtain rfl := h2 HOp.out
      replace HLF := Lib.hid (Below.then HLF.out hbq HLF.out.size)
      have HBq := Lib.hid hbq
      have hzq := hbq.size
      clear h1 h2 hbq
      go_wp2_with fail
      first | refine And.intro (fun _ => ⟨⟨_, HLF.out⟩, rfl⟩) ?_ | refine And.intro ⟨⟨_, HLF.out⟩, rfl⟩ ?_
      refine wpAnyM_read [0, 1, 2, 3, 4, 5, 6, 7, 8, 9, 10, 11, 12, 13, 14, 20, 15] 16 (by kernel_rfl) (fun _ d _ _ _ h => by cases d <;> exact h) ⟨⟨_, HLF.out⟩, rfl⟩ ?_
      simp only [List.getElem?_cons_zero, List.getElem?_cons_succ, Option.toList]
      repeat (first | go_big_quiet_step (fail) | quiet_step (fail) | refine wpQuiet_nil ?_)
      refine wpAnyM_read [0, 1, 2, 3, 4, 5, 6, 7, 8, 9, 10, 11, 12, 13, 14, 20, 15, 16] 17 (by kernel_rfl) (fun _ d _ _ _ h => by cases d <;> exact h) ⟨⟨_, HLF.out⟩, rfl⟩ ?_
      simp only [List.getElem?_cons_zero, List.getElem?_cons_succ, Option.toList]
      repeat (first | go_big_quiet_step (fail) | quiet_step (fail) | refine wpQuiet_nil ?_)
      refine wpAnyM_read [0, 1, 2, 3, 4, 5, 6, 7, 8, 9, 10, 11, 12, 13, 14, 20, 15, 16, 17] 18 (by kernel_rfl) (fun _ d _ _ _ h => by cases d <;> exact h) ⟨⟨_, HLF.out⟩, rfl⟩ ?_
      simp only [List.getElem?_cons_zero, List.getElem?_cons_succ, Option.toList]
      repeat (first | go_big_quiet_step (fail) | quiet_step (fail) | refine wpQuiet_nil ?_)
      refine wpAnyM_read [0, 1, 2, 3, 4, 5, 6, 7, 8, 9, 10, 11, 12, 13, 14, 20, 15, 16, 17, 18] 19 (by kernel_rfl) (fun _ d _ _ _ h => by cases d <;> exact h) ⟨⟨_, HLF.out⟩, rfl⟩ ?_
      simp only [List.getElem?_cons_zero, List.getElem?_cons_succ, Option.toList]
      repeat (first | go_big_quiet_step (fail) | quiet_step (fail) | refine wpQuiet_nil ?_)
      replace HCR := Lib.hid ((HBq.out.block _ hlt_).trans HCR.out)
      refine wpAnyM_one 21 (by kernel_rfl) ?_
      simp only [List.getElem?_cons_zero, List.getElem?_cons_succ, Option.toList]
      have hth := row_there HCR.out
      obtain ⟨s1, s2⟩ := row_store HCR.out [.int .i64 0, .int .i64 0, .int .i64 0, .int .i64 0, .int .i64 0, .int .i64 0, .slice none 0 0, .slice none 0 0, .slice none 0 0, .slice none 0 0] rfl
      have hle_ : Wd.heap.size ≤ Wd.heap.size := by omega
      have HLS : Hid (Below Wd.heap.size Wd (w6.setCells (Wd.heap.size) 0 [.int .i64 0, .int .i64 0, .int .i64 0, .int .i64 0, .int .i64 0, .int .i64 0, .slice none 0 0, .slice none 0 0, .slice none 0 0, .slice none 0 0])) := Lib.hid (((Fp.of_below HLF.out (fun _ => False)).setCells (Or.inr hle_) _).to_below (Nat.le_refl _) fun _ _ h => h.elim)
      have Hth := Lib.hid hth
      have S1 := Lib.hid s1
      clear hth s1 s2
      go_wp2_with (refine wpList_store_mid rfl 56 (.tmp 5) (.tmp 33) rfl (Wd.heap.size) 0 #[.int .i64 0, .int .i64 0, .int .i64 0, .int .i64 0, .int .i64 0, .int .i64 0, .slice none 0 0, .slice none 0 0, .slice none 0 0, .slice none 0 0] rfl rfl Hth.out sizeM (by simp [Value.oneCell']) ?_)
      first | refine And.intro (fun _ => ⟨⟨_, HLS.out⟩, rfl⟩) ?_ | refine And.intro ⟨⟨_, HLS.out⟩, rfl⟩ ?_
      refine wpAnyM_one 22 (by kernel_rfl) ?_
      simp only [List.getElem?_cons_zero, List.getElem?_cons_succ, Option.toList]
      go_wp2_with fail
      first | refine And.intro (fun _ => ⟨⟨_, HLS.out⟩, rfl⟩) ?_ | refine And.intro ⟨⟨_, HLS.out⟩, rfl⟩ ?_
      refine wpAnyM_one 23 (by kernel_rfl) ?_
      simp only [List.getElem?_cons_zero, List.getElem?_cons_succ, Option.toList]
      go_wp2_with fail
      first | refine And.intro (fun _ => ⟨⟨_, HLS.out⟩, rfl⟩) ?_ | refine And.intro ⟨⟨_, HLS.out⟩, rfl⟩ ?_
      refine And.intro (by kernel_rfl) ?_
      go_wp2_with fail
      go_meet
      have hfin := Below.then HDr.out HLS.out HDr.out.size
      exact ⟨rfl, Lib.hid hfin⟩
  case rest =>
    obtain ⟨rfl, HB⟩ := hcut
    go_wp2_with fail
    refine wp_region_later (by kernel_rfl) (by kernel_rfl) ?_
    repeat (first | go_big_quiet_step (fail))
    refine wpQuiet_nil ?_
    intro w3 hw'
    have hb3 := later_out hw'
    clear hw'
    have HB3 := Lib.hid hb3
    clear hb3
    go_wp2_with fail
    go_ret
    exact ⟨rfl, Below.then HB.out HB3.out HB.out.size⟩

set_option maxRecDepth 100000 in
set_option maxHeartbeats 16000000 in
theorem take_some (U : Nat → Prop) (g bm k ct : Nat) (K : List Key) (c : Cf) (id : Int) (s : CS) (b : List UInt8) (v : Value) (m : Psp.Msg) (x_ : Int) (w : World) (h : Cn w U g bm K k ct c id s) (hw : s.waits = true) (hx : RdP w (fun x => x < w.heap.size) 1 v b.length (b.map bv))
    (hF : ∀ n a m, dN b 0 = some (n, a) → Psp.parseM (b.drop a.toNat) = some m → FormOk c.f c.cl m) (hop : openM b c.f c.cl K = some (m, x_)) (hf : 1 ≤ c.f ∧ c.f ≤ 4) (hl : s.issued ≠ []) (hlen : s.issued.length ≤ 1000000) (hal : s.ans.length ≤ 1000000) (hcl_ : s.acc.length ≤ 1000000) (hb : Bool) (s2 : CS) (hhb : s.hears id m = hb) (hs2 : s2 = if hb = true then s.heard c m else s) :
    Calls Tryz.prog 14 #[.pointer (some ⟨k, 0, none⟩), v] w fun e w' => e = .returned (.bool hb) ∧ ∃ U', Cn w' U' g bm K k ct c id s2 ∧ (∀ b, U' b → U b ∨ w.heap.size ≤ b) ∧ Fp (fun b => U b ∨ b = bm) w w' := by
  have HN := Lib.hid h
  have HX := Lib.hid hx
  have HFk := Lib.hid hF
  have HOp := Lib.hid hop
  obtain ⟨Ai, ci, Aa, ca, Ac, cc, Ao, co, L, ho⟩ := h.cm.opens
  clear h hx hF hop
  have hrw := ho.row
  rw [hw] at hrw
  have f18 : w.cell? ⟨k, 18, none⟩ = some (.bool true) := rowc hrw 18 rfl
  clear hrw
  go_enter Tryz.func14, Tryz.ntmps14
  go_upto_region 3 with fail
  clear f18
  have HHb := Lib.hid hhb
  have HS2 := Lib.hid hs2
  clear hhb hs2
  have hrow := ho.row
  have hkl := ho.lt k ho.uk
  have l0 := later_cell (w := w.drew) (show w.drew.cell? ⟨k, 0, none⟩ = some (.int .i64 c.f) from rowc hrow 0 rfl)
  have l1 := later_cell (w := w.drew) (show w.drew.cell? ⟨k, 1, none⟩ = some (.int .i64 c.cl) from rowc hrow 1 rfl)
  have l16 := later_cell (w := w.drew) (show w.drew.cell? ⟨k, 16, none⟩ = some (.pointer (some ⟨g, 0, none⟩)) from rowc hrow 16 rfl)
  have HO := Lib.hid ho
  have HLF : Hid (Below w.drew.heap.size w.drew w.drew) := Lib.hid (Below.refl _ _)
  clear hrow ho
  go_cut [5, 6, 7] from 16 (fun mv sv_ ev_ wx => ∃ j Gb gb Go_ go_ Gc gc Gp gp, mv = .pointer (some ⟨j, 0, none⟩) ∧ w.heap.size ≤ j ∧ Hid (wx.heap[j]? = some (.cells #[.int .i64 m.k, .int .i64 m.f, .int .i64 m.v, .int .i64 m.i, .int .i64 m.q, .int .i64 m.r, .slice Gb m.b.length gb, .slice Go_ m.o.length go_, .slice Gc m.c.length gc, .slice Gp m.p.length gp] 56 (0, 0))) ∧ ev_ = .int .i64 0 ∧ Hid (Below w.heap.size w wx))
  case first =>
    refine wp_region_M (fun w' => ∃ p : Later w.drew, w' = p.W) [0, 1, 2, 3, 4, 5, 6, 7, 8, 9, 10, 11, 12, 13, 14, 15, 16, 17, 18, 19, 20, 21, 22, 23] 24 (by kernel_rfl) (by kernel_rfl) ?_
    obtain ⟨Wd, hWd⟩ : ∃ Wd, w.drew = Wd := ⟨_, rfl⟩
    have hdz : Wd.heap.size = w.heap.size := by rw [← hWd]; rfl
    have hdr : Below w.heap.size w Wd := by rw [← hWd]; exact (Below.refl _ _).drew
    have HDz := Lib.hid hdz
    have HDr := Lib.hid hdr
    rw [hWd] at l0 l1 l16 HLF ⊢
    have HND := Lib.hid (HN.out.nt.below hdr)
    have HXD := Lib.hid (RdP.keeps HX.out (Keeps.on hdr))
    clear hWd hdz hdr
    refine wpAnyM_read [] 0 (by kernel_rfl) (fun _ d _ _ _ h => by cases d <;> exact h) ⟨⟨_, HLF.out⟩, rfl⟩ ?_
    simp only [List.getElem?_cons_zero, List.getElem?_cons_succ, Option.toList]
    repeat (first | go_big_quiet_step (fail) | quiet_step (fail) | refine wpQuiet_nil ?_)
    refine wpAnyM_read [0] 1 (by kernel_rfl) (fun _ d _ _ _ h => by cases d <;> exact h) ⟨⟨_, HLF.out⟩, rfl⟩ ?_
    simp only [List.getElem?_cons_zero, List.getElem?_cons_succ, Option.toList]
    repeat (first | go_big_quiet_step (fail) | quiet_step (fail) | refine wpQuiet_nil ?_)
    refine wpAnyM_read [0, 1] 2 (by kernel_rfl) (fun _ d _ _ _ h => by cases d <;> exact h) ⟨⟨_, HLF.out⟩, rfl⟩ ?_
    simp only [List.getElem?_cons_zero, List.getElem?_cons_succ, Option.toList]
    repeat (first | go_big_quiet_step (fail) | quiet_step (fail) | refine wpQuiet_nil ?_)
    refine wpAnyM_read [0, 1, 2] 3 (by kernel_rfl) (fun _ d _ _ _ h => by cases d <;> exact h) ⟨⟨_, HLF.out⟩, rfl⟩ ?_
    simp only [List.getElem?_cons_zero, List.getElem?_cons_succ, Option.toList]
    repeat (first | go_big_quiet_step (fail) | quiet_step (fail) | refine wpQuiet_nil ?_)
    refine wpAnyM_read [0, 1, 2, 3] 4 (by kernel_rfl) (fun _ d _ _ _ h => by cases d <;> exact h) ⟨⟨_, HLF.out⟩, rfl⟩ ?_
    simp only [List.getElem?_cons_zero, List.getElem?_cons_succ, Option.toList]
    repeat (first | go_big_quiet_step (fail) | quiet_step (fail) | refine wpQuiet_nil ?_)
    refine wpAnyM_read [0, 1, 2, 3, 4] 5 (by kernel_rfl) (fun _ d _ _ _ h => by cases d <;> exact h) ⟨⟨_, HLF.out⟩, rfl⟩ ?_
    simp only [List.getElem?_cons_zero, List.getElem?_cons_succ, Option.toList]
    repeat (first | go_big_quiet_step (fail) | quiet_step (fail) | refine wpQuiet_nil ?_)
    refine wpAnyM_read [0, 1, 2, 3, 4, 5] 6 (by kernel_rfl) (fun _ d _ _ _ h => by cases d <;> exact h) ⟨⟨_, HLF.out⟩, rfl⟩ ?_
    simp only [List.getElem?_cons_zero, List.getElem?_cons_succ, Option.toList]
    repeat (first | go_big_quiet_step (fail) | quiet_step (fail) | refine wpQuiet_nil ?_)
    refine wpAnyM_read [0, 1, 2, 3, 4, 5, 6] 7 (by kernel_rfl) (fun _ d _ _ _ h => by cases d <;> exact h) ⟨⟨_, HLF.out⟩, rfl⟩ ?_
    simp only [List.getElem?_cons_zero, List.getElem?_cons_succ, Option.toList]
    repeat (first | go_big_quiet_step (fail) | quiet_step (fail) | refine wpQuiet_nil ?_)
    refine wpAnyM_read [0, 1, 2, 3, 4, 5, 6, 7] 8 (by kernel_rfl) (fun _ d _ _ _ h => by cases d <;> exact h) ⟨⟨_, HLF.out⟩, rfl⟩ ?_
    simp only [List.getElem?_cons_zero, List.getElem?_cons_succ, Option.toList]
    repeat (first | go_big_quiet_step (fail) | quiet_step (fail) | refine wpQuiet_nil ?_)
    refine wpAnyM_read [0, 1, 2, 3, 4, 5, 6, 7, 8] 9 (by kernel_rfl) (fun _ d _ _ _ h => by cases d <;> exact h) ⟨⟨_, HLF.out⟩, rfl⟩ ?_
    simp only [List.getElem?_cons_zero, List.getElem?_cons_succ, Option.toList]
    repeat (first | go_big_quiet_step (fail) | quiet_step (fail) | refine wpQuiet_nil ?_)
    refine wpAnyM_read [0, 1, 2, 3, 4, 5, 6, 7, 8, 9] 10 (by kernel_rfl) (fun _ d _ _ _ h => by cases d <;> exact h) ⟨⟨_, HLF.out⟩, rfl⟩ ?_
    simp only [List.getElem?_cons_zero, List.getElem?_cons_succ, Option.toList]
    repeat (first | go_big_quiet_step (fail) | quiet_step (fail) | refine wpQuiet_nil ?_)
    refine wpAnyM_read [0, 1, 2, 3, 4, 5, 6, 7, 8, 9, 10] 11 (by kernel_rfl) (fun _ d _ _ _ h => by cases d <;> exact h) ⟨⟨_, HLF.out⟩, rfl⟩ ?_
    simp only [List.getElem?_cons_zero, List.getElem?_cons_succ, Option.toList]
    repeat (first | go_big_quiet_step (fail) | quiet_step (fail) | refine wpQuiet_nil ?_)
    refine wpAnyM_read [0, 1, 2, 3, 4, 5, 6, 7, 8, 9, 10, 11] 12 (by kernel_rfl) (fun _ d _ _ _ h => by cases d <;> exact h) ⟨⟨_, HLF.out⟩, rfl⟩ ?_
    simp only [List.getElem?_cons_zero, List.getElem?_cons_succ, Option.toList]
    repeat (first | go_big_quiet_step (fail) | quiet_step (fail) | refine wpQuiet_nil ?_)
    refine wpAnyM_read [0, 1, 2, 3, 4, 5, 6, 7, 8, 9, 10, 11, 12] 13 (by kernel_rfl) (fun _ d _ _ _ h => by cases d <;> exact h) ⟨⟨_, HLF.out⟩, rfl⟩ ?_
    simp only [List.getElem?_cons_zero, List.getElem?_cons_succ, Option.toList]
    repeat (first | go_big_quiet_step (fail) | quiet_step (fail) | refine wpQuiet_nil ?_)
    refine wpAnyM_read [0, 1, 2, 3, 4, 5, 6, 7, 8, 9, 10, 11, 12, 13] 14 (by kernel_rfl) (fun _ d _ _ _ h => by cases d <;> exact h) ⟨⟨_, HLF.out⟩, rfl⟩ ?_
    simp only [List.getElem?_cons_zero, List.getElem?_cons_succ, Option.toList]
    repeat (first | go_big_quiet_step (fail) | quiet_step (fail) | refine wpQuiet_nil ?_)
    clear l0 l1 l16
    refine wpAnyM_two 15 20 (by kernel_rfl) ?_ ?_
    · skip
      simp only [List.getElem?_cons_zero, List.getElem?_cons_succ, Option.toList]
      go_wp2_with fail
      refine (open_m b v c.f c.cl g bm K Wd HXD.out HND.out HFk.out).mono ?_
      rintro e w5 ⟨h1, h2, hbq⟩
      obtain ⟨vb, vo, vc, vp, rfl, hmx⟩ := h1 _ _ HOp.out
      obtain ⟨Gb, Go_, Gc, Gp, gb, go_, gc, gp, rfl, rfl, rfl, rfl⟩ := msg_slices hmx
      clear hmx
      replace HLF := Lib.hid (Below.then HLF.out hbq HLF.out.size)
      have HBq := Lib.hid hbq
      have hzq := hbq.size
      clear h1 h2 hbq
      go_wp2_with fail
      first | refine And.intro (fun _ => ⟨⟨_, HLF.out⟩, rfl⟩) ?_ | refine And.intro ⟨⟨_, HLF.out⟩, rfl⟩ ?_
      refine wpAnyM_read [0, 1, 2, 3, 4, 5, 6, 7, 8, 9, 10, 11, 12, 13, 14, 15] 16 (by kernel_rfl) (fun _ d _ _ _ h => by cases d <;> exact h) ⟨⟨_, HLF.out⟩, rfl⟩ ?_
      simp only [List.getElem?_cons_zero, List.getElem?_cons_succ, Option.toList]
      repeat (first | go_big_quiet_step (fail) | quiet_step (fail) | refine wpQuiet_nil ?_)
      refine wpAnyM_read [0, 1, 2, 3, 4, 5, 6, 7, 8, 9, 10, 11, 12, 13, 14, 15, 16] 17 (by kernel_rfl) (fun _ d _ _ _ h => by cases d <;> exact h) ⟨⟨_, HLF.out⟩, rfl⟩ ?_
      simp only [List.getElem?_cons_zero, List.getElem?_cons_succ, Option.toList]
      repeat (first | go_big_quiet_step (fail) | quiet_step (fail) | refine wpQuiet_nil ?_)
      refine wpAnyM_read [0, 1, 2, 3, 4, 5, 6, 7, 8, 9, 10, 11, 12, 13, 14, 15, 16, 17] 18 (by kernel_rfl) (fun _ d _ _ _ h => by cases d <;> exact h) ⟨⟨_, HLF.out⟩, rfl⟩ ?_
      simp only [List.getElem?_cons_zero, List.getElem?_cons_succ, Option.toList]
      repeat (first | go_big_quiet_step (fail) | quiet_step (fail) | refine wpQuiet_nil ?_)
      refine wpAnyM_read [0, 1, 2, 3, 4, 5, 6, 7, 8, 9, 10, 11, 12, 13, 14, 15, 16, 17, 18] 19 (by kernel_rfl) (fun _ d _ _ _ h => by cases d <;> exact h) ⟨⟨_, HLF.out⟩, rfl⟩ ?_
      simp only [List.getElem?_cons_zero, List.getElem?_cons_succ, Option.toList]
      repeat (first | go_big_quiet_step (fail) | quiet_step (fail) | refine wpQuiet_nil ?_)
      refine wpAnyM_one 20 (by kernel_rfl) ?_
      simp only [List.getElem?_cons_zero, List.getElem?_cons_succ, Option.toList]
      go_wp2_with fail
      have hba := alloc_below w5 (.cells #[.int .i64 0, .int .i64 0, .int .i64 0, .int .i64 0, .int .i64 0, .int .i64 0, .slice none 0 0, .slice none 0 0, .slice none 0 0, .slice none 0 0] 56)
      have hca := heap_alloc_new w5 (.cells #[.int .i64 0, .int .i64 0, .int .i64 0, .int .i64 0, .int .i64 0, .int .i64 0, .slice none 0 0, .slice none 0 0, .slice none 0 0, .slice none 0 0] 56)
      replace HLF := Lib.hid (Below.then HLF.out hba HLF.out.size)
      first | refine And.intro (fun _ => ⟨⟨_, HLF.out⟩, rfl⟩) ?_ | refine And.intro ⟨⟨_, HLF.out⟩, rfl⟩ ?_
      obtain ⟨w6, hW_⟩ : ∃ W_, (w5).alloc (.cells #[.int .i64 0, .int .i64 0, .int .i64 0, .int .i64 0, .int .i64 0, .int .i64 0, .slice none 0 0, .slice none 0 0, .slice none 0 0, .slice none 0 0] 56) = W_ := ⟨_, rfl⟩
      rw [hW_] at hba hca HLF ⊢
      have hlt_ := (Array.getElem?_eq_some_iff.1 hca).1
      have HCR := Lib.hid hca
      have HBR := Lib.hid hba
      clear hW_ hba hca
      refine wpAnyM_one 21 (by kernel_rfl) ?_
      simp only [List.getElem?_cons_zero, List.getElem?_cons_succ, Option.toList]
      have hth := row_there HCR.out
      obtain ⟨s1, s2⟩ := row_store HCR.out [.int .i64 m.k, .int .i64 m.f, .int .i64 m.v, .int .i64 m.i, .int .i64 m.q, .int .i64 m.r, .slice Gb m.b.length gb, .slice Go_ m.o.length go_, .slice Gc m.c.length gc, .slice Gp m.p.length gp] rfl
      have hle_ : Wd.heap.size ≤ w5.heap.size := by omega
      have HLS : Hid (Below Wd.heap.size Wd (w6.setCells (w5.heap.size) 0 [.int .i64 m.k, .int .i64 m.f, .int .i64 m.v, .int .i64 m.i, .int .i64 m.q, .int .i64 m.r, .slice Gb m.b.length gb, .slice Go_ m.o.length go_, .slice Gc m.c.length gc, .slice Gp m.p.length gp])) := Lib.hid (((Fp.of_below HLF.out (fun _ => False)).setCells (Or.inr hle_) _).to_below (Nat.le_refl _) fun _ _ h => h.elim)
      have Hth := Lib.hid hth
      have S1 := Lib.hid s1
      clear hth s1 s2
      go_wp2_with (refine wpList_store_mid rfl 56 (.tmp 5) (.tmp 33) rfl (w5.heap.size) 0 #[.int .i64 m.k, .int .i64 m.f, .int .i64 m.v, .int .i64 m.i, .int .i64 m.q, .int .i64 m.r, .slice Gb m.b.length gb, .slice Go_ m.o.length go_, .slice Gc m.c.length gc, .slice Gp m.p.length gp] rfl rfl Hth.out sizeM (by simp [Value.oneCell']) ?_)
      first | refine And.intro (fun _ => ⟨⟨_, HLS.out⟩, rfl⟩) ?_ | refine And.intro ⟨⟨_, HLS.out⟩, rfl⟩ ?_
      refine wpAnyM_one 22 (by kernel_rfl) ?_
      simp only [List.getElem?_cons_zero, List.getElem?_cons_succ, Option.toList]
      go_wp2_with fail
      first | refine And.intro (fun _ => ⟨⟨_, HLS.out⟩, rfl⟩) ?_ | refine And.intro ⟨⟨_, HLS.out⟩, rfl⟩ ?_
      refine wpAnyM_one 23 (by kernel_rfl) ?_
      simp only [List.getElem?_cons_zero, List.getElem?_cons_succ, Option.toList]
      go_wp2_with fail
      first | refine And.intro (fun _ => ⟨⟨_, HLS.out⟩, rfl⟩) ?_ | refine And.intro ⟨⟨_, HLS.out⟩, rfl⟩ ?_
      refine And.intro (by kernel_rfl) ?_
      go_wp2_with fail
      go_meet
      have hfin := Below.then HDr.out HLS.out HDr.out.size
      exact ⟨_, Gb, gb, Go_, go_, Gc, gc, Gp, gp, rfl, by have := HDz.out; omega, Lib.hid S1.out, rfl, Lib.hid hfin⟩
    · skip
      simp only [List.getElem?_cons_zero, List.getElem?_cons_succ, Option.toList]
      go_wp2_with fail
      have hba := alloc_below Wd (.cells #[.int .i64 0, .int .i64 0, .int .i64 0, .int .i64 0, .int .i64 0, .int .i64 0, .slice none 0 0, .slice none 0 0, .slice none 0 0, .slice none 0 0] 56)
      have hca := heap_alloc_new Wd (.cells #[.int .i64 0, .int .i64 0, .int .i64 0, .int .i64 0, .int .i64 0, .int .i64 0, .slice none 0 0, .slice none 0 0, .slice none 0 0, .slice none 0 0] 56)
      replace HLF := Lib.hid (Below.then HLF.out hba HLF.out.size)
      first | refine And.intro (fun _ => ⟨⟨_, HLF.out⟩, rfl⟩) ?_ | refine And.intro ⟨⟨_, HLF.out⟩, rfl⟩ ?_
      obtain ⟨w5, hW_⟩ : ∃ W_, (Wd).alloc (.cells #[.int .i64 0, .int .i64 0, .int .i64 0, .int .i64 0, .int .i64 0, .int .i64 0, .slice none 0 0, .slice none 0 0, .slice none 0 0, .slice none 0 0] 56) = W_ := ⟨_, rfl⟩
      rw [hW_] at hba hca HLF ⊢
      have hlt_ := (Array.getElem?_eq_some_iff.1 hca).1
      have HCR := Lib.hid hca
      have HBR := Lib.hid hba
      clear hW_ hba hca
      have HX5 := Lib.hid (RdP.keeps HXD.out (Keeps.on HBR.out))
      refine wpAnyM_one 15 (by kernel_rfl) ?_
      simp only [List.getElem?_cons_zero, List.getElem?_cons_succ, Option.toList]
      go_wp2_with fail
      refine (open_m b v c.f c.cl g bm K w5 HX5.out (HND.out.below HBR.out) HFk.out).mono ?_
      rintro e w6 ⟨h1, h2, hbq⟩
      obtain ⟨vb, vo, vc, vp, rfl, hmx⟩ := h1 _ _ HOp.out
      obtain ⟨Gb, Go_, Gc, Gp, gb, go_, gc, gp, rfl, rfl, rfl, rfl⟩ := msg_slices hmx
      clear hmx
      replace HLF := Lib.hid (Below.then HLF.out hbq HLF.out.size)
      have HBq := Lib.hid hbq
      have hzq := hbq.size
      clear h1 h2 hbq
      go_wp2_with fail
      first | refine And.intro (fun _ => ⟨⟨_, HLF.out⟩, rfl⟩) ?_ | refine And.intro ⟨⟨_, HLF.out⟩, rfl⟩ ?_
      refine wpAnyM_read [0, 1, 2, 3, 4, 5, 6, 7, 8, 9, 10, 11, 12, 13, 14, 20, 15] 16 (by kernel_rfl) (fun _ d _ _ _ h => by cases d <;> exact h) ⟨⟨_, HLF.out⟩, rfl⟩ ?_
      simp only [List.getElem?_cons_zero, List.getElem?_cons_succ, Option.toList]
      repeat (first | go_big_quiet_step (fail) | quiet_step (fail) | refine wpQuiet_nil ?_)
      refine wpAnyM_read [0, 1, 2, 3, 4, 5, 6, 7, 8, 9, 10, 11, 12, 13, 14, 20, 15, 16] 17 (by kernel_rfl) (fun _ d _ _ _ h => by cases d <;> exact h) ⟨⟨_, HLF.out⟩, rfl⟩ ?_
      simp only [List.getElem?_cons_zero, List.getElem?_cons_succ, Option.toList]
      repeat (first | go_big_quiet_step (fail) | quiet_step (fail) | refine wpQuiet_nil ?_)
      refine wpAnyM_read [0, 1, 2, 3, 4, 5, 6, 7, 8, 9, 10, 11, 12, 13, 14, 20, 15, 16, 17] 18 (by kernel_rfl) (fun _ d _ _ _ h => by cases d <;> exact h) ⟨⟨_, HLF.out⟩, rfl⟩ ?_
      simp only [List.getElem?_cons_zero, List.getElem?_cons_succ, Option.toList]
      repeat (first | go_big_quiet_step (fail) | quiet_step (fail) | refine wpQuiet_nil ?_)
      refine wpAnyM_read [0, 1, 2, 3, 4, 5, 6, 7, 8, 9, 10, 11, 12, 13, 14, 20, 15, 16, 17, 18] 19 (by kernel_rfl) (fun _ d _ _ _ h => by cases d <;> exact h) ⟨⟨_, HLF.out⟩, rfl⟩ ?_
      simp only [List.getElem?_cons_zero, List.getElem?_cons_succ, Option.toList]
      repeat (first | go_big_quiet_step (fail) | quiet_step (fail) | refine wpQuiet_nil ?_)
      replace HCR := Lib.hid ((HBq.out.block _ hlt_).trans HCR.out)
      refine wpAnyM_one 21 (by kernel_rfl) ?_
      simp only [List.getElem?_cons_zero, List.getElem?_cons_succ, Option.toList]
      have hth := row_there HCR.out
      obtain ⟨s1, s2⟩ := row_store HCR.out [.int .i64 m.k, .int .i64 m.f, .int .i64 m.v, .int .i64 m.i, .int .i64 m.q, .int .i64 m.r, .slice Gb m.b.length gb, .slice Go_ m.o.length go_, .slice Gc m.c.length gc, .slice Gp m.p.length gp] rfl
      have hle_ : Wd.heap.size ≤ Wd.heap.size := by omega
      have HLS : Hid (Below Wd.heap.size Wd (w6.setCells (Wd.heap.size) 0 [.int .i64 m.k, .int .i64 m.f, .int .i64 m.v, .int .i64 m.i, .int .i64 m.q, .int .i64 m.r, .slice Gb m.b.length gb, .slice Go_ m.o.length go_, .slice Gc m.c.length gc, .slice Gp m.p.length gp])) := Lib.hid (((Fp.of_below HLF.out (fun _ => False)).setCells (Or.inr hle_) _).to_below (Nat.le_refl _) fun _ _ h => h.elim)
      have Hth := Lib.hid hth
      have S1 := Lib.hid s1
      clear hth s1 s2
      go_wp2_with (refine wpList_store_mid rfl 56 (.tmp 5) (.tmp 33) rfl (Wd.heap.size) 0 #[.int .i64 m.k, .int .i64 m.f, .int .i64 m.v, .int .i64 m.i, .int .i64 m.q, .int .i64 m.r, .slice Gb m.b.length gb, .slice Go_ m.o.length go_, .slice Gc m.c.length gc, .slice Gp m.p.length gp] rfl rfl Hth.out sizeM (by simp [Value.oneCell']) ?_)
      first | refine And.intro (fun _ => ⟨⟨_, HLS.out⟩, rfl⟩) ?_ | refine And.intro ⟨⟨_, HLS.out⟩, rfl⟩ ?_
      refine wpAnyM_one 22 (by kernel_rfl) ?_
      simp only [List.getElem?_cons_zero, List.getElem?_cons_succ, Option.toList]
      go_wp2_with fail
      first | refine And.intro (fun _ => ⟨⟨_, HLS.out⟩, rfl⟩) ?_ | refine And.intro ⟨⟨_, HLS.out⟩, rfl⟩ ?_
      refine wpAnyM_one 23 (by kernel_rfl) ?_
      simp only [List.getElem?_cons_zero, List.getElem?_cons_succ, Option.toList]
      go_wp2_with fail
      first | refine And.intro (fun _ => ⟨⟨_, HLS.out⟩, rfl⟩) ?_ | refine And.intro ⟨⟨_, HLS.out⟩, rfl⟩ ?_
      refine And.intro (by kernel_rfl) ?_
      go_wp2_with fail
      go_meet
      have hfin := Below.then HDr.out HLS.out HDr.out.size
      exact ⟨_, Gb, gb, Go_, go_, Gc, gc, Gp, gp, rfl, by have := HDz.out; omega, Lib.hid S1.out, rfl, Lib.hid hfin⟩
  case rest =>
    obtain ⟨j, Gb, gb, Go_, go_, Gc, gc, Gp, gp, rfl, hwj, HRJ, rfl, HB⟩ := hcut
    have hoc := HO.out.below HB.out
    have hNc := HN.out.below HB.out
    have hjc := (Array.getElem?_eq_some_iff.1 HRJ.out).1
    have HOc := Lib.hid hoc
    have HNc := Lib.hid hNc
    have hUl : Hid (∀ b, U b → b < w.heap.size) := Lib.hid HN.out.cm.lt
    have hzc : w.heap.size ≤ wc.heap.size := HB.out.size
    have hkc : k < wc.heap.size := hoc.lt k hoc.uk
    clear hoc hNc HO
    obtain ⟨lt_, hlt_⟩ : ∃ lt_, s.last.t = lt_ := ⟨_, rfl⟩
    have HLast : Hid (∀ p : Later wc, Calls Tryz.prog 39 #[.pointer (some ⟨k, 0, none⟩)] p.W fun e w' => e = .returned (.agg #[.int .i64 s.last.c, .int .i64 lt_, .int .i64 s.last.k, .int .i64 s.last.y, .int .i64 s.last.v, .int .i64 s.last.s]) ∧ Below p.W.heap.size p.W w') := Lib.hid fun p => by rw [← hlt_]; exact last_m U k ct g c id s p.W (HNc.out.cm.below p.h) hl hlen
    have HLt := Lib.hid hlt_
    clear hlt_
    have HFd : Hid (∀ W : World, (Instr.field 42 (.agg #[.int .i64 s.last.c, .int .i64 lt_, .int .i64 s.last.k, .int .i64 s.last.y, .int .i64 s.last.v, .int .i64 s.last.s]) 1).run Tryz.prog W = .ok (.int .i64 lt_) W) := Lib.hid fun _ => by kernel_rfl
    go_wp2_with fail
    have m0 := later_cell (w := wc) (show wc.cell? ⟨j, 0, none⟩ = some (.int .i64 m.k) from rowc HRJ.out 0 rfl)
    have m3 := later_cell (w := wc) (show wc.cell? ⟨j, 3, none⟩ = some (.int .i64 m.i) from rowc HRJ.out 3 rfl)
    have m4 := later_cell (w := wc) (show wc.cell? ⟨j, 4, none⟩ = some (.int .i64 m.q) from rowc HRJ.out 4 rfl)
    have l15 := later_cell (w := wc) (show wc.cell? ⟨k, 15, none⟩ = some (.int .i64 id) from rowc HOc.out.row 15 rfl)
    by_cases h1 : m.k = 10
    case neg =>
      have h1a : (m.k != 10) = true := by simp [h1]
      have h1b : (m.k == 10) = false := by simp [h1]
      have h1c : decide (m.k = 10) = false := decide_eq_false h1
      have h1d : decide (¬ m.k = 10) = true := decide_eq_true h1
      have hears : s.hears id m = false := by unfold CS.hears; rw [HLt.out]; simp [h1]
      have HH : Hid (hb = false) := Lib.hid (by rw [← HHb.out, hears])
      clear hears
      refine wp_region_later (by kernel_rfl) (by kernel_rfl) ?_
      repeat ((with_reducible show wpQuiet _ _ _ _ _ _); first | ((with_reducible refine wpQuiet_bare ?_ ?_); (· rfl)) | go_big_quiet_step ((go_at_call 39; exact later_call _ (HLast.out _))) | quiet_step ((go_at_call 39; exact later_call _ (HLast.out _))) | (refine quiet_val (by simp [Region.wanted, yielded]) (.int .i64 lt_) (fun W_ _ => by show Sem.run _ (do pure (Next.value (← Instr.field 42 (.agg #[.int .i64 s.last.c, .int .i64 lt_, .int .i64 s.last.k, .int .i64 s.last.y, .int .i64 s.last.v, .int .i64 s.last.s]) 1))) W_ = _; rw [Sem.run_bind, HFd.out]; rfl) ?_; intro K hK; go_simp; refine hK _ ?_; clear hK K))
      refine wpQuiet_nil ?_
      intro w3 hw'
      have hb3 := later_out hw'
      clear hw'
      have HB3 := Lib.hid hb3
      clear hb3 m0 m3 m4 l15
      go_wp2_with fail
      go_ret
      rw [HS2.out, HH.out]
      exact ⟨rfl, U, by rw [if_neg (by decide)]; exact HNc.out.below HB3.out, fun b hb => .inl hb, Fp.of_below (Below.then HB.out HB3.out HB.out.size) _⟩
    have h1a : (m.k != 10) = false := by simp [h1]
    have h1b : (m.k == 10) = true := by simp [h1]
    have h1c : decide (m.k = 10) = true := decide_eq_true h1
    have h1d : decide (¬ m.k = 10) = false := decide_eq_false (fun hh => hh h1)
    by_cases h2 : m.i = id
    case neg =>
      have h2a : (m.i != id) = true := by simp [h2]
      have h2b : (m.i == id) = false := by simp [h2]
      have h2c : decide (m.i = id) = false := decide_eq_false h2
      have h2d : decide (¬ m.i = id) = true := decide_eq_true h2
      have hears : s.hears id m = false := by unfold CS.hears; rw [HLt.out]; simp [h2]
      have HH : Hid (hb = false) := Lib.hid (by rw [← HHb.out, hears])
      clear hears
      refine wp_region_later (by kernel_rfl) (by kernel_rfl) ?_
      repeat ((with_reducible show wpQuiet _ _ _ _ _ _); first | ((with_reducible refine wpQuiet_bare ?_ ?_); (· rfl)) | go_big_quiet_step ((go_at_call 39; exact later_call _ (HLast.out _))) | quiet_step ((go_at_call 39; exact later_call _ (HLast.out _))) | (refine quiet_val (by simp [Region.wanted, yielded]) (.int .i64 lt_) (fun W_ _ => by show Sem.run _ (do pure (Next.value (← Instr.field 42 (.agg #[.int .i64 s.last.c, .int .i64 lt_, .int .i64 s.last.k, .int .i64 s.last.y, .int .i64 s.last.v, .int .i64 s.last.s]) 1))) W_ = _; rw [Sem.run_bind, HFd.out]; rfl) ?_; intro K hK; go_simp; refine hK _ ?_; clear hK K))
      refine wpQuiet_nil ?_
      intro w3 hw'
      have hb3 := later_out hw'
      clear hw'
      have HB3 := Lib.hid hb3
      clear hb3 m0 m3 m4 l15
      go_wp2_with fail
      go_ret
      rw [HS2.out, HH.out]
      exact ⟨rfl, U, by rw [if_neg (by decide)]; exact HNc.out.below HB3.out, fun b hb => .inl hb, Fp.of_below (Below.then HB.out HB3.out HB.out.size) _⟩
    have h2a : (m.i != id) = false := by simp [h2]
    have h2b : (m.i == id) = true := by simp [h2]
    have h2c : decide (m.i = id) = true := decide_eq_true h2
    have h2d : decide (¬ m.i = id) = false := decide_eq_false (fun hh => hh h2)
    by_cases h3 : m.q = lt_
    case neg =>
      have h3a : (m.q != lt_) = true := by simp [h3]
      have h3b : (m.q == lt_) = false := by simp [h3]
      have h3c : decide (m.q = lt_) = false := decide_eq_false h3
      have h3d : decide (¬ m.q = lt_) = true := decide_eq_true h3
      have hears : s.hears id m = false := by unfold CS.hears; rw [HLt.out]; simp [h3]
      have HH : Hid (hb = false) := Lib.hid (by rw [← HHb.out, hears])
      clear hears
      refine wp_region_later (by kernel_rfl) (by kernel_rfl) ?_
      repeat ((with_reducible show wpQuiet _ _ _ _ _ _); first | ((with_reducible refine wpQuiet_bare ?_ ?_); (· rfl)) | go_big_quiet_step ((go_at_call 39; exact later_call _ (HLast.out _))) | quiet_step ((go_at_call 39; exact later_call _ (HLast.out _))) | (refine quiet_val (by simp [Region.wanted, yielded]) (.int .i64 lt_) (fun W_ _ => by show Sem.run _ (do pure (Next.value (← Instr.field 42 (.agg #[.int .i64 s.last.c, .int .i64 lt_, .int .i64 s.last.k, .int .i64 s.last.y, .int .i64 s.last.v, .int .i64 s.last.s]) 1))) W_ = _; rw [Sem.run_bind, HFd.out]; rfl) ?_; intro K hK; go_simp; refine hK _ ?_; clear hK K))
      refine wpQuiet_nil ?_
      intro w3 hw'
      have hb3 := later_out hw'
      clear hw'
      have HB3 := Lib.hid hb3
      clear hb3 m0 m3 m4 l15
      go_wp2_with fail
      go_ret
      rw [HS2.out, HH.out]
      exact ⟨rfl, U, by rw [if_neg (by decide)]; exact HNc.out.below HB3.out, fun b hb => .inl hb, Fp.of_below (Below.then HB.out HB3.out HB.out.size) _⟩
    have h3a : (m.q != lt_) = false := by simp [h3]
    have h3b : (m.q == lt_) = true := by simp [h3]
    have h3c : decide (m.q = lt_) = true := decide_eq_true h3
    have h3d : decide (¬ m.q = lt_) = false := decide_eq_false (fun hh => hh h3)
    have hears : s.hears id m = !(s.ans.any fun a => a.1 == m.f) := by unfold CS.hears; rw [HLt.out, decide_eq_true h1, decide_eq_true h2, decide_eq_true h3]; rfl
    have HH : Hid (hb = !(s.ans.any fun a => a.1 == m.f)) := Lib.hid (by rw [← HHb.out, hears])
    clear hears
    refine wp_region_later (by kernel_rfl) (by kernel_rfl) ?_
    repeat ((with_reducible show wpQuiet _ _ _ _ _ _); first | ((with_reducible refine wpQuiet_bare ?_ ?_); (· rfl)) | go_big_quiet_step ((go_at_call 39; exact later_call _ (HLast.out _))) | quiet_step ((go_at_call 39; exact later_call _ (HLast.out _))) | (refine quiet_val (by simp [Region.wanted, yielded]) (.int .i64 lt_) (fun W_ _ => by show Sem.run _ (do pure (Next.value (← Instr.field 42 (.agg #[.int .i64 s.last.c, .int .i64 lt_, .int .i64 s.last.k, .int .i64 s.last.y, .int .i64 s.last.v, .int .i64 s.last.s]) 1))) W_ = _; rw [Sem.run_bind, HFd.out]; rfl) ?_; intro K hK; go_simp; refine hK _ ?_; clear hK K))
    refine wpQuiet_nil ?_
    intro w3 hw'
    have hb3 := later_out hw'
    clear hw'
    have HB3 := Lib.hid hb3
    clear hb3 m0 m3 m4 l15
    clear h1 h1a h1b h1c h1d h2 h2a h2b h2c h2d h3 h3a h3b h3c h3d HLast
    have HBw := Lib.hid (Below.then HB.out HB3.out HB.out.size)
    have HO3 := Lib.hid (HOc.out.below HB3.out)
    have HN3 := Lib.hid (HNc.out.below HB3.out)
    have HRJ3 := Lib.hid ((HB3.out.block j hjc).trans HRJ.out)
    have hz3 : wc.heap.size ≤ w3.heap.size := HB3.out.size
    obtain ⟨n, hn⟩ : ∃ n, s.ans.length = n := ⟨_, rfl⟩
    have f21 : w3.cell? ⟨k, 21, none⟩ = some (.slice Aa n ca) := by rw [← hn]; exact rowc HO3.out.row 21 rfl
    have hcap := own_cap HO3.out.oa
    have Hn := Lib.hid hn
    rw [hn] at hcap hal
    obtain ⟨hca1, hca2⟩ := hcap
    clear hn HOc HNc HRJ
    go_wp2_with fail
    clear f21
    go_loopw [8, 65] (fun sm ix wr => ∃ i : Nat, ix = .int .i64 (i : Int) ∧ i ≤ n ∧ sm = .int .i64 (1 + (((s.ans.take i).countP fun a => a.2 == m.r : Nat) : Int)) ∧ Hid (((s.ans.take i).any fun a => a.1 == m.f) = false) ∧ Hid (Below w3.heap.size w3 wr)) (fun _ ix _ => n - (intOf ix).toNat)
    case atStart => exact ⟨0, rfl, Nat.zero_le _, rfl, Lib.hid rfl, Lib.hid (Below.refl _ _)⟩
    case round =>
      obtain ⟨i, rfl, hi, rfl, HA, HBr⟩ := hrel
      have hcle : ((s.ans.take i).countP fun a => a.2 == m.r) ≤ i := by
        have h_ := List.countP_le_length (p := fun a : Int × Int => a.2 == m.r) (l := s.ans.take i)
        rw [List.length_take] at h_
        omega
      have hzr : w3.heap.size ≤ wr.heap.size := HBr.out.size
      have HOr := Lib.hid (HO3.out.below HBr.out)
      have HRJr := Lib.hid ((HBr.out.block j (by omega)).trans HRJ3.out)
      obtain ⟨ct_, hct_⟩ : ∃ ct_, ((s.ans.take i).countP fun a => a.2 == m.r) = ct_ := ⟨_, rfl⟩
      rw [hct_] at hcle ⊢
      have HCt := Lib.hid hct_
      clear hct_
      by_cases hlt : i < n
      · have hd1 : decide ((i : Int) < (n : Int)) = true := by simp; omega
        have hila : i < s.ans.length := by rw [Hn.out]; exact hlt
        obtain ⟨A', c', e_, _, _, hxl⟩ := own_slice HOr.out.oa
        obtain ⟨b0, rfl, _, hb0, hli⟩ := hxl (by omega)
        injection e_ with e1 _ _
        subst e1
        have hrg := range_elem (f := av) (k := 2) (fun _ => rfl) hli hila
        rw [Nat.zero_add] at hrg
        have htk : s.ans.take (i + 1) = s.ans.take i ++ [s.ans[i]] := List.take_succ_eq_append_getElem hila
        obtain ⟨a, ha⟩ : ∃ a, s.ans[i] = a := ⟨_, rfl⟩
        rw [ha] at hrg htk
        have hmem : a ∈ s.ans := by rw [← ha]; exact List.getElem_mem hila
        obtain ⟨a1, a2⟩ := a
        have x0 := hrg 0 _ rfl
        have x1 := hrg 1 _ rfl
        simp only [Nat.add_zero, iv] at x0 x1
        have Htk := Lib.hid htk
        have Hmem := Lib.hid hmem
        have k0 : (0 : Int) ≤ (i : Int) := by omega
        have k1 : (i : Int) < (n : Int) := by omega
        clear hxl hli hrg ha htk hmem hila
        go_upto_region 10 with fail
        clear x0 x1
        have hba := alloc_below wr (.cells #[.int .i64 a1, .int .i64 a2] 105)
        have hca := heap_alloc_new wr (.cells #[.int .i64 a1, .int .i64 a2] 105)
        obtain ⟨w4, hw4⟩ : ∃ w4, wr.alloc (.cells #[.int .i64 a1, .int .i64 a2] 105) = w4 := ⟨_, rfl⟩
        rw [hw4] at hba hca ⊢
        have q0 : w4.cell? ⟨wr.heap.size, 0, none⟩ = some (.int .i64 a1) := rowc hca 0 rfl
        have q1 : w4.cell? ⟨wr.heap.size, 1, none⟩ = some (.int .i64 a2) := rowc hca 1 rfl
        have hrj := (hba.block j (by omega)).trans HRJr.out
        have p1 : w4.cell? ⟨j, 1, none⟩ = some (.int .i64 m.f) := rowc hrj 1 rfl
        have p5 : w4.cell? ⟨j, 5, none⟩ = some (.int .i64 m.r) := rowc hrj 5 rfl
        have HB4 := Lib.hid (Below.then HBr.out hba HBr.out.size)
        clear hw4 hba hca hrj
        by_cases g1 : a1 = m.f
        · have hany : (s.ans.any fun a => a.1 == m.f) = true := by
            rw [List.any_eq_true]
            exact ⟨_, Hmem.out, by simp [g1]⟩
          have HAny := Lib.hid hany
          have g1b : (a1 == m.f) = true := by simp [g1]
          have g1c : decide (a1 = m.f) = true := decide_eq_true g1
          have G1 := Lib.hid g1
          clear hany g1
          go_wp2_with fail
          go_ret
          rw [HS2.out, HH.out, HAny.out]
          exact ⟨rfl, U, by rw [if_neg (by decide)]; exact HN3.out.below HB4.out, fun b hb => .inl hb, Fp.of_below (Below.then HBw.out HB4.out HBw.out.size) _⟩
        · have g1b : (a1 == m.f) = false := by simp [g1]
          have g1c : decide (a1 = m.f) = false := decide_eq_false g1
          have hA' : ((s.ans.take (i + 1)).any fun a => a.1 == m.f) = false := by rw [Htk.out, List.any_append, HA.out]; simp [g1]
          have HA' := Lib.hid hA'
          clear hA'
          by_cases g2 : a2 = m.r
          · have g2b : (a2 == m.r) = true := by simp [g2]
            have g2c : decide (a2 = m.r) = true := decide_eq_true g2
            have hcn : ((s.ans.take (i + 1)).countP fun a => a.2 == m.r) = ct_ + 1 := by rw [Htk.out, List.countP_append, HCt.out]; simp [g2]
            have HCn := Lib.hid hcn
            have hw1 : IntKind.i64.wrap (1 + (ct_ : Int) + 1) = 1 + (ct_ : Int) + 1 := IntWalk.i64_in _ (by omega)
            have G2 := Lib.hid g2
            clear hcn g2
            go_wp2_with fail
            refine ⟨⟨i + 1, by go_num, by omega, ?_, HA', Lib.hid HB4.out⟩, ?_⟩
            · rw [HCn.out]; congr 1
            · simp [intOf]; omega
          · have g2b : (a2 == m.r) = false := by simp [g2]
            have g2c : decide (a2 = m.r) = false := decide_eq_false g2
            have hcn : ((s.ans.take (i + 1)).countP fun a => a.2 == m.r) = ct_ := by rw [Htk.out, List.countP_append, HCt.out]; simp [g2]
            have HCn := Lib.hid hcn
            clear hcn
            go_wp2_with fail
            refine ⟨⟨i + 1, by go_num, by omega, by rw [HCn.out], HA', Lib.hid HB4.out⟩, ?_⟩
            simp [intOf]; omega
      · have hin : i = n := by omega
        subst hin
        have hd1 : decide ((i : Int) < (i : Int)) = false := by simp
        have htk : s.ans.take i = s.ans := List.take_of_length_le (by rw [Hn.out]; exact Nat.le_refl _)
        have hany := HA.out
        rw [htk] at hany
        have hct2 := HCt.out
        rw [htk] at hct2
        have HHt : Hid (hb = true) := Lib.hid (by rw [HH.out, hany]; rfl)
        have hsm : s.same m.r = 1 + (ct_ : Int) := by unfold CS.same; rw [hct2]
        have HSm := Lib.hid hsm
        have hjr := (Array.getElem?_eq_some_iff.1 HRJr.out).1
        have hkr : k < wr.heap.size := by omega
        have hjk : j ≠ k := by omega
        have hzw : w.heap.size ≤ wr.heap.size := by omega
        clear htk hany hct2 hsm
        go_upto_region 15 with fail
        have l21 := laterF_cell (w := wr.drew) (T := fun b => b ≠ k ∧ b ≠ j) (show wr.drew.cell? ⟨k, 21, none⟩ = some (.slice Aa i ca) by rw [← Hn.out]; exact rowc HOr.out.row 21 rfl) (fun hh => hh.1 rfl)
        have l1 := laterF_cell (w := wr.drew) (T := fun b => b ≠ k ∧ b ≠ j) (show wr.drew.cell? ⟨j, 1, none⟩ = some (.int .i64 m.f) from rowc HRJr.out 1 rfl) (fun hh => hh.2 rfl)
        have l5 := laterF_cell (w := wr.drew) (T := fun b => b ≠ k ∧ b ≠ j) (show wr.drew.cell? ⟨j, 5, none⟩ = some (.int .i64 m.r) from rowc HRJr.out 5 rfl) (fun hh => hh.2 rfl)
        have HOo : Hid (wr.drew.ownsRow 0 105 2 (.slice Aa i ca) i (s.ans.flatMap av)) := Lib.hid (by have h_ := HOr.out.oa; rw [Hn.out] at h_; exact h_)
        have HObk := Lib.hid (own_ne_row HOo.out (show wr.drew.heap[k]? = _ from HOr.out.row) (by decide))
        have HObj := Lib.hid (own_ne_row HOo.out (show wr.drew.heap[j]? = _ from HRJr.out) (by decide))
        refine wp_region_phasesF (fun b => b ≠ k ∧ b ≠ j) [(true, 0), (true, 1), (true, 2), (true, 3), (true, 4), (true, 5), (true, 6), (true, 7), (true, 8), (true, 9), (false, 10), (false, 11)] (by kernel_rfl) (by kernel_rfl) ?_
        simp only [phS, List.getElem?_cons_zero, List.getElem?_cons_succ, Option.toList, List.length_cons, List.length_nil, Nat.reduceAdd, List.drop_succ_cons, List.drop_zero]
        repeat (first | go_big_quiet_step (fail) | quiet_step (fail) | refine wpQuiet_nil ?_)
        clear l21 l1 l5
        go_wp2_with fail
        refine And.intro ⟨⟨_, (Fp.refl _ wr.drew).alloc _⟩, rfl⟩ ?_
        go_wp2_with (at_builtin; refine wpList_app1 ansE rfl _ _ rfl 0 (.slice Aa i ca) i (s.ans.flatMap av) rfl HOo.out _ rfl rfl (by simp [Value.oneCell']) (by omega) (by decide) (Nat.zero_le _) ?_; intro v5 w5 hown5 hg5 _ hv5; have HOn5 := Lib.hid hown5; have HG5 := Lib.hid hg5; have HV5 := Lib.hid hv5; clear hown5 hg5 hv5; obtain ⟨A5, c5, rfl, _, _, _⟩ := own_slice HOn5.out)
        refine And.intro ⟨⟨w5, (Fp.refl _ wr.drew).grown HG5.out (fun b hb => Or.inl ⟨HObk.out b hb, HObj.out b hb⟩)⟩, rfl⟩ ?_
        have HF5 : Hid (Fp (fun b => (Value.slice Aa i ca).ownBlock = some b) wr w5) := Lib.hid (((Fp.refl _ wr).drew).grown HG5.out (fun b hb => Or.inl hb))
        have hrow5 := (HF5.out.block k hkr (fun hh => HObk.out k hh rfl)).trans HOr.out.row
        have HR5 := Lib.hid hrow5
        have f21 : w5.cell? ⟨k, 21, none⟩ = some (.slice Aa i ca) := by rw [← Hn.out]; exact rowc hrow5 21 rfl
        have z21 := frozen_of_row _ _ 21 _ _ hrow5
        have hz5 : wr.heap.size ≤ w5.heap.size := HF5.out.size
        clear hrow5
        go_upto_region 16 with fail
        clear f21 z21
        have ho := HOr.out
        have hoa : wr.ownsRow 0 105 2 (.slice Aa i ca) i (s.ans.flatMap av) := HOo.out
        have hua : ∀ b, (Value.slice Aa i ca).ownBlock = some b → U b := fun b hb => by have h_ := ho.ua b; rw [Hn.out] at h_; exact h_ hb
        have hclk := (HF5.out.block ct (ho.lt ct ho.uct) (fun hh => own_ne_row hoa ho.clk (by decide) ct hh rfl)).trans ho.clk
        have hX1 := clo_cell (W := w5) (U := fun b => U b ∨ (wr.heap.size ≤ b ∧ b < w5.heap.size)) (k := k) (ct := ct) (g := g) (c := c) (id := id) (j := 21) (u := .slice A5 (i + 1) c5) (s' := { s with ans := s.ans ++ [(m.f, m.r)] }) (va' := .slice A5 (i + 1) c5) HR5.out rfl hclk (.inl ho.uk) (.inl ho.uct) (fun b hb => by rcases hb with hb | hb; (have := hUl.out b hb; omega); exact hb.2)
          (own_keep ho.oi fun b hb => HF5.out.block b (ho.oi.lt b hb).2 (own_ne ho.oi hoa (by decide) b hb)) (by show w5.ownsRow _ _ _ _ (s.ans ++ [_]).length ((s.ans ++ [_]).flatMap av); rw [List.length_append, List.flatMap_append, Hn.out]; simpa [av, iv] using HOn5.out) (own_keep ho.oc fun b hb => HF5.out.block b (ho.oc.lt b hb).2 (own_ne ho.oc hoa (by decide) b hb)) ho.om
          (ho.oo.keep fun b hb hlt hor => ⟨HF5.out.block b hlt (by rcases hor with h1 | ⟨x, hx, h1⟩; exact own_ne ho.oo.own hoa (by decide) b h1; exact own_ne (ho.oo.ok x hx).1 hoa (by decide) b h1), .inl hb⟩) (fun b hb => .inl (ho.ui b hb)) (fun b hb => by
            rcases HV5.out with h1 | h1
            · rw [h1] at hb; exact .inl (hua b hb)
            · have h2 := (HOn5.out.lt b hb).2
              rw [h1] at hb; injection hb with hb
              have hb' : wr.heap.size + 1 = b := hb
              right; omega) (fun b hb => .inl (ho.uc b hb))
        have hF6 : Fp (fun b => U b) wr (w5.setCell ⟨k, 21, none⟩ (.slice A5 (i + 1) c5)) := (HF5.out.mono fun b _ hb => hua b hb).setCell (p := ⟨k, 21, none⟩) (Or.inl ho.uk) _
        obtain ⟨w6, hw6⟩ : ∃ w6, w5.setCell ⟨k, 21, none⟩ (.slice A5 (i + 1) c5) = w6 := ⟨_, rfl⟩
        have hz6 : w6.heap.size = w5.heap.size := by rw [← hw6]; simp
        have hz65 : w5.heap.size ≤ w6.heap.size := by omega
        have hz56 : w6.heap.size ≤ w5.heap.size := by omega
        rw [hw6] at hX1 hF6 ⊢
        have HX1 := Lib.hid hX1
        have HF6 := Lib.hid hF6
        have HRJ6 := Lib.hid ((hF6.block j hjr (fun hu => by have := hUl.out j hu; omega)).trans HRJr.out)
        have HBwr := Lib.hid (Below.then HBw.out HBr.out HBw.out.size)
        have hsep := HN3.out.sep
        have hnt6 := (HN3.out.nt.below HBr.out).fp hF6 hsep.1 hsep.2
        have HNt6 := Lib.hid hnt6
        have HSep := Lib.hid hsep
        have hgl := HN.out.nt.lt
        clear hw6 hz6 ho hoa hua hclk hX1 hF6 hnt6 hsep HOn5 HG5 HV5 HF5 HR5 HOo HObk HObj HOr
        have f0 : w6.cell? ⟨k, 0, none⟩ = some (.int .i64 c.f) := rowc HX1.out.row 0 rfl
        by_cases hwk : Psp.weak c.f ≤ 1 + (ct_ : Int)
        case neg =>
          have hwd : decide (1 + (ct_ : Int) ≥ Psp.weak c.f) = false := decide_eq_false hwk
          go_wp2_with (go_at_call 40; refine (b_weak_any _ _).mono ?_; rintro e w' ⟨rfl, rfl⟩)
          clear f0
          go_ret
          refine ⟨by rw [HHt.out]; rfl, (fun b => U b ∨ (wr.heap.size ≤ b ∧ b < w5.heap.size)), ?_, fun b hb => ?_, ((Fp.of_below HBwr.out (fun b => U b)).trans HF6.out fun b hb => .inl hb).mono fun b _ hb => .inl hb⟩
          · rw [HS2.out, HHt.out, if_pos rfl]
            unfold CS.heard
            rw [HSm.out, if_neg (by omega)]
            exact ⟨HNt6.out, HX1.out.clm, fun hh => by rcases hh with hh | hh; exact HSep.out.1 hh; omega, fun hh => by rcases hh with hh | hh; exact HSep.out.2 hh; omega⟩
          · rcases hb with hb | hb
            · exact .inl hb
            · right; omega
        have hwd : decide (1 + (ct_ : Int) ≥ Psp.weak c.f) = true := decide_eq_true hwk
        go_upto_region 17 with (go_at_call 40; refine (b_weak_any _ _).mono ?_; rintro e w' ⟨rfl, rfl⟩)
        clear f0
        have l22 := laterF_cell (w := w6.drew) (T := fun b => b ≠ k ∧ b ≠ j) (show w6.drew.cell? ⟨k, 22, none⟩ = some (.slice Ac s.acc.length cc) from rowc HX1.out.row 22 rfl) (fun hh => hh.1 rfl)
        have l5 := laterF_cell (w := w6.drew) (T := fun b => b ≠ k ∧ b ≠ j) (show w6.drew.cell? ⟨j, 5, none⟩ = some (.int .i64 m.r) from rowc HRJ6.out 5 rfl) (fun hh => hh.2 rfl)
        refine wp_region_phasesF (fun b => b ≠ k ∧ b ≠ j) [(true, 0), (true, 1), (true, 2), (true, 3), (true, 4), (true, 5), (true, 7), (true, 8), (false, 6), (true, 9), (false, 10), (false, 11)] (by kernel_rfl) (by kernel_rfl) ?_
        simp only [phS, List.getElem?_cons_zero, List.getElem?_cons_succ, Option.toList, List.length_cons, List.length_nil, Nat.reduceAdd, List.drop_succ_cons, List.drop_zero]
        repeat (first | go_big_quiet_step (fail) | quiet_step (fail) | refine wpQuiet_nil ?_)
        clear l22 l5
        go_wp2_with fail
        have hdr6 : Below w6.heap.size w6 w6.drew := (Below.refl _ _).drew
        refine (last_m _ k ct g c id { s with ans := s.ans ++ [(m.f, m.r)] } w6.drew (HX1.out.clm.below hdr6) hl hlen).mono ?_
        rintro e w7 ⟨rfl, hb7⟩
        have hb67 : Below w6.heap.size w6 w7 := hdr6.trans hb7
        have F7 := Lib.hid (Fp.of_below hb7 (fun b => b ≠ k ∧ b ≠ j))
        have HX7 := Lib.hid (HX1.out.below hb67)
        have HB67 := Lib.hid hb67
        have hz7 : w6.heap.size ≤ w7.heap.size := hb67.size
        obtain ⟨lr, hlr⟩ : ∃ lr, s.last = lr := ⟨_, rfl⟩
        have hlr2 : ({ s with ans := s.ans ++ [(m.f, m.r)] } : CS).last = lr := hlr
        rw [hlr2]
        have HLr := Lib.hid hlr
        clear hb7 hb67 hdr6 hlr hlr2
        go_wp2_with fail
        refine And.intro ⟨⟨w7, F7.out⟩, rfl⟩ ?_
        repeat (first | go_big_quiet_step (fail) | quiet_step (fail) | refine wpQuiet_nil ?_)
        go_wp2_with fail
        refine And.intro ⟨⟨_, F7.out.alloc _⟩, rfl⟩ ?_
        have HOo : Hid (w7.ownsRow 0 61 7 (.slice Ac s.acc.length cc) s.acc.length (s.acc.flatMap ev)) := Lib.hid HX7.out.oc
        have HObk := Lib.hid (own_ne_row HOo.out HX7.out.row (by decide))
        have HRJ7 := Lib.hid ((HB67.out.block j (by have := HF6.out.size; omega)).trans HRJ6.out)
        have HObj := Lib.hid (own_ne_row HOo.out HRJ7.out (by decide))
        go_wp2_with (at_builtin; refine wpList_app1 entE rfl _ _ rfl 0 (.slice Ac s.acc.length cc) s.acc.length (s.acc.flatMap ev) rfl HOo.out _ rfl rfl (by simp [Value.oneCell']) (by omega) (by decide) (Nat.zero_le _) ?_; intro v8 w8 hown8 hg8 _ hv8; have HOn8 := Lib.hid hown8; have HG8 := Lib.hid hg8; have HV8 := Lib.hid hv8; clear hown8 hg8 hv8; obtain ⟨A8, c8, rfl, _, _, _⟩ := own_slice HOn8.out)
        refine And.intro ⟨⟨w8, F7.out.grown HG8.out (fun b hb => Or.inl ⟨HObk.out b hb, HObj.out b hb⟩)⟩, rfl⟩ ?_
        have HF8 : Hid (Fp (fun b => (Value.slice Ac s.acc.length cc).ownBlock = some b) w7 w8) := Lib.hid ((Fp.refl _ w7).grown HG8.out (fun b hb => Or.inl hb))
        have hk7 : k < w7.heap.size := by omega
        have hrow8 := (HF8.out.block k hk7 (fun hh => HObk.out k hh rfl)).trans HX7.out.row
        have HR8 := Lib.hid hrow8
        have f22 : w8.cell? ⟨k, 22, none⟩ = some (.slice Ac s.acc.length cc) := rowc hrow8 22 rfl
        have z22 := frozen_of_row _ _ 22 _ _ hrow8
        have hz8 : w7.heap.size ≤ w8.heap.size := HF8.out.size
        clear hrow8
        go_upto_region 18 with fail
        clear f22 z22
        have ho := HX7.out
        have hoc : w7.ownsRow 0 61 7 (.slice Ac s.acc.length cc) s.acc.length (s.acc.flatMap ev) := HOo.out
        have hclk := (HF8.out.block ct (ho.lt ct ho.uct) (fun hh => own_ne_row hoc ho.clk (by decide) ct hh rfl)).trans ho.clk
        have hX9 := clo_cell (W := w8) (U := fun b => U b ∨ (wr.heap.size ≤ b ∧ b < w8.heap.size)) (k := k) (ct := ct) (g := g) (c := c) (id := id) (j := 22) (u := .slice A8 (s.acc.length + 1) c8) (s' := { s with ans := s.ans ++ [(m.f, m.r)], acc := s.acc ++ [(lr, m.r)] }) (vc' := .slice A8 (s.acc.length + 1) c8) HR8.out rfl hclk (.inl (by rcases ho.uk with h_ | h_; exact h_; (exfalso; omega))) (by rcases ho.uct with h_ | h_; exact .inl h_; exact .inr ⟨h_.1, by omega⟩) (fun b hb => by rcases hb with hb | hb; (have := hUl.out b hb; omega); exact hb.2)
          (own_keep ho.oi fun b hb => HF8.out.block b (ho.oi.lt b hb).2 (own_ne ho.oi hoc (by decide) b hb)) (own_keep ho.oa fun b hb => HF8.out.block b (ho.oa.lt b hb).2 (own_ne ho.oa hoc (by decide) b hb)) (by show w8.ownsRow _ _ _ _ (s.acc ++ [_]).length ((s.acc ++ [_]).flatMap ev); rw [List.length_append, List.flatMap_append]; simpa [ev, iv] using HOn8.out) ho.om
          (ho.oo.keep fun b hb hlt hor => ⟨HF8.out.block b hlt (by rcases hor with h1 | ⟨x, hx, h1⟩; exact own_ne ho.oo.own hoc (by decide) b h1; exact own_ne (ho.oo.ok x hx).1 hoc (by decide) b h1), by rcases hb with h_ | h_; exact .inl h_; exact .inr ⟨h_.1, by omega⟩⟩) (fun b hb => by rcases ho.ui b hb with h_ | h_; exact .inl h_; exact .inr ⟨h_.1, by omega⟩) (fun b hb => by rcases ho.ua b hb with h_ | h_; exact .inl h_; exact .inr ⟨h_.1, by omega⟩) (fun b hb => by
            rcases HV8.out with h1 | h1
            · rw [h1] at hb
              rcases ho.uc b hb with h_ | h_
              · exact .inl h_
              · exact .inr ⟨h_.1, by omega⟩
            · have h2 := (HOn8.out.lt b hb).2
              rw [h1] at hb; injection hb with hb
              right; omega)
        have hF9 : Fp (fun b => U b ∨ wr.heap.size ≤ b) w7 (w8.setCell ⟨k, 22, none⟩ (.slice A8 (s.acc.length + 1) c8)) := (HF8.out.mono fun b _ hb => by rcases ho.uc b hb with h_ | h_; exact .inl h_; exact .inr h_.1).setCell (p := ⟨k, 22, none⟩) (Or.inl (by rcases ho.uk with h_ | h_; exact .inl h_; exact .inr h_.1)) _
        obtain ⟨w9, hw9⟩ : ∃ w9, w8.setCell ⟨k, 22, none⟩ (.slice A8 (s.acc.length + 1) c8) = w9 := ⟨_, rfl⟩
        rw [hw9] at hX9 hF9 ⊢
        have HX9 := Lib.hid hX9
        have HF9 := Lib.hid hF9
        clear hw9 ho hoc hclk hX9 hF9 HOn8 HG8 HV8 HF8 HR8 HOo HObk HObj
        have f18 : w9.cell? ⟨k, 18, none⟩ = some (.bool s.waits) := rowc HX9.out.row 18 rfl
        have z18 := frozen_of_row _ _ 18 _ _ HX9.out.row
        go_wp2_with fail
        clear f18 z18
        go_ret
        have x1 := HX9.out
        have x2 := clo_cell (j := 18) (u := .bool false) (s' := { s with ans := s.ans ++ [(m.f, m.r)], acc := s.acc ++ [(lr, m.r)], waits := false }) x1.row rfl x1.clk x1.uk x1.uct x1.lt x1.oi x1.oa x1.oc x1.om x1.oo x1.ui x1.ua x1.uc
        have hFt : Fp (fun b => U b ∨ wr.heap.size ≤ b) w (w9.setCell ⟨k, 18, none⟩ (.bool false)) := ((((Fp.of_below HBwr.out (fun b => U b ∨ wr.heap.size ≤ b)).trans HF6.out fun b hb => .inl (.inl hb)).trans (Fp.of_below HB67.out (fun b => U b ∨ wr.heap.size ≤ b)) fun b hb => .inl hb).trans HF9.out fun b hb => .inl hb).setCell (p := ⟨k, 18, none⟩) (Or.inl (by rcases HX7.out.uk with h_ | h_; exact .inl h_; exact .inr h_.1)) _
        have hF69 : Fp (fun b => U b ∨ wr.heap.size ≤ b) w6 (w9.setCell ⟨k, 18, none⟩ (.bool false)) := ((Fp.of_below HB67.out (fun b => U b ∨ wr.heap.size ≤ b)).trans HF9.out fun b hb => .inl hb).setCell (p := ⟨k, 18, none⟩) (Or.inl (by rcases HX7.out.uk with h_ | h_; exact .inl h_; exact .inr h_.1)) _
        refine ⟨by rw [HHt.out]; rfl, (fun b => U b ∨ (wr.heap.size ≤ b ∧ b < w8.heap.size)), ?_, fun b hb => ?_, hFt.mono fun b hlt hb => ?_⟩
        · rw [HS2.out, HHt.out, if_pos rfl]
          unfold CS.heard
          rw [HSm.out, if_pos (by omega), HLr.out]
          exact ⟨HNt6.out.fp hF69 (fun hh => by rcases hh with hh | hh; exact HSep.out.1 hh; omega) (fun hh => by rcases hh with hh | hh; exact HSep.out.2 hh; omega), x2.clm, fun hh => by rcases hh with hh | hh; exact HSep.out.1 hh; omega, fun hh => by rcases hh with hh | hh; exact HSep.out.2 hh; omega⟩
        · rcases hb with hb | hb
          · exact .inl hb
          · right; omega
        · rcases hb with hb | hb
          · exact .inl hb
          · exfalso; omega
end Go.Proofs.YtipmjleohadoeaaGreat
