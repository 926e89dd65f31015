/- A client's Issue of an operation that is not valid. Printed by gen_cl7.py. -/
import Derived.Test.YtipmjleohadoeaaGreatCl4So
import Derived.Test.YtipmjleohadoeaaGreatRmSo
import Derived.Test.YtipmjleohadoeaaGreatPhMSo
namespace Go.Proofs.YtipmjleohadoeaaGreat
open Go.RowKit
set_option linter.unusedVariables false
set_option linter.unusedSimpArgs false

set_option maxRecDepth 100000 in
set_option maxHeartbeats 8000000 in
theorem issue_no (U : Nat → Prop) (g k ct : Nat) (c : Cf) (id : Int) (s : CS) (kk y v : Int) (w : World) (h : Clm w U k ct g c id s) (hw : s.waits = false) (hlen : s.issued.length ≤ 100000) (hv : Psp.valid (bareQ id s kk y v) c.cl = false) :
    Calls Tryz.prog 12 #[.pointer (some ⟨k, 0, none⟩), .agg #[.int .i64 kk, .int .i64 y, .int .i64 v]] w fun e w' => e = .returned (.tuple #[.agg #[.int .i64 0, .int .i64 0, .int .i64 0, .int .i64 0, .int .i64 0, .int .i64 0], .int .i64 1]) ∧ Below w.heap.size w w' := by
  have hba := alloc_below w (.cells #[.int .i64 kk, .int .i64 y, .int .i64 v] 40)
  have hca := heap_alloc_new w (.cells #[.int .i64 kk, .int .i64 y, .int .i64 v] 40)
  have hbb := alloc_below (w.alloc (.cells #[.int .i64 kk, .int .i64 y, .int .i64 v] 40)) (.cells #[.int .i64 0, .int .i64 0, .int .i64 0, .int .i64 0, .int .i64 0, .int .i64 0] 42)
  have hcb := heap_alloc_new (w.alloc (.cells #[.int .i64 kk, .int .i64 y, .int .i64 v] 40)) (.cells #[.int .i64 0, .int .i64 0, .int .i64 0, .int .i64 0, .int .i64 0, .int .i64 0] 42)
  have hsa : (w.alloc (.cells #[.int .i64 kk, .int .i64 y, .int .i64 v] 40)).heap.size = w.heap.size + 1 := by simp
  have hsb : ((w.alloc (.cells #[.int .i64 kk, .int .i64 y, .int .i64 v] 40)).alloc (.cells #[.int .i64 0, .int .i64 0, .int .i64 0, .int .i64 0, .int .i64 0, .int .i64 0] 42)).heap.size = w.heap.size + 2 := by simp
  rw [hsa] at hcb
  have hca2 := (hbb.block w.heap.size (by omega)).trans hca
  have hbw := hba.trans (hbb.mono (by omega))
  clear hba hca hbb
  have HN := Lib.hid h
  clear h
  go_enter Tryz.func12, Tryz.ntmps12
  go_upto_region 1 with fail
  obtain ⟨W, hW⟩ : ∃ W, (w.alloc (.cells #[.int .i64 kk, .int .i64 y, .int .i64 v] 40)).alloc (.cells #[.int .i64 0, .int .i64 0, .int .i64 0, .int .i64 0, .int .i64 0, .int .i64 0] 42) = W := ⟨_, rfl⟩
  rw [hW] at hca2 hbw hcb hsb ⊢
  have HNW := Lib.hid (HN.out.below hbw)
  obtain ⟨Ai, ci, Aa, ca, Ac, cc, Ao, co, L, ho⟩ := HNW.out.opens
  have HO := Lib.hid ho
  have hrow := ho.row
  rw [hw] at hrow
  have f18 : W.cell? ⟨k, 18, none⟩ = some (.bool false) := rowc hrow 18 rfl
  have hsW : w.heap.size + 2 ≤ W.heap.size := by omega
  have HBW := Lib.hid hbw
  have HC1 := Lib.hid hcb
  have HC0 := Lib.hid hca2
  clear hW hca2 hbw hcb hsb hsa ho
  go_upto_region 3 with fail
  clear f18
  have l16 := later_cell (w := W.drew) (show W.drew.cell? ⟨k, 16, none⟩ = some (.pointer (some ⟨g, 0, none⟩)) from rowc hrow 16 rfl)
  have l1 := later_cell (w := W.drew) (show W.drew.cell? ⟨k, 1, none⟩ = some (.int .i64 c.cl) from rowc hrow 1 rfl)
  have l15 := later_cell (w := W.drew) (show W.drew.cell? ⟨k, 15, none⟩ = some (.int .i64 id) from rowc hrow 15 rfl)
  have l19 := later_cell (w := W.drew) (show W.drew.cell? ⟨k, 19, none⟩ = some (.slice Ai s.issued.length ci) from rowc hrow 19 rfl)
  have hcap := own_cap HO.out.oi
  have hwl : IntKind.i64.wrap ((s.issued.length : Int) + 1) = (s.issued.length : Int) + 1 := IntWalk.i64_in _ (by omega)
  have HRO : Hid (∀ w' : World, (∃ p : Later W.drew, w' = p.W) → w'.rangeAt w.heap.size 0 [.int .i64 kk, .int .i64 y, .int .i64 v]) := Lib.hid (by rintro w' ⟨p, rfl⟩; exact range_of_row ((p.h.block _ (show w.heap.size < W.heap.size by omega)).trans HC0.out))
  have HMK := Lib.hid fun W' => make_not g c.cl id ((s.issued.length : Int) + 1) kk y v W' hv
  have HLF : Hid (Below W.drew.heap.size W.drew W.drew) := Lib.hid (Below.refl _ _)
  clear hrow hv
  go_cut [6, 7] from 13 (fun rv ev_ wx => ev_ = .int .i64 1 ∧ Hid (Below W.heap.size W wx))
  case first =>
    refine wp_region_M (fun w' => ∃ p : Later W.drew, w' = p.W) [0, 1, 2, 3, 4, 5, 6, 7, 8, 9, 10, 11, 12, 13, 14, 15, 16, 17, 18, 19, 20, 21, 22, 23, 24, 25, 26] 27 (by kernel_rfl) (by kernel_rfl) ?_
    obtain ⟨Wd, hWd⟩ : ∃ Wd, W.drew = Wd := ⟨_, rfl⟩
    have hdz : Wd.heap.size = W.heap.size := by rw [← hWd]; rfl
    have hdr : Below W.heap.size W Wd := by rw [← hWd]; exact (Below.refl _ _).drew
    have HDr := Lib.hid hdr
    rw [hWd] at l16 l1 l15 l19 HRO HLF ⊢
    clear hWd hdz hdr
    refine wpAnyM_read [] 0 (by kernel_rfl) (fun _ d _ _ _ h => by cases d <;> exact h) ⟨⟨_, HLF.out⟩, rfl⟩ ?_
    simp only [List.getElem?_cons_zero, List.getElem?_cons_succ, Option.toList]
    repeat (first | go_big_quiet_step (fail) | (refine quiet_load (by simp [Region.wanted, yielded]) 40 (.tmp 3) (by rfl) w.heap.size 0 (by rfl) [.int .i64 kk, .int .i64 y, .int .i64 v] _ HRO.out Tryz.underlying40 rfl val_size ?_; intro K hK; go_simp; refine hK _ ?_; clear hK K) | quiet_step (fail) | refine wpQuiet_nil ?_)
    refine wpAnyM_read [0] 1 (by kernel_rfl) (fun _ d _ _ _ h => by cases d <;> exact h) ⟨⟨_, HLF.out⟩, rfl⟩ ?_
    simp only [List.getElem?_cons_zero, List.getElem?_cons_succ, Option.toList]
    repeat (first | go_big_quiet_step (fail) | (refine quiet_load (by simp [Region.wanted, yielded]) 40 (.tmp 3) (by rfl) w.heap.size 0 (by rfl) [.int .i64 kk, .int .i64 y, .int .i64 v] _ HRO.out Tryz.underlying40 rfl val_size ?_; intro K hK; go_simp; refine hK _ ?_; clear hK K) | quiet_step (fail) | refine wpQuiet_nil ?_)
    refine wpAnyM_read [0, 1] 2 (by kernel_rfl) (fun _ d _ _ _ h => by cases d <;> exact h) ⟨⟨_, HLF.out⟩, rfl⟩ ?_
    simp only [List.getElem?_cons_zero, List.getElem?_cons_succ, Option.toList]
    repeat (first | go_big_quiet_step (fail) | (refine quiet_load (by simp [Region.wanted, yielded]) 40 (.tmp 3) (by rfl) w.heap.size 0 (by rfl) [.int .i64 kk, .int .i64 y, .int .i64 v] _ HRO.out Tryz.underlying40 rfl val_size ?_; intro K hK; go_simp; refine hK _ ?_; clear hK K) | quiet_step (fail) | refine wpQuiet_nil ?_)
    refine wpAnyM_read [0, 1, 2] 3 (by kernel_rfl) (fun _ d _ _ _ h => by cases d <;> exact h) ⟨⟨_, HLF.out⟩, rfl⟩ ?_
    simp only [List.getElem?_cons_zero, List.getElem?_cons_succ, Option.toList]
    repeat (first | go_big_quiet_step (fail) | (refine quiet_load (by simp [Region.wanted, yielded]) 40 (.tmp 3) (by rfl) w.heap.size 0 (by rfl) [.int .i64 kk, .int .i64 y, .int .i64 v] _ HRO.out Tryz.underlying40 rfl val_size ?_; intro K hK; go_simp; refine hK _ ?_; clear hK K) | quiet_step (fail) | refine wpQuiet_nil ?_)
    refine wpAnyM_read [0, 1, 2, 3] 4 (by kernel_rfl) (fun _ d _ _ _ h => by cases d <;> exact h) ⟨⟨_, HLF.out⟩, rfl⟩ ?_
    simp only [List.getElem?_cons_zero, List.getElem?_cons_succ, Option.toList]
    repeat (first | go_big_quiet_step (fail) | (refine quiet_load (by simp [Region.wanted, yielded]) 40 (.tmp 3) (by rfl) w.heap.size 0 (by rfl) [.int .i64 kk, .int .i64 y, .int .i64 v] _ HRO.out Tryz.underlying40 rfl val_size ?_; intro K hK; go_simp; refine hK _ ?_; clear hK K) | quiet_step (fail) | refine wpQuiet_nil ?_)
    refine wpAnyM_read [0, 1, 2, 3, 4] 5 (by kernel_rfl) (fun _ d _ _ _ h => by cases d <;> exact h) ⟨⟨_, HLF.out⟩, rfl⟩ ?_
    simp only [List.getElem?_cons_zero, List.getElem?_cons_succ, Option.toList]
    repeat (first | go_big_quiet_step (fail) | (refine quiet_load (by simp [Region.wanted, yielded]) 40 (.tmp 3) (by rfl) w.heap.size 0 (by rfl) [.int .i64 kk, .int .i64 y, .int .i64 v] _ HRO.out Tryz.underlying40 rfl val_size ?_; intro K hK; go_simp; refine hK _ ?_; clear hK K) | quiet_step (fail) | refine wpQuiet_nil ?_)
    refine wpAnyM_read [0, 1, 2, 3, 4, 5] 6 (by kernel_rfl) (fun _ d _ _ _ h => by cases d <;> exact h) ⟨⟨_, HLF.out⟩, rfl⟩ ?_
    simp only [List.getElem?_cons_zero, List.getElem?_cons_succ, Option.toList]
    repeat (first | go_big_quiet_step (fail) | (refine quiet_load (by simp [Region.wanted, yielded]) 40 (.tmp 3) (by rfl) w.heap.size 0 (by rfl) [.int .i64 kk, .int .i64 y, .int .i64 v] _ HRO.out Tryz.underlying40 rfl val_size ?_; intro K hK; go_simp; refine hK _ ?_; clear hK K) | quiet_step (fail) | refine wpQuiet_nil ?_)
    refine wpAnyM_read [0, 1, 2, 3, 4, 5, 6] 7 (by kernel_rfl) (fun _ d _ _ _ h => by cases d <;> exact h) ⟨⟨_, HLF.out⟩, rfl⟩ ?_
    simp only [List.getElem?_cons_zero, List.getElem?_cons_succ, Option.toList]
    repeat (first | go_big_quiet_step (fail) | (refine quiet_load (by simp [Region.wanted, yielded]) 40 (.tmp 3) (by rfl) w.heap.size 0 (by rfl) [.int .i64 kk, .int .i64 y, .int .i64 v] _ HRO.out Tryz.underlying40 rfl val_size ?_; intro K hK; go_simp; refine hK _ ?_; clear hK K) | quiet_step (fail) | refine wpQuiet_nil ?_)
    refine wpAnyM_read [0, 1, 2, 3, 4, 5, 6, 7] 8 (by kernel_rfl) (fun _ d _ _ _ h => by cases d <;> exact h) ⟨⟨_, HLF.out⟩, rfl⟩ ?_
    simp only [List.getElem?_cons_zero, List.getElem?_cons_succ, Option.toList]
    repeat (first | go_big_quiet_step (fail) | (refine quiet_load (by simp [Region.wanted, yielded]) 40 (.tmp 3) (by rfl) w.heap.size 0 (by rfl) [.int .i64 kk, .int .i64 y, .int .i64 v] _ HRO.out Tryz.underlying40 rfl val_size ?_; intro K hK; go_simp; refine hK _ ?_; clear hK K) | quiet_step (fail) | refine wpQuiet_nil ?_)
    refine wpAnyM_read [0, 1, 2, 3, 4, 5, 6, 7, 8] 9 (by kernel_rfl) (fun _ d _ _ _ h => by cases d <;> exact h) ⟨⟨_, HLF.out⟩, rfl⟩ ?_
    simp only [List.getElem?_cons_zero, List.getElem?_cons_succ, Option.toList]
    repeat (first | go_big_quiet_step (fail) | (refine quiet_load (by simp [Region.wanted, yielded]) 40 (.tmp 3) (by rfl) w.heap.size 0 (by rfl) [.int .i64 kk, .int .i64 y, .int .i64 v] _ HRO.out Tryz.underlying40 rfl val_size ?_; intro K hK; go_simp; refine hK _ ?_; clear hK K) | quiet_step (fail) | refine wpQuiet_nil ?_)
    refine wpAnyM_read [0, 1, 2, 3, 4, 5, 6, 7, 8, 9] 10 (by kernel_rfl) (fun _ d _ _ _ h => by cases d <;> exact h) ⟨⟨_, HLF.out⟩, rfl⟩ ?_
    simp only [List.getElem?_cons_zero, List.getElem?_cons_succ, Option.toList]
    repeat (first | go_big_quiet_step (fail) | (refine quiet_load (by simp [Region.wanted, yielded]) 40 (.tmp 3) (by rfl) w.heap.size 0 (by rfl) [.int .i64 kk, .int .i64 y, .int .i64 v] _ HRO.out Tryz.underlying40 rfl val_size ?_; intro K hK; go_simp; refine hK _ ?_; clear hK K) | quiet_step (fail) | refine wpQuiet_nil ?_)
    refine wpAnyM_read [0, 1, 2, 3, 4, 5, 6, 7, 8, 9, 10] 11 (by kernel_rfl) (fun _ d _ _ _ h => by cases d <;> exact h) ⟨⟨_, HLF.out⟩, rfl⟩ ?_
    simp only [List.getElem?_cons_zero, List.getElem?_cons_succ, Option.toList]
    repeat (first | go_big_quiet_step (fail) | (refine quiet_load (by simp [Region.wanted, yielded]) 40 (.tmp 3) (by rfl) w.heap.size 0 (by rfl) [.int .i64 kk, .int .i64 y, .int .i64 v] _ HRO.out Tryz.underlying40 rfl val_size ?_; intro K hK; go_simp; refine hK _ ?_; clear hK K) | quiet_step (fail) | refine wpQuiet_nil ?_)
    refine wpAnyM_read [0, 1, 2, 3, 4, 5, 6, 7, 8, 9, 10, 11] 12 (by kernel_rfl) (fun _ d _ _ _ h => by cases d <;> exact h) ⟨⟨_, HLF.out⟩, rfl⟩ ?_
    simp only [List.getElem?_cons_zero, List.getElem?_cons_succ, Option.toList]
    repeat (first | go_big_quiet_step (fail) | (refine quiet_load (by simp [Region.wanted, yielded]) 40 (.tmp 3) (by rfl) w.heap.size 0 (by rfl) [.int .i64 kk, .int .i64 y, .int .i64 v] _ HRO.out Tryz.underlying40 rfl val_size ?_; intro K hK; go_simp; refine hK _ ?_; clear hK K) | quiet_step (fail) | refine wpQuiet_nil ?_)
    refine wpAnyM_read [0, 1, 2, 3, 4, 5, 6, 7, 8, 9, 10, 11, 12] 13 (by kernel_rfl) (fun _ d _ _ _ h => by cases d <;> exact h) ⟨⟨_, HLF.out⟩, rfl⟩ ?_
    simp only [List.getElem?_cons_zero, List.getElem?_cons_succ, Option.toList]
    repeat (first | go_big_quiet_step (fail) | (refine quiet_load (by simp [Region.wanted, yielded]) 40 (.tmp 3) (by rfl) w.heap.size 0 (by rfl) [.int .i64 kk, .int .i64 y, .int .i64 v] _ HRO.out Tryz.underlying40 rfl val_size ?_; intro K hK; go_simp; refine hK _ ?_; clear hK K) | quiet_step (fail) | refine wpQuiet_nil ?_)
    refine wpAnyM_read [0, 1, 2, 3, 4, 5, 6, 7, 8, 9, 10, 11, 12, 13] 14 (by kernel_rfl) (fun _ d _ _ _ h => by cases d <;> exact h) ⟨⟨_, HLF.out⟩, rfl⟩ ?_
    simp only [List.getElem?_cons_zero, List.getElem?_cons_succ, Option.toList]
    repeat (first | go_big_quiet_step (fail) | (refine quiet_load (by simp [Region.wanted, yielded]) 40 (.tmp 3) (by rfl) w.heap.size 0 (by rfl) [.int .i64 kk, .int .i64 y, .int .i64 v] _ HRO.out Tryz.underlying40 rfl val_size ?_; intro K hK; go_simp; refine hK _ ?_; clear hK K) | quiet_step (fail) | refine wpQuiet_nil ?_)
    refine wpAnyM_read [0, 1, 2, 3, 4, 5, 6, 7, 8, 9, 10, 11, 12, 13, 14] 15 (by kernel_rfl) (fun _ d _ _ _ h => by cases d <;> exact h) ⟨⟨_, HLF.out⟩, rfl⟩ ?_
    simp only [List.getElem?_cons_zero, List.getElem?_cons_succ, Option.toList]
    repeat (first | go_big_quiet_step (fail) | (refine quiet_load (by simp [Region.wanted, yielded]) 40 (.tmp 3) (by rfl) w.heap.size 0 (by rfl) [.int .i64 kk, .int .i64 y, .int .i64 v] _ HRO.out Tryz.underlying40 rfl val_size ?_; intro K hK; go_simp; refine hK _ ?_; clear hK K) | quiet_step (fail) | refine wpQuiet_nil ?_)
    refine wpAnyM_read [0, 1, 2, 3, 4, 5, 6, 7, 8, 9, 10, 11, 12, 13, 14, 15] 16 (by kernel_rfl) (fun _ d _ _ _ h => by cases d <;> exact h) ⟨⟨_, HLF.out⟩, rfl⟩ ?_
    simp only [List.getElem?_cons_zero, List.getElem?_cons_succ, Option.toList]
    repeat (first | go_big_quiet_step (fail) | (refine quiet_load (by simp [Region.wanted, yielded]) 40 (.tmp 3) (by rfl) w.heap.size 0 (by rfl) [.int .i64 kk, .int .i64 y, .int .i64 v] _ HRO.out Tryz.underlying40 rfl val_size ?_; intro K hK; go_simp; refine hK _ ?_; clear hK K) | quiet_step (fail) | refine wpQuiet_nil ?_)
    refine wpAnyM_read [0, 1, 2, 3, 4, 5, 6, 7, 8, 9, 10, 11, 12, 13, 14, 15, 16] 17 (by kernel_rfl) (fun _ d _ _ _ h => by cases d <;> exact h) ⟨⟨_, HLF.out⟩, rfl⟩ ?_
    simp only [List.getElem?_cons_zero, List.getElem?_cons_succ, Option.toList]
    repeat (first | go_big_quiet_step (fail) | (refine quiet_load (by simp [Region.wanted, yielded]) 40 (.tmp 3) (by rfl) w.heap.size 0 (by rfl) [.int .i64 kk, .int .i64 y, .int .i64 v] _ HRO.out Tryz.underlying40 rfl val_size ?_; intro K hK; go_simp; refine hK _ ?_; clear hK K) | quiet_step (fail) | refine wpQuiet_nil ?_)
    refine wpAnyM_read [0, 1, 2, 3, 4, 5, 6, 7, 8, 9, 10, 11, 12, 13, 14, 15, 16, 17] 18 (by kernel_rfl) (fun _ d _ _ _ h => by cases d <;> exact h) ⟨⟨_, HLF.out⟩, rfl⟩ ?_
    simp only [List.getElem?_cons_zero, List.getElem?_cons_succ, Option.toList]
    repeat (first | go_big_quiet_step (fail) | (refine quiet_load (by simp [Region.wanted, yielded]) 40 (.tmp 3) (by rfl) w.heap.size 0 (by rfl) [.int .i64 kk, .int .i64 y, .int .i64 v] _ HRO.out Tryz.underlying40 rfl val_size ?_; intro K hK; go_simp; refine hK _ ?_; clear hK K) | quiet_step (fail) | refine wpQuiet_nil ?_)
    refine wpAnyM_read [0, 1, 2, 3, 4, 5, 6, 7, 8, 9, 10, 11, 12, 13, 14, 15, 16, 17, 18] 19 (by kernel_rfl) (fun _ d _ _ _ h => by cases d <;> exact h) ⟨⟨_, HLF.out⟩, rfl⟩ ?_
    simp only [List.getElem?_cons_zero, List.getElem?_cons_succ, Option.toList]
    repeat (first | go_big_quiet_step (fail) | (refine quiet_load (by simp [Region.wanted, yielded]) 40 (.tmp 3) (by rfl) w.heap.size 0 (by rfl) [.int .i64 kk, .int .i64 y, .int .i64 v] _ HRO.out Tryz.underlying40 rfl val_size ?_; intro K hK; go_simp; refine hK _ ?_; clear hK K) | quiet_step (fail) | refine wpQuiet_nil ?_)
    clear l16 l1 l15 l19 HRO
    refine wpAnyM_two 20 24 (by kernel_rfl) ?_ ?_
    · skip
      simp only [List.getElem?_cons_zero, List.getElem?_cons_succ, Option.toList]
      go_wp2_with fail
      refine (HMK.out Wd).mono ?_
      rintro e w5 ⟨rfl, hbq⟩
      replace HLF := Lib.hid (Below.then HLF.out hbq HLF.out.size)
      have HBq := Lib.hid hbq
      have hzq := hbq.size
      clear hbq
      go_wp2_with fail
      first | refine And.intro (fun _ => ⟨⟨_, HLF.out⟩, rfl⟩) ?_ | refine And.intro ⟨⟨_, HLF.out⟩, rfl⟩ ?_
      refine wpAnyM_read [0, 1, 2, 3, 4, 5, 6, 7, 8, 9, 10, 11, 12, 13, 14, 15, 16, 17, 18, 19, 20] 21 (by kernel_rfl) (fun _ d _ _ _ h => by cases d <;> exact h) ⟨⟨_, HLF.out⟩, rfl⟩ ?_
      simp only [List.getElem?_cons_zero, List.getElem?_cons_succ, Option.toList]
      repeat (first | go_big_quiet_step (fail) | (refine quiet_load (by simp [Region.wanted, yielded]) 40 (.tmp 3) (by rfl) w.heap.size 0 (by rfl) [.int .i64 kk, .int .i64 y, .int .i64 v] _ HRO.out Tryz.underlying40 rfl val_size ?_; intro K hK; go_simp; refine hK _ ?_; clear hK K) | quiet_step (fail) | refine wpQuiet_nil ?_)
      refine wpAnyM_read [0, 1, 2, 3, 4, 5, 6, 7, 8, 9, 10, 11, 12, 13, 14, 15, 16, 17, 18, 19, 20, 21] 22 (by kernel_rfl) (fun _ d _ _ _ h => by cases d <;> exact h) ⟨⟨_, HLF.out⟩, rfl⟩ ?_
      simp only [List.getElem?_cons_zero, List.getElem?_cons_succ, Option.toList]
      repeat (first | go_big_quiet_step (fail) | (refine quiet_load (by simp [Region.wanted, yielded]) 40 (.tmp 3) (by rfl) w.heap.size 0 (by rfl) [.int .i64 kk, .int .i64 y, .int .i64 v] _ HRO.out Tryz.underlying40 rfl val_size ?_; intro K hK; go_simp; refine hK _ ?_; clear hK K) | quiet_step (fail) | refine wpQuiet_nil ?_)
      refine wpAnyM_read [0, 1, 2, 3, 4, 5, 6, 7, 8, 9, 10, 11, 12, 13, 14, 15, 16, 17, 18, 19, 20, 21, 22] 23 (by kernel_rfl) (fun _ d _ _ _ h => by cases d <;> exact h) ⟨⟨_, HLF.out⟩, rfl⟩ ?_
      simp only [List.getElem?_cons_zero, List.getElem?_cons_succ, Option.toList]
      repeat (first | go_big_quiet_step (fail) | (refine quiet_load (by simp [Region.wanted, yielded]) 40 (.tmp 3) (by rfl) w.heap.size 0 (by rfl) [.int .i64 kk, .int .i64 y, .int .i64 v] _ HRO.out Tryz.underlying40 rfl val_size ?_; intro K hK; go_simp; refine hK _ ?_; clear hK K) | quiet_step (fail) | refine wpQuiet_nil ?_)
      refine wpAnyM_one 24 (by kernel_rfl) ?_
      simp only [List.getElem?_cons_zero, List.getElem?_cons_succ, Option.toList]
      go_wp2_with fail
      have hba := alloc_below w5 (.cells #[.int .i64 0, .int .i64 0, .int .i64 0, .int .i64 0, .int .i64 0, .int .i64 0] 42)
      have hca := heap_alloc_new w5 (.cells #[.int .i64 0, .int .i64 0, .int .i64 0, .int .i64 0, .int .i64 0, .int .i64 0] 42)
      replace HLF := Lib.hid (Below.then HLF.out hba HLF.out.size)
      first | refine And.intro (fun _ => ⟨⟨_, HLF.out⟩, rfl⟩) ?_ | refine And.intro ⟨⟨_, HLF.out⟩, rfl⟩ ?_
      obtain ⟨w6, hW_⟩ : ∃ W_, (w5).alloc (.cells #[.int .i64 0, .int .i64 0, .int .i64 0, .int .i64 0, .int .i64 0, .int .i64 0] 42) = W_ := ⟨_, rfl⟩
      rw [hW_] at hba hca HLF ⊢
      have hlt_ := (Array.getElem?_eq_some_iff.1 hca).1
      have HCR := Lib.hid hca
      clear hW_ hba hca
      refine wpAnyM_one 25 (by kernel_rfl) ?_
      simp only [List.getElem?_cons_zero, List.getElem?_cons_succ, Option.toList]
      have hth := row_there HCR.out
      have hle_ : Wd.heap.size ≤ w5.heap.size := by omega
      have HLS : Hid (Below Wd.heap.size Wd (w6.setCells (w5.heap.size) 0 [.int .i64 0, .int .i64 0, .int .i64 0, .int .i64 0, .int .i64 0, .int .i64 0])) := Lib.hid (((Fp.of_below HLF.out (fun _ => False)).setCells (Or.inr hle_) _).to_below (Nat.le_refl _) fun _ _ h => h.elim)
      have Hth := Lib.hid hth
      clear hth
      go_wp2_with (refine wpList_store_mid rfl 42 (.tmp 6) (.tmp 35) rfl (w5.heap.size) 0 #[.int .i64 0, .int .i64 0, .int .i64 0, .int .i64 0, .int .i64 0, .int .i64 0] rfl rfl Hth.out rst_sizeR (by simp [Value.oneCell']) ?_)
      first | refine And.intro (fun _ => ⟨⟨_, HLS.out⟩, rfl⟩) ?_ | refine And.intro ⟨⟨_, HLS.out⟩, rfl⟩ ?_
      refine wpAnyM_one 26 (by kernel_rfl) ?_
      simp only [List.getElem?_cons_zero, List.getElem?_cons_succ, Option.toList]
      go_wp2_with fail
      first | refine And.intro (fun _ => ⟨⟨_, HLS.out⟩, rfl⟩) ?_ | refine And.intro ⟨⟨_, HLS.out⟩, rfl⟩ ?_
      refine And.intro (by kernel_rfl) ?_
      go_wp2_with fail
      go_meet
      exact ⟨rfl, Lib.hid (Below.then HDr.out HLS.out HDr.out.size)⟩
    · skip
      simp only [List.getElem?_cons_zero, List.getElem?_cons_succ, Option.toList]
      go_wp2_with fail
      have hba := alloc_below Wd (.cells #[.int .i64 0, .int .i64 0, .int .i64 0, .int .i64 0, .int .i64 0, .int .i64 0] 42)
      have hca := heap_alloc_new Wd (.cells #[.int .i64 0, .int .i64 0, .int .i64 0, .int .i64 0, .int .i64 0, .int .i64 0] 42)
      replace HLF := Lib.hid (Below.then HLF.out hba HLF.out.size)
      first | refine And.intro (fun _ => ⟨⟨_, HLF.out⟩, rfl⟩) ?_ | refine And.intro ⟨⟨_, HLF.out⟩, rfl⟩ ?_
      obtain ⟨w5, hW_⟩ : ∃ W_, (Wd).alloc (.cells #[.int .i64 0, .int .i64 0, .int .i64 0, .int .i64 0, .int .i64 0, .int .i64 0] 42) = W_ := ⟨_, rfl⟩
      rw [hW_] at hba hca HLF ⊢
      have hlt_ := (Array.getElem?_eq_some_iff.1 hca).1
      have HCR := Lib.hid hca
      clear hW_ hba hca
      refine wpAnyM_one 20 (by kernel_rfl) ?_
      simp only [List.getElem?_cons_zero, List.getElem?_cons_succ, Option.toList]
      go_wp2_with fail
      refine (HMK.out w5).mono ?_
      rintro e w6 ⟨rfl, hbq⟩
      replace HLF := Lib.hid (Below.then HLF.out hbq HLF.out.size)
      have HBq := Lib.hid hbq
      have hzq := hbq.size
      clear hbq
      go_wp2_with fail
      first | refine And.intro (fun _ => ⟨⟨_, HLF.out⟩, rfl⟩) ?_ | refine And.intro ⟨⟨_, HLF.out⟩, rfl⟩ ?_
      refine wpAnyM_read [0, 1, 2, 3, 4, 5, 6, 7, 8, 9, 10, 11, 12, 13, 14, 15, 16, 17, 18, 19, 24, 20] 21 (by kernel_rfl) (fun _ d _ _ _ h => by cases d <;> exact h) ⟨⟨_, HLF.out⟩, rfl⟩ ?_
      simp only [List.getElem?_cons_zero, List.getElem?_cons_succ, Option.toList]
      repeat (first | go_big_quiet_step (fail) | (refine quiet_load (by simp [Region.wanted, yielded]) 40 (.tmp 3) (by rfl) w.heap.size 0 (by rfl) [.int .i64 kk, .int .i64 y, .int .i64 v] _ HRO.out Tryz.underlying40 rfl val_size ?_; intro K hK; go_simp; refine hK _ ?_; clear hK K) | quiet_step (fail) | refine wpQuiet_nil ?_)
      refine wpAnyM_read [0, 1, 2, 3, 4, 5, 6, 7, 8, 9, 10, 11, 12, 13, 14, 15, 16, 17, 18, 19, 24, 20, 21] 22 (by kernel_rfl) (fun _ d _ _ _ h => by cases d <;> exact h) ⟨⟨_, HLF.out⟩, rfl⟩ ?_
      simp only [List.getElem?_cons_zero, List.getElem?_cons_succ, Option.toList]
      repeat (first | go_big_quiet_step (fail) | (refine quiet_load (by simp [Region.wanted, yielded]) 40 (.tmp 3) (by rfl) w.heap.size 0 (by rfl) [.int .i64 kk, .int .i64 y, .int .i64 v] _ HRO.out Tryz.underlying40 rfl val_size ?_; intro K hK; go_simp; refine hK _ ?_; clear hK K) | quiet_step (fail) | refine wpQuiet_nil ?_)
      refine wpAnyM_read [0, 1, 2, 3, 4, 5, 6, 7, 8, 9, 10, 11, 12, 13, 14, 15, 16, 17, 18, 19, 24, 20, 21, 22] 23 (by kernel_rfl) (fun _ d _ _ _ h => by cases d <;> exact h) ⟨⟨_, HLF.out⟩, rfl⟩ ?_
      simp only [List.getElem?_cons_zero, List.getElem?_cons_succ, Option.toList]
      repeat (first | go_big_quiet_step (fail) | (refine quiet_load (by simp [Region.wanted, yielded]) 40 (.tmp 3) (by rfl) w.heap.size 0 (by rfl) [.int .i64 kk, .int .i64 y, .int .i64 v] _ HRO.out Tryz.underlying40 rfl val_size ?_; intro K hK; go_simp; refine hK _ ?_; clear hK K) | quiet_step (fail) | refine wpQuiet_nil ?_)
      replace HCR := Lib.hid ((HBq.out.block _ hlt_).trans HCR.out)
      refine wpAnyM_one 25 (by kernel_rfl) ?_
      simp only [List.getElem?_cons_zero, List.getElem?_cons_succ, Option.toList]
      have hth := row_there HCR.out
      have hle_ : Wd.heap.size ≤ Wd.heap.size := by omega
      have HLS : Hid (Below Wd.heap.size Wd (w6.setCells (Wd.heap.size) 0 [.int .i64 0, .int .i64 0, .int .i64 0, .int .i64 0, .int .i64 0, .int .i64 0])) := Lib.hid (((Fp.of_below HLF.out (fun _ => False)).setCells (Or.inr hle_) _).to_below (Nat.le_refl _) fun _ _ h => h.elim)
      have Hth := Lib.hid hth
      clear hth
      go_wp2_with (refine wpList_store_mid rfl 42 (.tmp 6) (.tmp 35) rfl (Wd.heap.size) 0 #[.int .i64 0, .int .i64 0, .int .i64 0, .int .i64 0, .int .i64 0, .int .i64 0] rfl rfl Hth.out rst_sizeR (by simp [Value.oneCell']) ?_)
      first | refine And.intro (fun _ => ⟨⟨_, HLS.out⟩, rfl⟩) ?_ | refine And.intro ⟨⟨_, HLS.out⟩, rfl⟩ ?_
      refine wpAnyM_one 26 (by kernel_rfl) ?_
      simp only [List.getElem?_cons_zero, List.getElem?_cons_succ, Option.toList]
      go_wp2_with fail
      first | refine And.intro (fun _ => ⟨⟨_, HLS.out⟩, rfl⟩) ?_ | refine And.intro ⟨⟨_, HLS.out⟩, rfl⟩ ?_
      refine And.intro (by kernel_rfl) ?_
      go_wp2_with fail
      go_meet
      exact ⟨rfl, Lib.hid (Below.then HDr.out HLS.out HDr.out.size)⟩
  case rest =>
    obtain ⟨rfl, HB⟩ := hcut
    have hB := HB.out
    have hC1 := (hB.block (w.heap.size + 1) (by omega)).trans HC1.out
    have hth := row_there hC1
    obtain ⟨s1, s2⟩ := row_store hC1 [.int .i64 0, .int .i64 0, .int .i64 0, .int .i64 0, .int .i64 0, .int .i64 0] rfl
    have Hth := Lib.hid hth
    have S1 := Lib.hid s1
    have hbz : Below w.heap.size w wc := Below.then HBW.out hB HBW.out.size
    have HBz := Lib.hid hbz
    clear hB hC1 hth s1 s2 hbz HO HN HNW HMK
    go_wp2_with (first | (refine wpList_store_mid rfl 42 (.tmp 4) (.tmp 39) rfl (w.heap.size + 1) 0 #[.int .i64 0, .int .i64 0, .int .i64 0, .int .i64 0, .int .i64 0, .int .i64 0] rfl rfl Hth.out rst_sizeR (by simp [Value.oneCell']) ?_))
    refine bodyPost_ret (v := .tuple #[.agg #[.int .i64 0, .int .i64 0, .int .i64 0, .int .i64 0, .int .i64 0, .int .i64 0], .int .i64 1]) ?_ rfl ?_
    · exact results_cell_row1 Tryz.results12 _ _ (w.heap.size + 1) _ _ _ _ rfl S1.out Tryz.underlying42 rfl rst_sizeR
    · exact ⟨rfl, ((Fp.of_below HBz.out (fun _ => False)).setCells (Or.inr (by omega)) _).to_below (Nat.le_refl _) fun _ _ h => h.elim⟩
end Go.Proofs.YtipmjleohadoeaaGreat
