/- A client's Issue. Printed by gen_cl5.py. -/
import Derived.Test.YtipmjleohadoeaaGreatCl4Sa
import Derived.Test.YtipmjleohadoeaaGreatRmSa
import Derived.Test.YtipmjleohadoeaaGreatPhMSa
namespace Go.Proofs.YtipmjleohadoeaaGreat
open Go.RowKit
set_option linter.unusedVariables false
set_option linter.unusedSimpArgs false

set_option maxRecDepth 100000 in
set_option maxHeartbeats 16000000 in
theorem issue_m (U : Nat → Prop) (g bm k ct : Nat) (K : List Key) (c : Cf) (id : Int) (s : CS) (kk y v : Int) (r : Psp.Req) (w : World) (h : Cn w U g bm K k ct c id s) (hf : 1 ≤ c.f ∧ c.f ≤ 4) (hcl : c.cl ≤ 4) (hid : 0 ≤ id ∧ id < 4) (hw : s.waits = false) (hlen : s.issued.length ≤ 100000) (hol : s.out.length ≤ 1000000) (hK : K.length < 900000)
    (hv : Psp.valid (bareQ id s kk y v) c.cl = true) (hq : r = { bareQ id s kk y v with s := sealN K (kR (bareQ id s kk y v)) }) :
    Calls Tryz.prog 12 #[.pointer (some ⟨k, 0, none⟩), .agg #[.int .i64 kk, .int .i64 y, .int .i64 v]] w fun e w' => e = .returned (.tuple #[.agg #[.int .i64 r.c, .int .i64 r.t, .int .i64 r.k, .int .i64 r.y, .int .i64 r.v, .int .i64 r.s], .int .i64 0]) ∧
      ∃ U', Cn w' U' g bm (sendS c id (sealL K (kR (bareQ id s kk y v))) { s with issued := s.issued ++ [r], waits := true, at_ := s.now, ans := [] }).2 k ct c id (sendS c id (sealL K (kR (bareQ id s kk y v))) { s with issued := s.issued ++ [r], waits := true, at_ := s.now, ans := [] }).1 ∧ (∀ b, U' b → U b ∨ w.heap.size ≤ b) ∧ Fp (fun b => U b ∨ b = bm) w w' := by
  have hba := alloc_below w (.cells #[.int .i64 kk, .int .i64 y, .int .i64 v] 40)
  have hca := heap_alloc_new w (.cells #[.int .i64 kk, .int .i64 y, .int .i64 v] 40)
  have hbb := alloc_below (w.alloc (.cells #[.int .i64 kk, .int .i64 y, .int .i64 v] 40)) (.cells #[.int .i64 0, .int .i64 0, .int .i64 0, .int .i64 0, .int .i64 0, .int .i64 0] 42)
  have hcb := heap_alloc_new (w.alloc (.cells #[.int .i64 kk, .int .i64 y, .int .i64 v] 40)) (.cells #[.int .i64 0, .int .i64 0, .int .i64 0, .int .i64 0, .int .i64 0, .int .i64 0] 42)
  have hsa : (w.alloc (.cells #[.int .i64 kk, .int .i64 y, .int .i64 v] 40)).heap.size = w.heap.size + 1 := by simp
  have hsb : ((w.alloc (.cells #[.int .i64 kk, .int .i64 y, .int .i64 v] 40)).alloc (.cells #[.int .i64 0, .int .i64 0, .int .i64 0, .int .i64 0, .int .i64 0, .int .i64 0] 42)).heap.size = w.heap.size + 2 := by simp
  rw [hsa] at hcb
  have hca2 := (hbb.block w.heap.size (by omega)).trans hca
  have hbw := hba.trans (hbb.mono (by omega))
  clear hba hca hbb
  have HN := Lib.hid h
  have HQ := Lib.hid hq
  have hgl := h.nt.lt
  have hkl := h.cm.lt k h.cm.uk
  have hkbm : k ≠ bm := fun he => h.sep.2 (he ▸ h.cm.uk)
  clear h hq
  go_enter Tryz.func12, Tryz.ntmps12
  go_upto_region 1 with fail
  obtain ⟨W, hW⟩ : ∃ W, (w.alloc (.cells #[.int .i64 kk, .int .i64 y, .int .i64 v] 40)).alloc (.cells #[.int .i64 0, .int .i64 0, .int .i64 0, .int .i64 0, .int .i64 0, .int .i64 0] 42) = W := ⟨_, rfl⟩
  rw [hW] at hca2 hbw hcb hsb ⊢
  have HNW := Lib.hid (HN.out.below hbw)
  obtain ⟨Ai, ci, Aa, ca, Ac, cc, Ao, co, L, ho⟩ := HNW.out.cm.opens
  have HO := Lib.hid ho
  have hrow := ho.row
  rw [hw] at hrow
  have f18 : W.cell? ⟨k, 18, none⟩ = some (.bool false) := rowc hrow 18 rfl
  have hsW : w.heap.size + 2 ≤ W.heap.size := by omega
  have HBW := Lib.hid hbw
  have HC1 := Lib.hid hcb
  have HC0 := Lib.hid hca2
  clear hW hca2 hbw hcb hsb hsa ho
  go_upto_region 3 with fail
  clear f18
  obtain ⟨Wd, hWd⟩ : ∃ Wd, W.drew = Wd := ⟨_, rfl⟩
  have hWh : Wd.heap = W.heap := by rw [← hWd]; rfl
  have hdr : Below W.heap.size W Wd := by rw [← hWd]; exact (Below.refl _ _).drew
  have hWz : Wd.heap.size = W.heap.size := by rw [hWh]
  have HWz := Lib.hid hWz
  clear hWz
  have l16 := laterF_cell (w := Wd) (T := fun b => b = bm) (show Wd.cell? ⟨k, 16, none⟩ = some (.pointer (some ⟨g, 0, none⟩)) from rowc (show Wd.heap[k]? = _ by rw [hWh]; exact hrow) 16 rfl) hkbm
  have l1 := laterF_cell (w := Wd) (T := fun b => b = bm) (show Wd.cell? ⟨k, 1, none⟩ = some (.int .i64 c.cl) from rowc (show Wd.heap[k]? = _ by rw [hWh]; exact hrow) 1 rfl) hkbm
  have l15 := laterF_cell (w := Wd) (T := fun b => b = bm) (show Wd.cell? ⟨k, 15, none⟩ = some (.int .i64 id) from rowc (show Wd.heap[k]? = _ by rw [hWh]; exact hrow) 15 rfl) hkbm
  have l19 := laterF_cell (w := Wd) (T := fun b => b = bm) (show Wd.cell? ⟨k, 19, none⟩ = some (.slice Ai s.issued.length ci) from rowc (show Wd.heap[k]? = _ by rw [hWh]; exact hrow) 19 rfl) hkbm
  have hcap := own_cap HO.out.oi
  have hwl : IntKind.i64.wrap ((s.issued.length : Int) + 1) = (s.issued.length : Int) + 1 := IntWalk.i64_in _ (by omega)
  have HRO : Hid (∀ w' : World, (∃ p : LaterF Wd (fun b => b = bm), w' = p.W) → w'.rangeAt w.heap.size 0 [.int .i64 kk, .int .i64 y, .int .i64 v]) := Lib.hid (by rintro w' ⟨p, rfl⟩; exact range_of_row ((p.h.block _ (by rw [hWh]; omega) (by omega)).trans (by rw [hWh]; exact HC0.out)))
  have hUl : Hid (∀ b, U b → b < w.heap.size) := Lib.hid HN.out.cm.lt
  have hmk := fun W' (hN : Nt W' g bm K) => make_yes g bm K c.cl id ((s.issued.length : Int) + 1) kk y v W' hN (by omega) (by omega) hv
  obtain ⟨sN, hsN⟩ : ∃ sN, sealN K (kR ⟨id, (s.issued.length : Int) + 1, kk, y, v, 0⟩) = sN := ⟨_, rfl⟩
  obtain ⟨K1, hK1⟩ : ∃ K1, sealL K (kR ⟨id, (s.issued.length : Int) + 1, kk, y, v, 0⟩) = K1 := ⟨_, rfl⟩
  have hrr : r = ⟨id, (s.issued.length : Int) + 1, kk, y, v, sN⟩ := by rw [HQ.out, ← hsN]; rfl
  rw [hsN, hK1] at hmk
  have HMK := Lib.hid hmk
  have HLF : Hid (Fp (fun b => b = bm) Wd Wd) := Lib.hid (Fp.refl _ _)
  have HNd := Lib.hid (HNW.out.nt.below hdr)
  have HDr := Lib.hid hdr
  clear hrow hmk hWh hdr
  go_cut [6, 7] from 13 (fun rv ev_ wx => ∃ j, rv = .pointer (some ⟨j, 0, none⟩) ∧ ev_ = .int .i64 0 ∧ Hid (wx.heap[j]? = some (.cells #[.int .i64 id, .int .i64 ((s.issued.length : Int) + 1), .int .i64 kk, .int .i64 y, .int .i64 v, .int .i64 sN] 42 (0, 0))) ∧ W.heap.size ≤ j ∧ Hid (Fp (fun b => b = bm) W wx) ∧ Hid (Nt wx g bm K1))
  case first =>
    refine wp_region_M (fun w' => ∃ p : LaterF Wd (fun b => b = bm), w' = p.W) [0, 1, 2, 3, 4, 5, 6, 7, 8, 9, 10, 11, 12, 13, 14, 15, 16, 17, 18, 19, 20, 21, 22, 23, 24, 25, 26] 27 (by kernel_rfl) (by kernel_rfl) ?_
    rw [hWd]
    clear hWd
    refine wpAnyM_read [] 0 (by kernel_rfl) (fun _ d _ _ _ h => by cases d <;> exact h) ⟨⟨_, HLF.out⟩, rfl⟩ ?_
    simp only [List.getElem?_cons_zero, List.getElem?_cons_succ, Option.toList]
    repeat (first | go_big_quiet_step (fail) | (refine quiet_load (by simp [Region.wanted, yielded]) 40 (.tmp 3) (by rfl) w.heap.size 0 (by rfl) [.int .i64 kk, .int .i64 y, .int .i64 v] _ HRO.out Tryz.underlying40 rfl val_size ?_; intro K hK; go_simp; refine hK _ ?_; clear hK K) | quiet_step (fail) | refine wpQuiet_nil ?_)
    refine wpAnyM_read [0] 1 (by kernel_rfl) (fun _ d _ _ _ h => by cases d <;> exact h) ⟨⟨_, HLF.out⟩, rfl⟩ ?_
    simp only [List.getElem?_cons_zero, List.getElem?_cons_succ, Option.toList]
    repeat (first | go_big_quiet_step (fail) | (refine quiet_load (by simp [Region.wanted, yielded]) 40 (.tmp 3) (by rfl) w.heap.size 0 (by rfl) [.int .i64 kk, .int .i64 y, .int .i64 v] _ HRO.out Tryz.underlying40 rfl val_size ?_; intro K hK; go_simp; refine hK _ ?_; clear hK K) | quiet_step (fail) | refine wpQuiet_nil ?_)
    refine wpAnyM_read [0, 1] 2 (by kernel_rfl) (fun _ d _ _ _ h => by cases d <;> exact h) ⟨⟨_, HLF.out⟩, rfl⟩ ?_
    simp only [List.getElem?_cons_zero, List.getElem?_cons_succ, Option.toList]
    repeat (first | go_big_quiet_step (fail) | (refine quiet_load (by simp [Region.wanted, yielded]) 40 (.tmp 3) (by rfl) w.heap.size 0 (by rfl) [.int .i64 kk, .int .i64 y, .int .i64 v] _ HRO.out Tryz.underlying40 rfl val_size ?_; intro K hK; go_simp; refine hK _ ?_; clear hK K) | quiet_step (fail) | refine wpQuiet_nil ?_)
    refine wpAnyM_read [0, 1, 2] 3 (by kernel_rfl) (fun _ d _ _ _ h => by cases d <;> exact h) ⟨⟨_, HLF.out⟩, rfl⟩ ?_
    simp only [List.getElem?_cons_zero, List.getElem?_cons_succ, Option.toList]
    repeat (first | go_big_quiet_step (fail) | (refine quiet_load (by simp [Region.wanted, yielded]) 40 (.tmp 3) (by rfl) w.heap.size 0 (by rfl) [.int .i64 kk, .int .i64 y, .int .i64 v] _ HRO.out Tryz.underlying40 rfl val_size ?_; intro K hK; go_simp; refine hK _ ?_; clear hK K) | quiet_step (fail) | refine wpQuiet_nil ?_)
    refine wpAnyM_read [0, 1, 2, 3] 4 (by kernel_rfl) (fun _ d _ _ _ h => by cases d <;> exact h) ⟨⟨_, HLF.out⟩, rfl⟩ ?_
    simp only [List.getElem?_cons_zero, List.getElem?_cons_succ, Option.toList]
    repeat (first | go_big_quiet_step (fail) | (refine quiet_load (by simp [Region.wanted, yielded]) 40 (.tmp 3) (by rfl) w.heap.size 0 (by rfl) [.int .i64 kk, .int .i64 y, .int .i64 v] _ HRO.out Tryz.underlying40 rfl val_size ?_; intro K hK; go_simp; refine hK _ ?_; clear hK K) | quiet_step (fail) | refine wpQuiet_nil ?_)
    refine wpAnyM_read [0, 1, 2, 3, 4] 5 (by kernel_rfl) (fun _ d _ _ _ h => by cases d <;> exact h) ⟨⟨_, HLF.out⟩, rfl⟩ ?_
    simp only [List.getElem?_cons_zero, List.getElem?_cons_succ, Option.toList]
    repeat (first | go_big_quiet_step (fail) | (refine quiet_load (by simp [Region.wanted, yielded]) 40 (.tmp 3) (by rfl) w.heap.size 0 (by rfl) [.int .i64 kk, .int .i64 y, .int .i64 v] _ HRO.out Tryz.underlying40 rfl val_size ?_; intro K hK; go_simp; refine hK _ ?_; clear hK K) | quiet_step (fail) | refine wpQuiet_nil ?_)
    refine wpAnyM_read [0, 1, 2, 3, 4, 5] 6 (by kernel_rfl) (fun _ d _ _ _ h => by cases d <;> exact h) ⟨⟨_, HLF.out⟩, rfl⟩ ?_
    simp only [List.getElem?_cons_zero, List.getElem?_cons_succ, Option.toList]
    repeat (first | go_big_quiet_step (fail) | (refine quiet_load (by simp [Region.wanted, yielded]) 40 (.tmp 3) (by rfl) w.heap.size 0 (by rfl) [.int .i64 kk, .int .i64 y, .int .i64 v] _ HRO.out Tryz.underlying40 rfl val_size ?_; intro K hK; go_simp; refine hK _ ?_; clear hK K) | quiet_step (fail) | refine wpQuiet_nil ?_)
    refine wpAnyM_read [0, 1, 2, 3, 4, 5, 6] 7 (by kernel_rfl) (fun _ d _ _ _ h => by cases d <;> exact h) ⟨⟨_, HLF.out⟩, rfl⟩ ?_
    simp only [List.getElem?_cons_zero, List.getElem?_cons_succ, Option.toList]
    repeat (first | go_big_quiet_step (fail) | (refine quiet_load (by simp [Region.wanted, yielded]) 40 (.tmp 3) (by rfl) w.heap.size 0 (by rfl) [.int .i64 kk, .int .i64 y, .int .i64 v] _ HRO.out Tryz.underlying40 rfl val_size ?_; intro K hK; go_simp; refine hK _ ?_; clear hK K) | quiet_step (fail) | refine wpQuiet_nil ?_)
    refine wpAnyM_read [0, 1, 2, 3, 4, 5, 6, 7] 8 (by kernel_rfl) (fun _ d _ _ _ h => by cases d <;> exact h) ⟨⟨_, HLF.out⟩, rfl⟩ ?_
    simp only [List.getElem?_cons_zero, List.getElem?_cons_succ, Option.toList]
    repeat (first | go_big_quiet_step (fail) | (refine quiet_load (by simp [Region.wanted, yielded]) 40 (.tmp 3) (by rfl) w.heap.size 0 (by rfl) [.int .i64 kk, .int .i64 y, .int .i64 v] _ HRO.out Tryz.underlying40 rfl val_size ?_; intro K hK; go_simp; refine hK _ ?_; clear hK K) | quiet_step (fail) | refine wpQuiet_nil ?_)
    refine wpAnyM_read [0, 1, 2, 3, 4, 5, 6, 7, 8] 9 (by kernel_rfl) (fun _ d _ _ _ h => by cases d <;> exact h) ⟨⟨_, HLF.out⟩, rfl⟩ ?_
    simp only [List.getElem?_cons_zero, List.getElem?_cons_succ, Option.toList]
    repeat (first | go_big_quiet_step (fail) | (refine quiet_load (by simp [Region.wanted, yielded]) 40 (.tmp 3) (by rfl) w.heap.size 0 (by rfl) [.int .i64 kk, .int .i64 y, .int .i64 v] _ HRO.out Tryz.underlying40 rfl val_size ?_; intro K hK; go_simp; refine hK _ ?_; clear hK K) | quiet_step (fail) | refine wpQuiet_nil ?_)
    refine wpAnyM_read [0, 1, 2, 3, 4, 5, 6, 7, 8, 9] 10 (by kernel_rfl) (fun _ d _ _ _ h => by cases d <;> exact h) ⟨⟨_, HLF.out⟩, rfl⟩ ?_
    simp only [List.getElem?_cons_zero, List.getElem?_cons_succ, Option.toList]
    repeat (first | go_big_quiet_step (fail) | (refine quiet_load (by simp [Region.wanted, yielded]) 40 (.tmp 3) (by rfl) w.heap.size 0 (by rfl) [.int .i64 kk, .int .i64 y, .int .i64 v] _ HRO.out Tryz.underlying40 rfl val_size ?_; intro K hK; go_simp; refine hK _ ?_; clear hK K) | quiet_step (fail) | refine wpQuiet_nil ?_)
    refine wpAnyM_read [0, 1, 2, 3, 4, 5, 6, 7, 8, 9, 10] 11 (by kernel_rfl) (fun _ d _ _ _ h => by cases d <;> exact h) ⟨⟨_, HLF.out⟩, rfl⟩ ?_
    simp only [List.getElem?_cons_zero, List.getElem?_cons_succ, Option.toList]
    repeat (first | go_big_quiet_step (fail) | (refine quiet_load (by simp [Region.wanted, yielded]) 40 (.tmp 3) (by rfl) w.heap.size 0 (by rfl) [.int .i64 kk, .int .i64 y, .int .i64 v] _ HRO.out Tryz.underlying40 rfl val_size ?_; intro K hK; go_simp; refine hK _ ?_; clear hK K) | quiet_step (fail) | refine wpQuiet_nil ?_)
    refine wpAnyM_read [0, 1, 2, 3, 4, 5, 6, 7, 8, 9, 10, 11] 12 (by kernel_rfl) (fun _ d _ _ _ h => by cases d <;> exact h) ⟨⟨_, HLF.out⟩, rfl⟩ ?_
    simp only [List.getElem?_cons_zero, List.getElem?_cons_succ, Option.toList]
    repeat (first | go_big_quiet_step (fail) | (refine quiet_load (by simp [Region.wanted, yielded]) 40 (.tmp 3) (by rfl) w.heap.size 0 (by rfl) [.int .i64 kk, .int .i64 y, .int .i64 v] _ HRO.out Tryz.underlying40 rfl val_size ?_; intro K hK; go_simp; refine hK _ ?_; clear hK K) | quiet_step (fail) | refine wpQuiet_nil ?_)
    refine wpAnyM_read [0, 1, 2, 3, 4, 5, 6, 7, 8, 9, 10, 11, 12] 13 (by kernel_rfl) (fun _ d _ _ _ h => by cases d <;> exact h) ⟨⟨_, HLF.out⟩, rfl⟩ ?_
    simp only [List.getElem?_cons_zero, List.getElem?_cons_succ, Option.toList]
    repeat (first | go_big_quiet_step (fail) | (refine quiet_load (by simp [Region.wanted, yielded]) 40 (.tmp 3) (by rfl) w.heap.size 0 (by rfl) [.int .i64 kk, .int .i64 y, .int .i64 v] _ HRO.out Tryz.underlying40 rfl val_size ?_; intro K hK; go_simp; refine hK _ ?_; clear hK K) | quiet_step (fail) | refine wpQuiet_nil ?_)
    refine wpAnyM_read [0, 1, 2, 3, 4, 5, 6, 7, 8, 9, 10, 11, 12, 13] 14 (by kernel_rfl) (fun _ d _ _ _ h => by cases d <;> exact h) ⟨⟨_, HLF.out⟩, rfl⟩ ?_
    simp only [List.getElem?_cons_zero, List.getElem?_cons_succ, Option.toList]
    repeat (first | go_big_quiet_step (fail) | (refine quiet_load (by simp [Region.wanted, yielded]) 40 (.tmp 3) (by rfl) w.heap.size 0 (by rfl) [.int .i64 kk, .int .i64 y, .int .i64 v] _ HRO.out Tryz.underlying40 rfl val_size ?_; intro K hK; go_simp; refine hK _ ?_; clear hK K) | quiet_step (fail) | refine wpQuiet_nil ?_)
    refine wpAnyM_read [0, 1, 2, 3, 4, 5, 6, 7, 8, 9, 10, 11, 12, 13, 14] 15 (by kernel_rfl) (fun _ d _ _ _ h => by cases d <;> exact h) ⟨⟨_, HLF.out⟩, rfl⟩ ?_
    simp only [List.getElem?_cons_zero, List.getElem?_cons_succ, Option.toList]
    repeat (first | go_big_quiet_step (fail) | (refine quiet_load (by simp [Region.wanted, yielded]) 40 (.tmp 3) (by rfl) w.heap.size 0 (by rfl) [.int .i64 kk, .int .i64 y, .int .i64 v] _ HRO.out Tryz.underlying40 rfl val_size ?_; intro K hK; go_simp; refine hK _ ?_; clear hK K) | quiet_step (fail) | refine wpQuiet_nil ?_)
    refine wpAnyM_read [0, 1, 2, 3, 4, 5, 6, 7, 8, 9, 10, 11, 12, 13, 14, 15] 16 (by kernel_rfl) (fun _ d _ _ _ h => by cases d <;> exact h) ⟨⟨_, HLF.out⟩, rfl⟩ ?_
    simp only [List.getElem?_cons_zero, List.getElem?_cons_succ, Option.toList]
    repeat (first | go_big_quiet_step (fail) | (refine quiet_load (by simp [Region.wanted, yielded]) 40 (.tmp 3) (by rfl) w.heap.size 0 (by rfl) [.int .i64 kk, .int .i64 y, .int .i64 v] _ HRO.out Tryz.underlying40 rfl val_size ?_; intro K hK; go_simp; refine hK _ ?_; clear hK K) | quiet_step (fail) | refine wpQuiet_nil ?_)
    refine wpAnyM_read [0, 1, 2, 3, 4, 5, 6, 7, 8, 9, 10, 11, 12, 13, 14, 15, 16] 17 (by kernel_rfl) (fun _ d _ _ _ h => by cases d <;> exact h) ⟨⟨_, HLF.out⟩, rfl⟩ ?_
    simp only [List.getElem?_cons_zero, List.getElem?_cons_succ, Option.toList]
    repeat (first | go_big_quiet_step (fail) | (refine quiet_load (by simp [Region.wanted, yielded]) 40 (.tmp 3) (by rfl) w.heap.size 0 (by rfl) [.int .i64 kk, .int .i64 y, .int .i64 v] _ HRO.out Tryz.underlying40 rfl val_size ?_; intro K hK; go_simp; refine hK _ ?_; clear hK K) | quiet_step (fail) | refine wpQuiet_nil ?_)
    refine wpAnyM_read [0, 1, 2, 3, 4, 5, 6, 7, 8, 9, 10, 11, 12, 13, 14, 15, 16, 17] 18 (by kernel_rfl) (fun _ d _ _ _ h => by cases d <;> exact h) ⟨⟨_, HLF.out⟩, rfl⟩ ?_
    simp only [List.getElem?_cons_zero, List.getElem?_cons_succ, Option.toList]
    repeat (first | go_big_quiet_step (fail) | (refine quiet_load (by simp [Region.wanted, yielded]) 40 (.tmp 3) (by rfl) w.heap.size 0 (by rfl) [.int .i64 kk, .int .i64 y, .int .i64 v] _ HRO.out Tryz.underlying40 rfl val_size ?_; intro K hK; go_simp; refine hK _ ?_; clear hK K) | quiet_step (fail) | refine wpQuiet_nil ?_)
    refine wpAnyM_read [0, 1, 2, 3, 4, 5, 6, 7, 8, 9, 10, 11, 12, 13, 14, 15, 16, 17, 18] 19 (by kernel_rfl) (fun _ d _ _ _ h => by cases d <;> exact h) ⟨⟨_, HLF.out⟩, rfl⟩ ?_
    simp only [List.getElem?_cons_zero, List.getElem?_cons_succ, Option.toList]
    repeat (first | go_big_quiet_step (fail) | (refine quiet_load (by simp [Region.wanted, yielded]) 40 (.tmp 3) (by rfl) w.heap.size 0 (by rfl) [.int .i64 kk, .int .i64 y, .int .i64 v] _ HRO.out Tryz.underlying40 rfl val_size ?_; intro K hK; go_simp; refine hK _ ?_; clear hK K) | quiet_step (fail) | refine wpQuiet_nil ?_)
    clear l16 l1 l15 l19 HRO
    refine wpAnyM_two 20 24 (by kernel_rfl) ?_ ?_
    · have HNT := HNd
      simp only [List.getElem?_cons_zero, List.getElem?_cons_succ, Option.toList]
      go_wp2_with fail
      refine (HMK.out Wd (HNT.out)).mono ?_
      rintro e w5 ⟨rfl, hN1, hF1⟩
      replace HLF := Lib.hid (HLF.out.trans hF1 fun k hk => .inl hk)
      have hz_ := hF1.size
      have HN1 := Lib.hid hN1
      have HF1 := Lib.hid hF1
      clear hN1 hF1
      go_wp2_with fail
      first | refine And.intro (fun _ => ⟨⟨_, HLF.out⟩, rfl⟩) ?_ | refine And.intro ⟨⟨_, HLF.out⟩, rfl⟩ ?_
      refine wpAnyM_read [0, 1, 2, 3, 4, 5, 6, 7, 8, 9, 10, 11, 12, 13, 14, 15, 16, 17, 18, 19, 20] 21 (by kernel_rfl) (fun _ d _ _ _ h => by cases d <;> exact h) ⟨⟨_, HLF.out⟩, rfl⟩ ?_
      simp only [List.getElem?_cons_zero, List.getElem?_cons_succ, Option.toList]
      repeat (first | go_big_quiet_step (fail) | (refine quiet_load (by simp [Region.wanted, yielded]) 40 (.tmp 3) (by rfl) w.heap.size 0 (by rfl) [.int .i64 kk, .int .i64 y, .int .i64 v] _ HRO.out Tryz.underlying40 rfl val_size ?_; intro K hK; go_simp; refine hK _ ?_; clear hK K) | quiet_step (fail) | refine wpQuiet_nil ?_)
      refine wpAnyM_read [0, 1, 2, 3, 4, 5, 6, 7, 8, 9, 10, 11, 12, 13, 14, 15, 16, 17, 18, 19, 20, 21] 22 (by kernel_rfl) (fun _ d _ _ _ h => by cases d <;> exact h) ⟨⟨_, HLF.out⟩, rfl⟩ ?_
      simp only [List.getElem?_cons_zero, List.getElem?_cons_succ, Option.toList]
      repeat (first | go_big_quiet_step (fail) | (refine quiet_load (by simp [Region.wanted, yielded]) 40 (.tmp 3) (by rfl) w.heap.size 0 (by rfl) [.int .i64 kk, .int .i64 y, .int .i64 v] _ HRO.out Tryz.underlying40 rfl val_size ?_; intro K hK; go_simp; refine hK _ ?_; clear hK K) | quiet_step (fail) | refine wpQuiet_nil ?_)
      refine wpAnyM_read [0, 1, 2, 3, 4, 5, 6, 7, 8, 9, 10, 11, 12, 13, 14, 15, 16, 17, 18, 19, 20, 21, 22] 23 (by kernel_rfl) (fun _ d _ _ _ h => by cases d <;> exact h) ⟨⟨_, HLF.out⟩, rfl⟩ ?_
      simp only [List.getElem?_cons_zero, List.getElem?_cons_succ, Option.toList]
      repeat (first | go_big_quiet_step (fail) | (refine quiet_load (by simp [Region.wanted, yielded]) 40 (.tmp 3) (by rfl) w.heap.size 0 (by rfl) [.int .i64 kk, .int .i64 y, .int .i64 v] _ HRO.out Tryz.underlying40 rfl val_size ?_; intro K hK; go_simp; refine hK _ ?_; clear hK K) | quiet_step (fail) | refine wpQuiet_nil ?_)
      have hzW5 : W.heap.size ≤ w5.heap.size := by have := HWz.out; omega
      refine wpAnyM_one 24 (by kernel_rfl) ?_
      simp only [List.getElem?_cons_zero, List.getElem?_cons_succ, Option.toList]
      go_wp2_with fail
      replace HLF := Lib.hid (HLF.out.alloc (.cells #[.int .i64 0, .int .i64 0, .int .i64 0, .int .i64 0, .int .i64 0, .int .i64 0] 42))
      have hba := alloc_below w5 (.cells #[.int .i64 0, .int .i64 0, .int .i64 0, .int .i64 0, .int .i64 0, .int .i64 0] 42)
      have hca := heap_alloc_new w5 (.cells #[.int .i64 0, .int .i64 0, .int .i64 0, .int .i64 0, .int .i64 0, .int .i64 0] 42)
      first | refine And.intro (fun _ => ⟨⟨_, HLF.out⟩, rfl⟩) ?_ | refine And.intro ⟨⟨_, HLF.out⟩, rfl⟩ ?_
      obtain ⟨w6, hW_⟩ : ∃ W_, (w5).alloc (.cells #[.int .i64 0, .int .i64 0, .int .i64 0, .int .i64 0, .int .i64 0, .int .i64 0] 42) = W_ := ⟨_, rfl⟩
      rw [hW_] at hba hca HLF ⊢
      have hlt_ := (Array.getElem?_eq_some_iff.1 hca).1
      have HCR := Lib.hid hca
      have HBR := Lib.hid hba
      clear hW_ hba hca
      refine wpAnyM_one 25 (by kernel_rfl) ?_
      simp only [List.getElem?_cons_zero, List.getElem?_cons_succ, Option.toList]
      have hth := row_there HCR.out
      obtain ⟨s1, s2⟩ := row_store HCR.out [.int .i64 id, .int .i64 ((s.issued.length : Int) + 1), .int .i64 kk, .int .i64 y, .int .i64 v, .int .i64 sN] rfl
      have hfs : Fp (fun b => b = w5.heap.size) w6 (w6.setCells (w5.heap.size) 0 [.int .i64 id, .int .i64 ((s.issued.length : Int) + 1), .int .i64 kk, .int .i64 y, .int .i64 v, .int .i64 sN]) := (Fp.refl (fun b => b = w5.heap.size) w6).setCells (Or.inl rfl) _
      have Hth := Lib.hid hth
      have S1 := Lib.hid s1
      have HFS := Lib.hid hfs
      have HLS : Hid (Fp (fun b => b = bm) Wd (w6.setCells (w5.heap.size) 0 [.int .i64 id, .int .i64 ((s.issued.length : Int) + 1), .int .i64 kk, .int .i64 y, .int .i64 v, .int .i64 sN])) := Lib.hid (HLF.out.setCells (Or.inr (by omega)) _)
      clear hth s1 s2 hfs
      go_wp2_with (refine wpList_store_mid rfl 42 (.tmp 6) (.tmp 35) rfl (w5.heap.size) 0 #[.int .i64 id, .int .i64 ((s.issued.length : Int) + 1), .int .i64 kk, .int .i64 y, .int .i64 v, .int .i64 sN] rfl rfl Hth.out rst_sizeR (by simp [Value.oneCell']) ?_)
      first | refine And.intro (fun _ => ⟨⟨_, HLS.out⟩, rfl⟩) ?_ | refine And.intro ⟨⟨_, HLS.out⟩, rfl⟩ ?_
      refine wpAnyM_one 26 (by kernel_rfl) ?_
      simp only [List.getElem?_cons_zero, List.getElem?_cons_succ, Option.toList]
      go_wp2_with fail
      first | refine And.intro (fun _ => ⟨⟨_, HLS.out⟩, rfl⟩) ?_ | refine And.intro ⟨⟨_, HLS.out⟩, rfl⟩ ?_
      refine And.intro (by kernel_rfl) ?_
      go_wp2_with fail
      go_meet
      have hlf : Fp (fun b => b = bm) W w6 := (Fp.of_below HDr.out _).trans HLF.out fun k hk => .inl hk
      have hzl : W.heap.size ≤ w6.heap.size := hlf.size
      have hwz := HWz.out
      refine ⟨_, rfl, rfl, Lib.hid S1.out, by omega, Lib.hid (hlf.trans HFS.out fun b hb => .inr (by omega)), Lib.hid ?_⟩
      exact (HN1.out.below HBR.out).fp HFS.out (by omega) (by omega)
    · clear hsN
      simp only [List.getElem?_cons_zero, List.getElem?_cons_succ, Option.toList]
      go_wp2_with fail
      replace HLF := Lib.hid (HLF.out.alloc (.cells #[.int .i64 0, .int .i64 0, .int .i64 0, .int .i64 0, .int .i64 0, .int .i64 0] 42))
      have hba := alloc_below Wd (.cells #[.int .i64 0, .int .i64 0, .int .i64 0, .int .i64 0, .int .i64 0, .int .i64 0] 42)
      have hca := heap_alloc_new Wd (.cells #[.int .i64 0, .int .i64 0, .int .i64 0, .int .i64 0, .int .i64 0, .int .i64 0] 42)
      first | refine And.intro (fun _ => ⟨⟨_, HLF.out⟩, rfl⟩) ?_ | refine And.intro ⟨⟨_, HLF.out⟩, rfl⟩ ?_
      obtain ⟨w5, hW_⟩ : ∃ W_, (Wd).alloc (.cells #[.int .i64 0, .int .i64 0, .int .i64 0, .int .i64 0, .int .i64 0, .int .i64 0] 42) = W_ := ⟨_, rfl⟩
      rw [hW_] at hba hca HLF ⊢
      have hlt_ := (Array.getElem?_eq_some_iff.1 hca).1
      have HCR := Lib.hid hca
      have HBR := Lib.hid hba
      clear hW_ hba hca
      have HNT : Hid (Nt w5 g bm K) := Lib.hid (HNd.out.below HBR.out)
      refine wpAnyM_one 20 (by kernel_rfl) ?_
      simp only [List.getElem?_cons_zero, List.getElem?_cons_succ, Option.toList]
      go_wp2_with fail
      refine (HMK.out w5 (HNT.out)).mono ?_
      rintro e w6 ⟨rfl, hN1, hF1⟩
      replace HLF := Lib.hid (HLF.out.trans hF1 fun k hk => .inl hk)
      have hz_ := hF1.size
      have HN1 := Lib.hid hN1
      have HF1 := Lib.hid hF1
      clear hN1 hF1
      go_wp2_with fail
      first | refine And.intro (fun _ => ⟨⟨_, HLF.out⟩, rfl⟩) ?_ | refine And.intro ⟨⟨_, HLF.out⟩, rfl⟩ ?_
      refine wpAnyM_read [0, 1, 2, 3, 4, 5, 6, 7, 8, 9, 10, 11, 12, 13, 14, 15, 16, 17, 18, 19, 24, 20] 21 (by kernel_rfl) (fun _ d _ _ _ h => by cases d <;> exact h) ⟨⟨_, HLF.out⟩, rfl⟩ ?_
      simp only [List.getElem?_cons_zero, List.getElem?_cons_succ, Option.toList]
      repeat (first | go_big_quiet_step (fail) | (refine quiet_load (by simp [Region.wanted, yielded]) 40 (.tmp 3) (by rfl) w.heap.size 0 (by rfl) [.int .i64 kk, .int .i64 y, .int .i64 v] _ HRO.out Tryz.underlying40 rfl val_size ?_; intro K hK; go_simp; refine hK _ ?_; clear hK K) | quiet_step (fail) | refine wpQuiet_nil ?_)
      refine wpAnyM_read [0, 1, 2, 3, 4, 5, 6, 7, 8, 9, 10, 11, 12, 13, 14, 15, 16, 17, 18, 19, 24, 20, 21] 22 (by kernel_rfl) (fun _ d _ _ _ h => by cases d <;> exact h) ⟨⟨_, HLF.out⟩, rfl⟩ ?_
      simp only [List.getElem?_cons_zero, List.getElem?_cons_succ, Option.toList]
      repeat (first | go_big_quiet_step (fail) | (refine quiet_load (by simp [Region.wanted, yielded]) 40 (.tmp 3) (by rfl) w.heap.size 0 (by rfl) [.int .i64 kk, .int .i64 y, .int .i64 v] _ HRO.out Tryz.underlying40 rfl val_size ?_; intro K hK; go_simp; refine hK _ ?_; clear hK K) | quiet_step (fail) | refine wpQuiet_nil ?_)
      refine wpAnyM_read [0, 1, 2, 3, 4, 5, 6, 7, 8, 9, 10, 11, 12, 13, 14, 15, 16, 17, 18, 19, 24, 20, 21, 22] 23 (by kernel_rfl) (fun _ d _ _ _ h => by cases d <;> exact h) ⟨⟨_, HLF.out⟩, rfl⟩ ?_
      simp only [List.getElem?_cons_zero, List.getElem?_cons_succ, Option.toList]
      repeat (first | go_big_quiet_step (fail) | (refine quiet_load (by simp [Region.wanted, yielded]) 40 (.tmp 3) (by rfl) w.heap.size 0 (by rfl) [.int .i64 kk, .int .i64 y, .int .i64 v] _ HRO.out Tryz.underlying40 rfl val_size ?_; intro K hK; go_simp; refine hK _ ?_; clear hK K) | quiet_step (fail) | refine wpQuiet_nil ?_)
      have hblk : Wd.heap.size < w5.heap.size := hlt_
      have hne : ¬ (Wd.heap.size = bm) := by have := HWz.out; omega
      replace HCR := Lib.hid ((HF1.out.block _ hblk hne).trans HCR.out)
      refine wpAnyM_one 25 (by kernel_rfl) ?_
      simp only [List.getElem?_cons_zero, List.getElem?_cons_succ, Option.toList]
      have hth := row_there HCR.out
      obtain ⟨s1, s2⟩ := row_store HCR.out [.int .i64 id, .int .i64 ((s.issued.length : Int) + 1), .int .i64 kk, .int .i64 y, .int .i64 v, .int .i64 sN] rfl
      have hfs : Fp (fun b => b = Wd.heap.size) w6 (w6.setCells (Wd.heap.size) 0 [.int .i64 id, .int .i64 ((s.issued.length : Int) + 1), .int .i64 kk, .int .i64 y, .int .i64 v, .int .i64 sN]) := (Fp.refl (fun b => b = Wd.heap.size) w6).setCells (Or.inl rfl) _
      have Hth := Lib.hid hth
      have S1 := Lib.hid s1
      have HFS := Lib.hid hfs
      have HLS : Hid (Fp (fun b => b = bm) Wd (w6.setCells (Wd.heap.size) 0 [.int .i64 id, .int .i64 ((s.issued.length : Int) + 1), .int .i64 kk, .int .i64 y, .int .i64 v, .int .i64 sN])) := Lib.hid (HLF.out.setCells (Or.inr (by omega)) _)
      clear hth s1 s2 hfs
      go_wp2_with (refine wpList_store_mid rfl 42 (.tmp 6) (.tmp 35) rfl (Wd.heap.size) 0 #[.int .i64 id, .int .i64 ((s.issued.length : Int) + 1), .int .i64 kk, .int .i64 y, .int .i64 v, .int .i64 sN] rfl rfl Hth.out rst_sizeR (by simp [Value.oneCell']) ?_)
      first | refine And.intro (fun _ => ⟨⟨_, HLS.out⟩, rfl⟩) ?_ | refine And.intro ⟨⟨_, HLS.out⟩, rfl⟩ ?_
      refine wpAnyM_one 26 (by kernel_rfl) ?_
      simp only [List.getElem?_cons_zero, List.getElem?_cons_succ, Option.toList]
      go_wp2_with fail
      first | refine And.intro (fun _ => ⟨⟨_, HLS.out⟩, rfl⟩) ?_ | refine And.intro ⟨⟨_, HLS.out⟩, rfl⟩ ?_
      refine And.intro (by kernel_rfl) ?_
      go_wp2_with fail
      go_meet
      have hlf : Fp (fun b => b = bm) W w6 := (Fp.of_below HDr.out _).trans HLF.out fun k hk => .inl hk
      have hzl : W.heap.size ≤ w6.heap.size := hlf.size
      have hwz := HWz.out
      refine ⟨_, rfl, rfl, Lib.hid S1.out, by omega, Lib.hid (hlf.trans HFS.out fun b hb => .inr (by omega)), Lib.hid ?_⟩
      exact (HN1.out).fp HFS.out (by omega) (by omega)
  case rest =>
  obtain ⟨j, rfl, rfl, HRJ, hWj, HF, HNt⟩ := hcut
  have hHF := HF.out
  have hzc : W.heap.size ≤ wc.heap.size := hHF.size
  have hjc := (Array.getElem?_eq_some_iff.1 HRJ.out).1
  have ho := HO.out.fp hHF (fun b hb he => by have := hUl.out b hb; have h1 := HN.out.sep.2; rw [he] at hb; exact h1 hb)
  have hC1 := (hHF.block (w.heap.size + 1) (by omega) (by omega)).trans HC1.out
  have HC1c := Lib.hid hC1
  have hrow := ho.row
  rw [hw] at hrow
  have hkc : k < wc.heap.size := by omega
  have hjk : j ≠ k := by omega
  have HOc := Lib.hid ho
  clear hHF hC1 ho HO
  go_upto_region 6 with fail
  have l19 := laterF_cell (w := wc.drew) (T := fun b => b ≠ k ∧ b ≠ j) (show wc.drew.cell? ⟨k, 19, none⟩ = some (.slice Ai s.issued.length ci) from rowc hrow 19 rfl) (fun hh => hh.1 rfl)
  have HRR : Hid (∀ w' : World, (∃ p : LaterF wc.drew (fun b => b ≠ k ∧ b ≠ j), w' = p.W) → w'.rangeAt j 0 [.int .i64 id, .int .i64 ((s.issued.length : Int) + 1), .int .i64 kk, .int .i64 y, .int .i64 v, .int .i64 sN]) := Lib.hid (by rintro w' ⟨p, rfl⟩; exact range_of_row ((p.h.block _ (show j < wc.heap.size from hjc) (fun hh => hh.2 rfl)).trans HRJ.out))
  have HOo := Lib.hid (show wc.drew.ownsRow 0 42 6 _ _ _ from HOc.out.oi)
  have HObk := Lib.hid (own_ne_row HOc.out.oi HOc.out.row (by decide))
  have HObj : Hid (∀ b, (Value.slice Ai s.issued.length ci).ownBlock = some b → b ≠ j) := Lib.hid fun b hb => by have := hUl.out b (HOc.out.ui b hb); omega
  clear hrow
  refine wp_region_phasesF (fun b => b ≠ k ∧ b ≠ j) [(true, 0), (true, 1), (true, 2), (true, 3), (true, 4), (true, 5), (false, 6), (false, 7)] (by kernel_rfl) (by kernel_rfl) ?_
  simp only [phS, List.getElem?_cons_zero, List.getElem?_cons_succ, Option.toList, List.length_cons, List.length_nil, Nat.reduceAdd, List.drop_succ_cons, List.drop_zero]
  repeat (first | go_big_quiet_step (fail) | (refine quiet_load (by simp [Region.wanted, yielded]) 42 (.tmp 6) (by rfl) j 0 (by rfl) [.int .i64 id, .int .i64 ((s.issued.length : Int) + 1), .int .i64 kk, .int .i64 y, .int .i64 v, .int .i64 sN] _ HRR.out Tryz.underlying42 rfl rst_sizeR ?_; intro K hK; go_simp; refine hK _ ?_; clear hK K) | quiet_step (fail) | refine wpQuiet_nil ?_)
  clear l19 HRR
  go_wp2_with fail
  refine And.intro ⟨⟨_, (Fp.refl _ wc.drew).alloc _⟩, rfl⟩ ?_
  go_wp2_with (at_builtin; refine wpList_app1 reqE rfl _ _ rfl 0 (.slice Ai s.issued.length ci) s.issued.length (s.issued.flatMap rq) rfl HOo.out _ rfl rfl (by simp [Value.oneCell']) (by omega) (by decide) (Nat.zero_le _) ?_; intro v5 w5 hown5 hg5 _ hv5; have HOn5 := Lib.hid hown5; have HG5 := Lib.hid hg5; have HV5 := Lib.hid hv5; clear hown5 hg5 hv5; obtain ⟨A5, c5, rfl, _, _, _⟩ := own_slice HOn5.out)
  refine And.intro ⟨⟨w5, (Fp.refl _ wc.drew).grown HG5.out (fun b hb => Or.inl ⟨HObk.out b hb, HObj.out b hb⟩)⟩, rfl⟩ ?_
  have HF5 : Hid (Fp (fun b => (Value.slice Ai s.issued.length ci).ownBlock = some b) wc w5) := Lib.hid (((Fp.refl _ wc).drew).grown HG5.out (fun b hb => Or.inl hb))
  have hrow5 := (HF5.out.block k hkc (fun hh => HObk.out k hh rfl)).trans HOc.out.row
  have HR5 := Lib.hid hrow5
  have f19 : w5.cell? ⟨k, 19, none⟩ = some (.slice Ai s.issued.length ci) := rowc hrow5 19 rfl
  have z19 := frozen_of_row _ _ 19 _ _ hrow5
  have hz5 : wc.heap.size ≤ w5.heap.size := HF5.out.size
  clear hrow5
  go_upto_region 7 with fail
  clear f19 z19
  have ho := HOc.out
  have hclk := (HF5.out.block ct (ho.lt ct ho.uct) (fun hh => own_ne_row ho.oi ho.clk (by decide) ct hh rfl)).trans ho.clk
  have hX1 := clo_cell (W := w5) (U := fun b => U b ∨ (wc.heap.size ≤ b ∧ b < w5.heap.size)) (k := k) (ct := ct) (g := g) (c := c) (id := id) (j := 19) (u := .slice A5 (s.issued.length + 1) c5) (s' := { s with issued := s.issued ++ [r] }) (vi' := .slice A5 (s.issued.length + 1) c5) HR5.out rfl hclk (.inl ho.uk) (.inl ho.uct) (fun b hb => by rcases hb with hb | hb; (have := hUl.out b hb; omega); exact hb.2)
    (by rw [hrr]; show w5.ownsRow _ _ _ _ (s.issued ++ [_]).length ((s.issued ++ [_]).flatMap rq); rw [List.length_append, List.flatMap_append]; simpa [rq, iv] using HOn5.out) (own_keep ho.oa fun b hb => HF5.out.block b (ho.oa.lt b hb).2 (own_ne ho.oa ho.oi (by decide) b hb)) (own_keep ho.oc fun b hb => HF5.out.block b (ho.oc.lt b hb).2 (own_ne ho.oc ho.oi (by decide) b hb)) ho.om
    (ho.oo.keep fun b hb hlt hor => ⟨HF5.out.block b hlt (by rcases hor with h1 | ⟨x, hx, h1⟩; exact own_ne ho.oo.own ho.oi (by decide) b h1; exact own_ne (ho.oo.ok x hx).1 ho.oi (by decide) b h1), .inl hb⟩) (fun b hb => by
      rcases HV5.out with h1 | h1
      · rw [h1] at hb; exact .inl (ho.ui b hb)
      · have h2 := (HOn5.out.lt b hb).2
        rw [h1] at hb; injection hb with hb
        have hb' : wc.heap.size + 1 = b := hb
        right; omega) (fun b hb => .inl (ho.ua b hb)) (fun b hb => .inl (ho.uc b hb))
  have hF6 : Fp (fun b => U b) wc (w5.setCell ⟨k, 19, none⟩ (.slice A5 (s.issued.length + 1) c5)) := (HF5.out.mono fun b _ hb => ho.ui b hb).setCell (p := ⟨k, 19, none⟩) (Or.inl ho.uk) _
  obtain ⟨w6, hw6⟩ : ∃ w6, w5.setCell ⟨k, 19, none⟩ (.slice A5 (s.issued.length + 1) c5) = w6 := ⟨_, rfl⟩
  have hz6 : w6.heap.size = w5.heap.size := by rw [← hw6]; simp
  have hz65 : w5.heap.size ≤ w6.heap.size := by omega
  have hz56 : w6.heap.size ≤ w5.heap.size := by omega
  rw [hw6] at hX1 hF6 ⊢
  have HX1 := Lib.hid hX1
  have HF6 := Lib.hid hF6
  clear hw6 hz6 ho hclk hX1 hF6 HOn5 HG5 HV5 HF5 HR5
  have f17 : w6.cell? ⟨k, 17, none⟩ = some (.pointer (some ⟨ct, 0, none⟩)) := rowc HX1.out.row 17 rfl
  have f18 : w6.cell? ⟨k, 18, none⟩ = some (.bool s.waits) := rowc HX1.out.row 18 rfl
  have f20 : w6.cell? ⟨k, 20, none⟩ = some (.int .i64 s.at_) := rowc HX1.out.row 20 rfl
  have f21 : w6.cell? ⟨k, 21, none⟩ = some (.slice Aa s.ans.length ca) := rowc HX1.out.row 21 rfl
  have z18 : w6.frozen? ⟨k, 18, none⟩ = false := frozen_of_row _ _ 18 _ _ HX1.out.row
  have z20 : w6.frozen? ⟨k, 20, none⟩ = false := frozen_of_row _ _ 20 _ _ HX1.out.row
  have z21 : w6.frozen? ⟨k, 21, none⟩ = false := frozen_of_row _ _ 21 _ _ HX1.out.row
  go_upto_region 8 with (go_at_call 36; refine (ck_now ct s.now _ _ HX1.out.clk).mono ?_; rintro e w' ⟨rfl, rfl⟩)
  clear f17 f18 f20 f21 z18 z20 z21
  have x1 := HX1.out
  have x2 := clo_cell (j := 18) (u := .bool true) (s' := { s with issued := s.issued ++ [r], waits := true }) x1.row rfl x1.clk x1.uk x1.uct x1.lt x1.oi x1.oa x1.oc x1.om x1.oo x1.ui x1.ua x1.uc
  have x3 := clo_cell (j := 20) (u := .int .i64 s.now) (s' := { s with issued := s.issued ++ [r], waits := true, at_ := s.now }) x2.row rfl x2.clk x2.uk x2.uct x2.lt x2.oi x2.oa x2.oc x2.om x2.oo x2.ui x2.ua x2.uc
  have x4 := clo_cell (j := 21) (u := .slice none 0 0) (s' := { s with issued := s.issued ++ [r], waits := true, at_ := s.now, ans := [] }) (va' := .slice none 0 0) x3.row rfl x3.clk x3.uk x3.uct x3.lt x3.oi (World.ownsRow_nil _ _ _ _) x3.oc x3.om x3.oo x3.ui (fun b hb => by simp [Value.ownBlock] at hb) x3.uc
  have hF8 : Fp (fun b => b = k) w6 (((w6.setCell ⟨k, 18, none⟩ (.bool true)).setCell ⟨k, 20, none⟩ (.int .i64 s.now)).setCell ⟨k, 21, none⟩ (.slice none 0 0)) := (((Fp.refl (fun b => b = k) w6).setCell (p := ⟨k, 18, none⟩) (Or.inl (show k = k from rfl)) _).setCell (p := ⟨k, 20, none⟩) (Or.inl (show k = k from rfl)) _).setCell (p := ⟨k, 21, none⟩) (Or.inl (show k = k from rfl)) _
  obtain ⟨w8, hw8⟩ : ∃ w8, ((w6.setCell ⟨k, 18, none⟩ (.bool true)).setCell ⟨k, 20, none⟩ (.int .i64 s.now)).setCell ⟨k, 21, none⟩ (.slice none 0 0) = w8 := ⟨_, rfl⟩
  rw [hw8] at x4 hF8 ⊢
  have huk : U k := HN.out.cm.uk
  have hFc8 : Fp (fun b => U b) wc w8 := HF6.out.trans hF8 fun b hb => .inl (by rw [hb]; exact huk)
  have hsep := HN.out.sep
  have HCN : Hid (Cn w8 (fun b => U b ∨ (wc.heap.size ≤ b ∧ b < w5.heap.size)) g bm K1 k ct c id { s with issued := s.issued ++ [r], waits := true, at_ := s.now, ans := [] }) := Lib.hid ⟨HNt.out.fp hFc8 hsep.1 hsep.2, x4.clm, fun hh => by rcases hh with hh | hh; exact hsep.1 hh; omega, fun hh => by rcases hh with hh | hh; exact hsep.2 hh; omega⟩
  have HRJ8 := Lib.hid ((hFc8.block j hjc (fun hu => by have := hUl.out j hu; omega)).trans HRJ.out)
  have HC18 := Lib.hid ((hFc8.block (w.heap.size + 1) (by omega) (fun hu => by have := hUl.out _ hu; omega)).trans HC1c.out)
  have hFw8 : Fp (fun b => U b ∨ b = bm) w w8 := ((Fp.of_below HBW.out _).trans HF.out fun b hb => .inl (.inr hb)).trans hFc8 fun b hb => .inl (.inl hb)
  have HFw8 := Lib.hid hFw8
  have hz8 : wc.heap.size ≤ w8.heap.size := hFc8.size
  have hlr : ({ s with issued := s.issued ++ [r], waits := true, at_ := s.now, ans := [] } : CS).last = r := by unfold CS.last; simp
  have hvr : Psp.valid r c.cl = true := by
    have h0 := hv
    have h1 := sealN_bd K (kR ⟨id, (s.issued.length : Int) + 1, kk, y, v, 0⟩)
    rw [hsN] at h1
    rw [hrr]
    unfold bareQ Psp.valid at h0
    unfold Psp.valid
    rw [decide_eq_true_eq] at h0 ⊢
    dsimp only at h0 ⊢
    omega
  have hKl := sealL_len K (kR ⟨id, (s.issued.length : Int) + 1, kk, y, v, 0⟩)
  rw [hK1] at hKl
  obtain ⟨o1, o2⟩ := req_ok (id := id) ⟨hid.1, by omega⟩ hvr hcl
  have hKl1 : K1.length < 1000000 := by omega
  have hok := msgS_small (K := K1) o1 o2 hKl1
  have hkk : sealL K (kR (bareQ id s kk y v)) = K1 := hK1
  have HKK := Lib.hid hkk
  have HLR := Lib.hid hlr
  have HRR := Lib.hid hrr
  clear x1 x2 x3 x4 hF8 hw8 hFc8 hFw8 hlr hvr hKl o1 o2 hrr hsN hK1 hkk HX1 HF6 HOc HMK HNd HNt HNW hv HQ
  go_wp2_with fail
  refine (send_m _ g bm k ct K1 c id { s with issued := s.issued ++ [r], waits := true, at_ := s.now, ans := [] } w8 HCN.out hf ⟨hid.1, by omega⟩ (by show s.issued ++ [r] ≠ []; simp) (by show (s.issued ++ [r]).length ≤ _; rw [List.length_append, List.length_singleton]; omega) hol (by rw [HLR.out]; exact hok) (by omega)).mono ?_
  rintro e w9 ⟨rfl, U9, hcn, hU9, hF9⟩
  have hn9 : ∀ b, b < w8.heap.size → U b ∨ (wc.heap.size ≤ b ∧ b < w5.heap.size) → False ∨ True := fun _ _ _ => .inr trivial
  have hj9 : ¬ ((U j ∨ (wc.heap.size ≤ j ∧ j < w5.heap.size)) ∨ j = bm) := by
    rintro ((hh | hh) | hh)
    · have := hUl.out j hh; omega
    · omega
    · omega
  have hc9 : ¬ ((U (w.heap.size + 1) ∨ (wc.heap.size ≤ w.heap.size + 1 ∧ w.heap.size + 1 < w5.heap.size)) ∨ w.heap.size + 1 = bm) := by
    rintro ((hh | hh) | hh)
    · have := hUl.out _ hh; omega
    · omega
    · omega
  have hrj9 := (hF9.block j (by omega) hj9).trans HRJ8.out
  have hcr9 := (hF9.block (w.heap.size + 1) (by omega) hc9).trans HC18.out
  have hrg : w9.rangeAt j 0 [.int .i64 id, .int .i64 ((s.issued.length : Int) + 1), .int .i64 kk, .int .i64 y, .int .i64 v, .int .i64 sN] := range_of_row hrj9
  have HRg := Lib.hid hrg
  have hth := row_there hcr9
  obtain ⟨s1, s2⟩ := row_store hcr9 [.int .i64 id, .int .i64 ((s.issued.length : Int) + 1), .int .i64 kk, .int .i64 y, .int .i64 v, .int .i64 sN] rfl
  have Hth := Lib.hid hth
  have S1 := Lib.hid s1
  have HCN9 := Lib.hid hcn
  have HU9 := Lib.hid hU9
  have HF9 := Lib.hid hF9
  clear hn9 hj9 hc9 hrj9 hcr9 hrg hth s1 s2 hcn hU9 hF9
  go_wp2_with (first | (refine list_load rfl 42 (.tmp 6) rfl j 0 rfl [.int .i64 id, .int .i64 ((s.issued.length : Int) + 1), .int .i64 kk, .int .i64 y, .int .i64 v, .int .i64 sN] _ HRg.out Tryz.underlying42 rfl rst_sizeR ?_) | (refine wpList_store_mid rfl 42 (.tmp 4) (.tmp 67) rfl (w.heap.size + 1) 0 #[.int .i64 id, .int .i64 ((s.issued.length : Int) + 1), .int .i64 kk, .int .i64 y, .int .i64 v, .int .i64 sN] rfl rfl Hth.out rst_sizeR (by simp [Value.oneCell']) ?_))
  refine bodyPost_ret (v := .tuple #[.agg #[.int .i64 id, .int .i64 ((s.issued.length : Int) + 1), .int .i64 kk, .int .i64 y, .int .i64 v, .int .i64 sN], .int .i64 0]) ?_ rfl ?_
  · exact results_cell_row1 Tryz.results12 _ _ (w.heap.size + 1) _ _ _ _ rfl S1.out Tryz.underlying42 rfl rst_sizeR
  · rw [HKK.out]
    have hfs : Fp (fun b => b = w.heap.size + 1) w9 (w9.setCells (w.heap.size + 1) 0 [.int .i64 id, .int .i64 ((s.issued.length : Int) + 1), .int .i64 kk, .int .i64 y, .int .i64 v, .int .i64 sN]) := (Fp.refl (fun b => b = w.heap.size + 1) w9).setCells (Or.inl rfl) _
    have hlt9 := HCN9.out.cm.lt
    have hz9 := HF9.out.size
    have hbmw : bm < w.heap.size := hgl.2
    have hU9' : ∀ b, U9 b → b ≠ w.heap.size + 1 := fun b hb he => by
      rcases HU9.out b hb with (h1 | h1) | h1
      · have := hUl.out b h1; omega
      · omega
      · omega
    refine ⟨by rw [HRR.out], U9, HCN9.out.fp hfs hU9' (by omega) (by omega), fun b hb => ?_, ?_⟩
    · rcases HU9.out b hb with (h1 | h1) | h1
      · exact .inl h1
      · right; omega
      · right; have := HFw8.out.size; omega
    · exact (HFw8.out.trans HF9.out fun b hb => by
        rcases hb with (h1 | h1) | h1
        · exact .inl (.inl h1)
        · right; omega
        · exact .inl (.inr h1)).trans hfs fun b hb => .inr (by omega)
end Go.Proofs.YtipmjleohadoeaaGreat
