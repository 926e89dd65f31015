/- Two.Req, Two.Batch: requests with their clients' seals. Printed by gen_tq.py. -/
import Derived.Test.YtadpkjgjciodnaaGreatJ27Vi
import Derived.Test.YtadpkjgjciodnaaGreatOrdRVi
import Derived.Test.YtadpkjgjciodnaaGreatJ32Vi
namespace Go.Proofs.YtadpkjgjciodnaaGreat
open Go.RowKit
set_option linter.unusedVariables false
set_option linter.unusedSimpArgs false

/-- The seal that a request is given. -/
def reqSn (K : List Key) (r : Psp.Req) : Int := if Psp.okR (bare r) then sealN K (kR r) else r.s
def reqS (K : List Key) (r : Psp.Req) : Psp.Req := { r with s := reqSn K r }
def reqK (K : List Key) (r : Psp.Req) : List Key := if Psp.okR (bare r) then sealL K (kR r) else K

set_option maxRecDepth 100000 in
set_option maxHeartbeats 4000000 in
theorem two_req (S : Nat → Prop) (g bm h : Nat) (K : List Key) (r : Psp.Req) (w : World) (hT : Tw w S g bm h K) (hl : K.length < 1099511627776) :
    Calls Tryz.prog 75 #[.agg #[.pointer (some ⟨g, 0, none⟩), .pointer (some ⟨h, 0, none⟩)], .agg #[.int .i64 r.c, .int .i64 r.t, .int .i64 r.k, .int .i64 r.y, .int .i64 r.v, .int .i64 r.s]] w fun e w' => e = .returned (.agg #[.int .i64 r.c, .int .i64 r.t, .int .i64 r.k, .int .i64 r.y, .int .i64 r.v, .int .i64 (reqSn K r)]) ∧
      ∃ S', Tw w' S' g bm h (reqK K r) ∧ (∀ b, S' b → S b ∨ w.heap.size ≤ b) ∧ Fp (fun b => S b ∨ b = bm) w w' := by
  have HT := Lib.hid hT
  have hgl := hT.nt.lt
  have HSl := Lib.hid hT.lt
  clear hT
  have hb0 : Below w.heap.size w (((w.alloc (.cells #[.pointer (some ⟨g, 0, none⟩), .pointer (some ⟨h, 0, none⟩)] 30)).alloc (.cells #[.int .i64 r.c, .int .i64 r.t, .int .i64 r.k, .int .i64 r.y, .int .i64 r.v, .int .i64 r.s] 58)).alloc (.cells #[.int .i64 0, .int .i64 0, .int .i64 0, .int .i64 0, .int .i64 0, .int .i64 0] 58)) := ((alloc_below w _).trans ((alloc_below (w.alloc (.cells #[.pointer (some ⟨g, 0, none⟩), .pointer (some ⟨h, 0, none⟩)] 30)) _).mono (by simp))).trans ((alloc_below ((w.alloc (.cells #[.pointer (some ⟨g, 0, none⟩), .pointer (some ⟨h, 0, none⟩)] 30)).alloc (.cells #[.int .i64 r.c, .int .i64 r.t, .int .i64 r.k, .int .i64 r.y, .int .i64 r.v, .int .i64 r.s] 58)) _).mono (by simp; omega))
  have hc0 : (((w.alloc (.cells #[.pointer (some ⟨g, 0, none⟩), .pointer (some ⟨h, 0, none⟩)] 30)).alloc (.cells #[.int .i64 r.c, .int .i64 r.t, .int .i64 r.k, .int .i64 r.y, .int .i64 r.v, .int .i64 r.s] 58)).alloc (.cells #[.int .i64 0, .int .i64 0, .int .i64 0, .int .i64 0, .int .i64 0, .int .i64 0] 58)).heap[w.heap.size]? = some (.cells #[.pointer (some ⟨g, 0, none⟩), .pointer (some ⟨h, 0, none⟩)] 30 (0, 0)) := box_below (box_below (heap_alloc_new w (.cells #[.pointer (some ⟨g, 0, none⟩), .pointer (some ⟨h, 0, none⟩)] 30)) (alloc_below (w.alloc (.cells #[.pointer (some ⟨g, 0, none⟩), .pointer (some ⟨h, 0, none⟩)] 30)) _) (Nat.le_refl _)) (alloc_below ((w.alloc (.cells #[.pointer (some ⟨g, 0, none⟩), .pointer (some ⟨h, 0, none⟩)] 30)).alloc (.cells #[.int .i64 r.c, .int .i64 r.t, .int .i64 r.k, .int .i64 r.y, .int .i64 r.v, .int .i64 r.s] 58)) _) (Nat.le_refl _)
  have hd0 : (((w.alloc (.cells #[.pointer (some ⟨g, 0, none⟩), .pointer (some ⟨h, 0, none⟩)] 30)).alloc (.cells #[.int .i64 r.c, .int .i64 r.t, .int .i64 r.k, .int .i64 r.y, .int .i64 r.v, .int .i64 r.s] 58)).alloc (.cells #[.int .i64 0, .int .i64 0, .int .i64 0, .int .i64 0, .int .i64 0, .int .i64 0] 58)).heap[w.heap.size + 1]? = some (.cells #[.int .i64 r.c, .int .i64 r.t, .int .i64 r.k, .int .i64 r.y, .int .i64 r.v, .int .i64 r.s] 58 (0, 0)) := by have h := box_below (heap_alloc_new (w.alloc (.cells #[.pointer (some ⟨g, 0, none⟩), .pointer (some ⟨h, 0, none⟩)] 30)) (.cells #[.int .i64 r.c, .int .i64 r.t, .int .i64 r.k, .int .i64 r.y, .int .i64 r.v, .int .i64 r.s] 58)) (alloc_below ((w.alloc (.cells #[.pointer (some ⟨g, 0, none⟩), .pointer (some ⟨h, 0, none⟩)] 30)).alloc (.cells #[.int .i64 r.c, .int .i64 r.t, .int .i64 r.k, .int .i64 r.y, .int .i64 r.v, .int .i64 r.s] 58)) (.cells #[.int .i64 0, .int .i64 0, .int .i64 0, .int .i64 0, .int .i64 0, .int .i64 0] 58)) (Nat.le_refl _); simpa using h
  have he0 : (((w.alloc (.cells #[.pointer (some ⟨g, 0, none⟩), .pointer (some ⟨h, 0, none⟩)] 30)).alloc (.cells #[.int .i64 r.c, .int .i64 r.t, .int .i64 r.k, .int .i64 r.y, .int .i64 r.v, .int .i64 r.s] 58)).alloc (.cells #[.int .i64 0, .int .i64 0, .int .i64 0, .int .i64 0, .int .i64 0, .int .i64 0] 58)).heap[w.heap.size + 2]? = some (.cells #[.int .i64 0, .int .i64 0, .int .i64 0, .int .i64 0, .int .i64 0, .int .i64 0] 58 (0, 0)) := by have h := heap_alloc_new ((w.alloc (.cells #[.pointer (some ⟨g, 0, none⟩), .pointer (some ⟨h, 0, none⟩)] 30)).alloc (.cells #[.int .i64 r.c, .int .i64 r.t, .int .i64 r.k, .int .i64 r.y, .int .i64 r.v, .int .i64 r.s] 58)) (.cells #[.int .i64 0, .int .i64 0, .int .i64 0, .int .i64 0, .int .i64 0, .int .i64 0] 58); simpa using h
  have hs0 : (((w.alloc (.cells #[.pointer (some ⟨g, 0, none⟩), .pointer (some ⟨h, 0, none⟩)] 30)).alloc (.cells #[.int .i64 r.c, .int .i64 r.t, .int .i64 r.k, .int .i64 r.y, .int .i64 r.v, .int .i64 r.s] 58)).alloc (.cells #[.int .i64 0, .int .i64 0, .int .i64 0, .int .i64 0, .int .i64 0, .int .i64 0] 58)).heap.size = w.heap.size + 3 := by simp
  go_enter Tryz.func75, Tryz.ntmps75
  go_wp2_with fail
  obtain ⟨W, hW⟩ : ∃ W, ((w.alloc (.cells #[.pointer (some ⟨g, 0, none⟩), .pointer (some ⟨h, 0, none⟩)] 30)).alloc (.cells #[.int .i64 r.c, .int .i64 r.t, .int .i64 r.k, .int .i64 r.y, .int .i64 r.v, .int .i64 r.s] 58)).alloc (.cells #[.int .i64 0, .int .i64 0, .int .i64 0, .int .i64 0, .int .i64 0, .int .i64 0] 58) = W := ⟨_, rfl⟩
  rw [hW] at hb0 hc0 hd0 he0 hs0 ⊢
  have HB0 := Lib.hid hb0
  have HC0 := Lib.hid hc0
  have HD0 := Lib.hid hd0
  have HE0 := Lib.hid he0
  have hsW : w.heap.size + 3 ≤ W.heap.size := by omega
  clear hW hb0 hc0 hd0 he0 hs0
  refine (rbody_any r W).mono ?_
  intro e w1 hh
  obtain ⟨bb, hbb⟩ : ∃ bb, bb = res (Psp.encR (bare r)) (Psp.okR (bare r)) := ⟨_, rfl⟩
  obtain ⟨ob, hob⟩ : ∃ ob, ob = Psp.okR (bare r) := ⟨_, rfl⟩
  obtain ⟨A, c, rfl, hp, hb⟩ := Bytes.rdb hh hbb.symm hob.symm
  have HB1 := Lib.hid (Below.then HB0.out hb HB0.out.size)
  have HC1 := Lib.hid (box_below HC0.out hb (Nat.le_refl _))
  have HD1 := Lib.hid (box_below HD0.out hb (Nat.le_refl _))
  have HE1 := Lib.hid (box_below HE0.out hb (Nat.le_refl _))
  have HT1 := Lib.hid (HT.out.below HB1.out)
  have HP := Lib.hid hp
  have hz1 := hb.size
  have hlb : bb.length ≤ 36 := by rw [hbb]; exact res_len (bare r)
  clear hh hp hb HB0 HC0 HD0 HE0
  cases ob with
  | false =>
    have Hk : Hid (reqSn K r = r.s ∧ reqK K r = K) := Lib.hid ⟨by unfold reqSn; rw [← hob]; rfl, by unfold reqK; rw [← hob]; rfl⟩
    clear hob hbb HP
    have y0 : w1.cell? ⟨w.heap.size + 1, 0, none⟩ = some (.int .i64 r.c) := by rw [cell_of_row _ _ 0 _ _ _ HD1.out]; rfl
    have y1 : w1.cell? ⟨w.heap.size + 1, 1, none⟩ = some (.int .i64 r.t) := by rw [cell_of_row _ _ 1 _ _ _ HD1.out]; rfl
    have y2 : w1.cell? ⟨w.heap.size + 1, 2, none⟩ = some (.int .i64 r.k) := by rw [cell_of_row _ _ 2 _ _ _ HD1.out]; rfl
    have y3 : w1.cell? ⟨w.heap.size + 1, 3, none⟩ = some (.int .i64 r.y) := by rw [cell_of_row _ _ 3 _ _ _ HD1.out]; rfl
    have y4 : w1.cell? ⟨w.heap.size + 1, 4, none⟩ = some (.int .i64 r.v) := by rw [cell_of_row _ _ 4 _ _ _ HD1.out]; rfl
    have y5 : w1.cell? ⟨w.heap.size + 1, 5, none⟩ = some (.int .i64 r.s) := by rw [cell_of_row _ _ 5 _ _ _ HD1.out]; rfl
    go_upto_region 4 with fail
    have Hth := Lib.hid (row_there HE1.out)
    obtain ⟨s1, s2⟩ := row_store HE1.out [.int .i64 r.c, .int .i64 r.t, .int .i64 r.k, .int .i64 r.y, .int .i64 r.v, .int .i64 r.s] rfl
    have T1 := Lib.hid s1
    have HFs := Lib.hid ((Fp.refl (fun b => b = w.heap.size + 2) w1).setCells (b := w.heap.size + 2) (o := 0) (Or.inl rfl) [.int .i64 r.c, .int .i64 r.t, .int .i64 r.k, .int .i64 r.y, .int .i64 r.v, .int .i64 r.s])
    clear s1 s2
    go_wp2_with (first | (refine wpList_store_mid rfl 58 (.tmp 4) (.tmp 20) rfl (w.heap.size + 2) 0 #[.int .i64 r.c, .int .i64 r.t, .int .i64 r.k, .int .i64 r.y, .int .i64 r.v, .int .i64 r.s] rfl rfl Hth.out rst_sizeR (by simp [Value.oneCell']) ?_))
    refine bodyPost_ret (v := .agg #[.int .i64 r.c, .int .i64 r.t, .int .i64 r.k, .int .i64 r.y, .int .i64 r.v, .int .i64 r.s]) ?_ rfl ?_
    · exact results_cell_row Tryz.results75 _ _ (w.heap.size + 2) _ _ _ _ rfl T1.out Tryz.underlying58 rfl rst_sizeR
    · exact ⟨by rw [Hk.out.1], S, by rw [Hk.out.2]; exact HT1.out.fp HFs.out (by omega) (by omega) (fun b hb he => by have := HSl.out b hb; omega), fun b hb => .inl hb, (Fp.of_below HB1.out _).trans HFs.out fun k hk => .inr (by omega)⟩
  | true =>
    have hcc : 0 ≤ r.c ∧ r.c < 1099511627776 := by
      unfold Psp.okR at hob
      have h1 := hob.symm
      rw [Bool.and_eq_true, Psp.okN_iff] at h1
      exact h1.1
    have hkr : kR r = (100 + r.c, bb) := by unfold kR; rw [hbb]
    have Hk : Hid (reqSn K r = sealN K (100 + r.c, bb) ∧ reqK K r = sealL K (100 + r.c, bb)) := Lib.hid ⟨by unfold reqSn; rw [← hob, hkr]; rfl, by unfold reqK; rw [← hob, hkr]; rfl⟩
    have HK : Hid (KOk (100 + r.c, bb)) := Lib.hid ⟨⟨by show -9223372036854775808 ≤ 100 + r.c; omega, by show 100 + r.c ≤ 9223372036854775807; omega⟩, by show bb.length ≤ _; unfold maxLen; omega⟩
    clear hob hbb hkr
    have x0 : w1.cell? ⟨w.heap.size, 0, none⟩ = some (.pointer (some ⟨g, 0, none⟩)) := by rw [cell_of_row _ _ 0 _ _ _ HC1.out]; rfl
    have x1 : w1.cell? ⟨w.heap.size, 1, none⟩ = some (.pointer (some ⟨h, 0, none⟩)) := by rw [cell_of_row _ _ 1 _ _ _ HC1.out]; rfl
    have y0 : w1.cell? ⟨w.heap.size + 1, 0, none⟩ = some (.int .i64 r.c) := by rw [cell_of_row _ _ 0 _ _ _ HD1.out]; rfl
    go_wp2_with fail
    refine (two_seal S g bm h K (100 + r.c) bb _ w1 _ HT1.out HK.out hl HP.out (fun b (hb : W.heap.size ≤ b) => ⟨fun hS => by have := HSl.out b hS; omega, by omega⟩)).mono ?_
    obtain ⟨sn, hsn⟩ : ∃ sn, sealN K (100 + r.c, bb) = sn := ⟨_, rfl⟩
    rw [hsn]
    rintro e w2 ⟨rfl, S', hT2, hS2, hF2⟩
    have Hsn := Lib.hid hsn
    have hn1 : ¬ (S (w.heap.size + 1) ∨ w.heap.size + 1 = bm) := by rintro (hh | hh); have := HSl.out _ hh; omega; omega
    have hn2 : ¬ (S (w.heap.size + 2) ∨ w.heap.size + 2 = bm) := by rintro (hh | hh); have := HSl.out _ hh; omega; omega
    have hd2 := (hF2.block (w.heap.size + 1) (by omega) hn1).trans HD1.out
    have he2 := (hF2.block (w.heap.size + 2) (by omega) hn2).trans HE1.out
    have HD2 := Lib.hid hd2
    have HE2 := Lib.hid he2
    have HT2 := Lib.hid hT2
    have HS2 := Lib.hid hS2
    have HF2 := Lib.hid hF2
    have z5 : w2.frozen? ⟨w.heap.size + 1, 5, none⟩ = false := frozen_of_row _ _ 5 _ _ hd2
    clear x0 x1 y0 hsn hn1 hn2 hd2 he2 hT2 hS2 hF2
    have y5 : w2.cell? ⟨w.heap.size + 1, 5, none⟩ = some (.int .i64 r.s) := by rw [cell_of_row _ _ 5 _ _ _ HD2.out]; rfl
    go_upto_region 4 with fail
    have hd3 : (w2.setCell ⟨w.heap.size + 1, 5, none⟩ (.int .i64 sn)).heap[w.heap.size + 1]? = some (.cells #[.int .i64 r.c, .int .i64 r.t, .int .i64 r.k, .int .i64 r.y, .int .i64 r.v, .int .i64 sn] 58 (0, 0)) := by rw [heap_setCell_same w2 (w.heap.size + 1) 5 _ _ _ HD2.out]; rfl
    have he3 : (w2.setCell ⟨w.heap.size + 1, 5, none⟩ (.int .i64 sn)).heap[w.heap.size + 2]? = some (.cells #[.int .i64 0, .int .i64 0, .int .i64 0, .int .i64 0, .int .i64 0, .int .i64 0] 58 (0, 0)) := (Below.heap_setCell w2 ⟨w.heap.size + 1, 5, none⟩ _ (w.heap.size + 2) (by show w.heap.size + 2 ≠ w.heap.size + 1; omega)).trans HE2.out
    have hf3 : Fp (fun b => b = w.heap.size + 1) w2 (w2.setCell ⟨w.heap.size + 1, 5, none⟩ (.int .i64 sn)) := (Fp.refl (fun b => b = w.heap.size + 1) w2).setCell (p := ⟨w.heap.size + 1, 5, none⟩) (Or.inl (show w.heap.size + 1 = w.heap.size + 1 from rfl)) _
    obtain ⟨w3, hw3⟩ : ∃ w3, w2.setCell ⟨w.heap.size + 1, 5, none⟩ (.int .i64 sn) = w3 := ⟨_, rfl⟩
    rw [hw3] at hd3 he3 hf3 ⊢
    have HD3 := Lib.hid hd3
    have HE3 := Lib.hid he3
    have HF3 := Lib.hid hf3
    clear y5 z5 hw3 hd3 he3 hf3
    have y0 : w3.cell? ⟨w.heap.size + 1, 0, none⟩ = some (.int .i64 r.c) := by rw [cell_of_row _ _ 0 _ _ _ HD3.out]; rfl
    have y1 : w3.cell? ⟨w.heap.size + 1, 1, none⟩ = some (.int .i64 r.t) := by rw [cell_of_row _ _ 1 _ _ _ HD3.out]; rfl
    have y2 : w3.cell? ⟨w.heap.size + 1, 2, none⟩ = some (.int .i64 r.k) := by rw [cell_of_row _ _ 2 _ _ _ HD3.out]; rfl
    have y3 : w3.cell? ⟨w.heap.size + 1, 3, none⟩ = some (.int .i64 r.y) := by rw [cell_of_row _ _ 3 _ _ _ HD3.out]; rfl
    have y4 : w3.cell? ⟨w.heap.size + 1, 4, none⟩ = some (.int .i64 r.v) := by rw [cell_of_row _ _ 4 _ _ _ HD3.out]; rfl
    have y5 : w3.cell? ⟨w.heap.size + 1, 5, none⟩ = some (.int .i64 sn) := by rw [cell_of_row _ _ 5 _ _ _ HD3.out]; rfl
    have Hth := Lib.hid (row_there HE3.out)
    obtain ⟨s1, s2⟩ := row_store HE3.out [.int .i64 r.c, .int .i64 r.t, .int .i64 r.k, .int .i64 r.y, .int .i64 r.v, .int .i64 sn] rfl
    have T1 := Lib.hid s1
    have HFs := Lib.hid ((Fp.refl (fun b => b = w.heap.size + 2) w3).setCells (b := w.heap.size + 2) (o := 0) (Or.inl rfl) [.int .i64 r.c, .int .i64 r.t, .int .i64 r.k, .int .i64 r.y, .int .i64 r.v, .int .i64 sn])
    clear s1 s2
    go_wp2_with (first | (refine wpList_store_mid rfl 58 (.tmp 4) (.tmp 20) rfl (w.heap.size + 2) 0 #[.int .i64 r.c, .int .i64 r.t, .int .i64 r.k, .int .i64 r.y, .int .i64 r.v, .int .i64 sn] rfl rfl Hth.out rst_sizeR (by simp [Value.oneCell']) ?_))
    refine bodyPost_ret (v := .agg #[.int .i64 r.c, .int .i64 r.t, .int .i64 r.k, .int .i64 r.y, .int .i64 r.v, .int .i64 sn]) ?_ rfl ?_
    · exact results_cell_row Tryz.results75 _ _ (w.heap.size + 2) _ _ _ _ rfl T1.out Tryz.underlying58 rfl rst_sizeR
    · have hnS : ∀ b, S' b → b ≠ w.heap.size + 1 ∧ b ≠ w.heap.size + 2 := fun b hb => by rcases HS2.out b hb with h1 | h1; (have := HSl.out b h1; omega); omega
      exact ⟨by rw [Hk.out.1, Hsn.out], S', by rw [Hk.out.2]; exact (HT2.out.fp HF3.out (by omega) (by omega) (fun b hb he => (hnS b hb).1 he)).fp HFs.out (by omega) (by omega) (fun b hb he => (hnS b hb).2 he), fun b hb => (HS2.out b hb).imp id fun h => by omega, (((Fp.of_below HB1.out _).trans HF2.out fun k hk => .inl hk).trans HF3.out fun k hk => .inr (by omega)).trans HFs.out fun k hk => .inr (by omega)⟩

/-- Requests with their seals, and what has been sealed. -/
def reqsF (K : List Key) (l : List Psp.Req) : List Psp.Req × List Key := l.foldl (fun p r => (p.1 ++ [reqS p.2 r], reqK p.2 r)) ([], K)
theorem reqsF_step {K : List Key} {l : List Psp.Req} {k : Nat} {x : Psp.Req} (h : l[k]? = some x) : reqsF K (l.take (k + 1)) = ((reqsF K (l.take k)).1 ++ [reqS (reqsF K (l.take k)).2 x], reqK (reqsF K (l.take k)).2 x) := by
  obtain ⟨hk, rfl⟩ := List.getElem?_eq_some_iff.1 h
  unfold reqsF
  rw [List.take_succ_eq_append_getElem hk, List.foldl_append]
  rfl
theorem reqsF_len (K : List Key) (l : List Psp.Req) : ∀ k, k ≤ l.length → (reqsF K (l.take k)).1.length = k
  | 0, _ => rfl
  | k + 1, h => by rw [reqsF_step (List.getElem?_eq_getElem (show k < l.length by omega)), List.length_append, reqsF_len K l k (by omega)]; rfl
theorem reqK_len (K : List Key) (r : Psp.Req) : (reqK K r).length ≤ K.length + 1 := by
  unfold reqK sealL
  split
  · split
    · omega
    · simp
  · omega
theorem reqsF_keys (K : List Key) (l : List Psp.Req) : ∀ k, k ≤ l.length → (reqsF K (l.take k)).2.length ≤ K.length + k
  | 0, _ => Nat.le_refl _
  | k + 1, h => by
    rw [reqsF_step (List.getElem?_eq_getElem (show k < l.length by omega))]
    have h1 := reqsF_keys K l k (by omega)
    have h2 := reqK_len (reqsF K (l.take k)).2 (l[k]'(by omega))
    show (reqK _ _).length ≤ _
    omega

/-- What the loop keeps. -/
structure Bi (w0 wr : World) (S : Nat → Prop) (g bm h : Nat) (B : Nat) (K : List Key) (l : List Psp.Req) (out : Value) (S' : Nat → Prop) : Prop where
  tw : Tw wr S' g bm h K
  new : ∀ b, S' b → S b ∨ B ≤ b
  own : wr.ownsRow B 58 6 out l.length (l.flatMap rq)
  sep : ∀ b, out.ownBlock = some b → ¬ S' b ∧ b ≠ g ∧ b ≠ bm
  fp : Fp (fun b => S b ∨ b = bm) w0 wr

set_option maxRecDepth 100000 in
set_option maxHeartbeats 8000000 in
theorem two_batch (S : Nat → Prop) (g bm h : Nat) (K : List Key) (l : List Psp.Req) (n : Nat) (v : Value) (w : World) (P : Nat → Prop) (hT : Tw w S g bm h K) (hl : K.length < 1000000) (hx : RdP w P 6 v n (l.flatMap rq)) (hn : l.length = n) (hn3 : n ≤ 1000) (hP : ∀ b, P b → ¬ S b ∧ b ≠ bm) :
    Calls Tryz.prog 38 #[.agg #[.pointer (some ⟨g, 0, none⟩), .pointer (some ⟨h, 0, none⟩)], v] w fun e w' => ∃ A c S', e = .returned (.slice A (Psp.ordR (reqsF K l).1).length c) ∧
      Tw w' S' g bm h (reqsF K l).2 ∧ (∀ b, S' b → S b ∨ w.heap.size ≤ b) ∧ Fp (fun b => S b ∨ b = bm) w w' ∧
      ∃ B, w.heap.size ≤ B ∧ w'.ownsRow B 58 6 (.slice A (Psp.ordR (reqsF K l).1).length c) (Psp.ordR (reqsF K l).1).length ((Psp.ordR (reqsF K l).1).flatMap rq) ∧ ∀ b, S' b → b < B := by
  have HT := Lib.hid hT
  have HX := Lib.hid hx
  have Hn := Lib.hid hn
  have HP := Lib.hid hP
  have HSl := Lib.hid hT.lt
  have hgl := hT.nt.lt
  obtain ⟨_, A, c, rfl, hc1, hc2, _⟩ := hx.parts
  have hb0 := alloc_below w (.cells #[.pointer (some ⟨g, 0, none⟩), .pointer (some ⟨h, 0, none⟩)] 30)
  have hc0 := heap_alloc_new w (.cells #[.pointer (some ⟨g, 0, none⟩), .pointer (some ⟨h, 0, none⟩)] 30)
  clear hT hx hn hP
  go_enter Tryz.func38, Tryz.ntmps38
  go_wp2_with fail
  obtain ⟨W, hW⟩ : ∃ W, w.alloc (.cells #[.pointer (some ⟨g, 0, none⟩), .pointer (some ⟨h, 0, none⟩)] 30) = W := ⟨_, rfl⟩
  rw [hW] at hb0 hc0 ⊢
  clear hW
  have HC0 := Lib.hid hc0
  have HBi : Hid (Bi w W S g bm h (w.heap.size + 1) (reqsF K (l.take 0)).2 (reqsF K (l.take 0)).1 (.slice none 0 0) S) := Lib.hid ⟨HT.out.below hb0, fun b hb => .inl hb, World.ownsRow_nil _ _ _ _, fun b hb => (by cases hb), Fp.of_below hb0 _⟩
  have hNl := (Array.getElem?_eq_some_iff.1 hc0).1
  clear hb0 hc0
  go_loopw [5, 6, 9] (fun out s6 i wr => ∃ (k : Nat) (Ak : Option Addr) (ck : Nat) (S' : Nat → Prop), i = .int .i64 (k : Int) ∧ k ≤ n ∧ out = .slice Ak k ck ∧ Hid (wr.heap[w.heap.size]? = some (.cells #[.pointer (some ⟨g, 0, none⟩), .pointer (some ⟨h, 0, none⟩)] 30 (0, 0))) ∧ Hid (Bi w wr S g bm h (w.heap.size + 1) (reqsF K (l.take k)).2 (reqsF K (l.take k)).1 out S')) (fun _ _ i _ => n - (intOf i).toNat)
  case atStart => exact ⟨0, none, 0, S, rfl, Nat.zero_le _, rfl, HC0, HBi⟩
  case round =>
    obtain ⟨k, Ak, ck, S', rfl, hk, rfl, HC, HI⟩ := hrel
    by_cases hlt : k < n
    · have d1 : decide ((k : Int) < (n : Int)) = true := by simp; omega
      obtain ⟨b0, o0, c0, he, hb0, _, _, hel⟩ := ri_elem HX.out Hn.out (by omega)
      injection he with he1 _ he2
      subst he1 he2
      have hPb : P b0 := by
        obtain ⟨_, A', c', e', _, _, hp⟩ := HX.out.parts
        injection e' with e1 _ e3
        obtain ⟨b', o', e4, hPb, _⟩ := hp (by omega)
        rw [e4] at e1; injection e1 with e1; injection e1 with e1; rw [e1]; exact hPb
      obtain ⟨x, hx⟩ : ∃ x, l[k]? = some x := ⟨l[k]'(by rw [Hn.out]; omega), List.getElem?_eq_getElem (by rw [Hn.out]; omega)⟩
      have hnb := HP.out b0 hPb
      have hb0r : wr.heap[b0]? = w.heap[b0]? := HI.out.fp.block b0 hb0 (by rintro (hh | hh); exact hnb.1 hh; exact hnb.2 hh)
      have hrg := hel k x hx
      have Hx := Lib.hid hx
      have Hnb := Lib.hid hnb
      have hzr := HI.out.fp.size
      have hNr := (Array.getElem?_eq_some_iff.1 HC.out).1
      have hglr := HI.out.tw.nt.lt
      have hkl := reqsF_keys K l k (by rw [Hn.out]; omega)
      have hvl := reqsF_len K l k (by rw [Hn.out]; omega)
      have HRT : Hid (∀ w' : World, (∃ p : LaterF wr.drew (fun b => b ≠ w.heap.size ∧ b ≠ b0), w' = p.W) → w'.rangeAt w.heap.size 0 [.pointer (some ⟨g, 0, none⟩), .pointer (some ⟨h, 0, none⟩)]) := Lib.hid (by rintro w' ⟨p, rfl⟩; exact range_of_row ((p.h.block _ (show w.heap.size < wr.heap.size from hNr) (fun hh => hh.1 rfl)).trans HC.out))
      have HRX : Hid (∀ w' : World, (∃ p : LaterF wr.drew (fun b => b ≠ w.heap.size ∧ b ≠ b0), w' = p.W) → w'.rangeAt b0 (o0 + k * 6) [.int .i64 x.c, .int .i64 x.t, .int .i64 x.k, .int .i64 x.y, .int .i64 x.v, .int .i64 x.s]) := Lib.hid (by rintro w' ⟨p, rfl⟩; exact hrg _ ((p.h.block _ (show b0 < wr.heap.size by omega) (fun hh => hh.2 rfl)).trans hb0r))
      have kb0 : (0 : Int) ≤ (k : Int) := by omega
      have kb1 : (k : Int) < (n : Int) := by omega
      have hb0s : b0 ≠ w.heap.size := by omega
      clear hx hnb hb0r hrg hel hPb
      go_upto_region 5 with fail
      refine wp_region_phasesF (fun b => b ≠ w.heap.size ∧ b ≠ b0) [(true, 0), (true, 1), (true, 2), (true, 3), (true, 4), (true, 5), (false, 6), (false, 7), (false, 8), (false, 9)] (by kernel_rfl) (by kernel_rfl) ?_
      simp only [phS, List.getElem?_cons_zero, List.getElem?_cons_succ, Option.toList, List.length_cons, List.length_nil, Nat.reduceAdd, List.drop_succ_cons, List.drop_zero]
      repeat (first | go_big_quiet_step (fail) | (refine quiet_load (by simp [Region.wanted, yielded]) 30 (.tmp 2) (by rfl) w.heap.size (0) (by rfl) [.pointer (some ⟨g, 0, none⟩), .pointer (some ⟨h, 0, none⟩)] _ HRT.out Tryz.underlying30 rfl sizeTwo ?_; intro K hK; go_simp; refine hK _ ?_; clear hK K) | (refine quiet_load (by simp [Region.wanted, yielded]) 58 (.tmp 16) (by rfl) b0 (o0 + k * 6) (by rfl) [.int .i64 x.c, .int .i64 x.t, .int .i64 x.k, .int .i64 x.y, .int .i64 x.v, .int .i64 x.s] _ HRX.out Tryz.underlying58 rfl rst_sizeR ?_; intro K hK; go_simp; refine hK _ ?_; clear hK K) | quiet_step (fail) | refine wpQuiet_nil ?_)
      go_wp2_with fail
      have HTd := Lib.hid (show Tw wr.drew S' g bm h (reqsF K (l.take k)).2 from HI.out.tw.below (Below.refl _ _).drew)
      refine (two_req S' g bm h (reqsF K (l.take k)).2 x wr.drew HTd.out (by omega)).mono ?_
      rintro e w2 ⟨rfl, S'', hT2, hS2, hF2⟩
      obtain ⟨sv, hsv⟩ : ∃ sv, reqSn (reqsF K (l.take k)).2 x = sv := ⟨_, rfl⟩
      rw [hsv]
      have Hsv := Lib.hid hsv
      have hF2' : Fp (fun b => S' b ∨ b = bm) wr w2 := ⟨hF2.os, hF2.tape, hF2.output, hF2.size, hF2.block⟩
      have hz2 := hF2'.size
      have hnN : ¬ (S' w.heap.size ∨ w.heap.size = bm) := by
        rintro (hh | hh)
        · rcases HI.out.new _ hh with h1 | h1
          · have := HSl.out _ h1; omega
          · omega
        · omega
      have hnb0 : ¬ (S' b0 ∨ b0 = bm) := by
        rintro (hh | hh)
        · rcases HI.out.new _ hh with h1 | h1
          · exact Hnb.out.1 h1
          · omega
        · exact Hnb.out.2 hh
      have hN2 := (hF2'.block w.heap.size (by omega) hnN).trans HC.out
      have hown2 : w2.ownsRow (w.heap.size + 1) 58 6 (.slice Ak k ck) k ((reqsF K (l.take k)).1.flatMap rq) := by
        have h2 := own_keep HI.out.own (w' := w2) fun b hb => hF2'.block b (HI.out.own.lt b hb).2 (by rintro (hh | hh); exact (HI.out.sep b hb).1 hh; exact (HI.out.sep b hb).2.2 hh)
        rwa [hvl] at h2
      have F2 := Lib.hid (show Fp (fun b => b ≠ w.heap.size ∧ b ≠ b0) wr.drew w2 from hF2.mono (fun j _ hj => ⟨fun hh => hnN (hh ▸ hj), fun hh => hnb0 (hh ▸ hj)⟩))
      have HT2 := Lib.hid hT2
      have HS2 := Lib.hid (show ∀ b, S'' b → S' b ∨ wr.heap.size ≤ b from hS2)
      have HF2 := Lib.hid hF2'
      have HC2 := Lib.hid hN2
      have Hown2 := Lib.hid hown2
      clear hsv hnN hnb0 hN2 hown2 hT2 hS2 hF2 hF2'
      go_wp2_with fail
      refine And.intro ⟨⟨w2, F2.out⟩, rfl⟩ ?_
      go_wp2_with fail
      refine And.intro ⟨⟨_, F2.out.alloc _⟩, rfl⟩ ?_
      go_wp2_with (at_builtin; refine wpList_app1 reqE rfl _ _ rfl (w.heap.size + 1) (.slice Ak k ck) k _ rfl Hown2.out _ rfl rfl (by simp [Value.oneCell']) (by omega) (by decide) (by omega) ?_; intro v' w4 hown4 hg4 _ hv4; have Hown4 := Lib.hid hown4; have Hg4 := Lib.hid hg4; have Hv4 := Lib.hid hv4; clear hown4 hg4 hv4; obtain ⟨A4, c4, rfl, _, _, _⟩ := own_slice Hown4.out)
      have hw24 := Hg4.out.size
      have hrow : ∀ j, (Value.slice Ak k ck).ownBlock = some j → w.heap.size + 1 ≤ j ∧ j < w2.heap.size := fun j hj => Hown2.out.lt j hj
      have HLF := Lib.hid (F2.out.grown Hg4.out (fun j hj => Or.inl (show j ≠ w.heap.size ∧ j ≠ b0 by have := (hrow j hj).1; omega)))
      have hF24 : Fp (fun b => (Value.slice Ak k ck).ownBlock = some b) w2 w4 := (Fp.refl _ w2).grown Hg4.out (fun j hj => Or.inl hj)
      have hS2' : ∀ b, S'' b → S b ∨ w.heap.size + 1 ≤ b := fun b hb => by
        rcases HS2.out b hb with h1 | h1
        · exact HI.out.new b h1
        · right; omega
      have hsepA : ∀ b, (Value.slice Ak k ck).ownBlock = some b → ¬ S'' b ∧ b ≠ g ∧ b ≠ bm := fun b hb => by
        obtain ⟨q1, q2, q3⟩ := HI.out.sep b hb
        refine ⟨fun hh => ?_, q2, q3⟩
        rcases HS2.out b hh with h1 | h1
        · exact q1 h1
        · have := (HI.out.own.lt b hb).2; omega
      have htw4 : Tw w4 S'' g bm h (reqK (reqsF K (l.take k)).2 x) := HT2.out.fp hF24 (fun hh => (hsepA g hh).2.1 rfl) (fun hh => (hsepA bm hh).2.2 rfl) (fun b hb hh => (hsepA b hh).1 hb)
      have HBn : Hid (Bi w w4 S g bm h (w.heap.size + 1) (reqsF K (l.take (k + 1))).2 (reqsF K (l.take (k + 1))).1 (.slice A4 (k + 1) c4) S'') := Lib.hid (by
        rw [reqsF_step Hx.out]
        refine ⟨htw4, hS2', ?_, fun b hb => ?_, ?_⟩
        · have h4 := Hown4.out
          show w4.ownsRow _ _ _ _ (_ ++ [reqS _ x]).length ((_ ++ [reqS _ x]).flatMap rq)
          rw [List.length_append, hvl, List.flatMap_append]
          have e : reqS (reqsF K (l.take k)).2 x = ⟨x.c, x.t, x.k, x.y, x.v, sv⟩ := by unfold reqS; rw [Hsv.out]
          rw [e]
          simpa [rq, iv] using h4
        · rcases Hv4.out with hv | hv
          · rw [hv] at hb; exact hsepA b hb
          · rw [hv] at hb
            injection hb with hb
            subst hb
            refine ⟨fun hh => ?_, by omega, by omega⟩
            have := HT2.out.lt _ hh
            omega
        · exact (HI.out.fp.trans HF2.out (fun j hj => by
            rcases hj with hj | hj
            · rcases HI.out.new j hj with h1 | h1
              · exact .inl (.inl h1)
              · right; omega
            · exact .inl (.inr hj))).grown Hg4.out (fun j hj => Or.inr (by have := (hrow j hj).1; omega)))
      have HCn : Hid (w4.heap[w.heap.size]? = some (.cells #[.pointer (some ⟨g, 0, none⟩), .pointer (some ⟨h, 0, none⟩)] 30 (0, 0))) := Lib.hid ((hF24.block w.heap.size (by omega) (fun hh => by have := (hrow _ hh).1; omega)).trans HC2.out)
      clear hrow hF24 hS2' hsepA htw4
      refine And.intro ⟨⟨w4, HLF.out⟩, rfl⟩ ?_
      go_wp2_with fail
      refine And.intro ⟨⟨w4, HLF.out⟩, rfl⟩ ?_
      go_wp2_with fail
      first
        | (go_roundw
           case rel => exact ⟨k + 1, A4, c4, S'', by go_num, by omega, rfl, HCn, HBn⟩
           case measure => simp [intOf]; omega)
        | (refine ⟨⟨k + 1, A4, c4, S'', by go_num, by omega, rfl, HCn, HBn⟩, ?_⟩
           simp [intOf]; omega)
    · have hkq : k = n := by omega
      subst hkq
      have d1 : decide ((k : Int) < (k : Int)) = false := by simp
      have hvl := reqsF_len K l k (by rw [Hn.out]; omega)
      have htk : l.take k = l := List.take_of_length_le (by rw [Hn.out]; omega)
      rw [htk] at HI hvl
      go_wp2_with fail
      refine (order_any (reqsF K l).1 k _ wr _ (by have h := RdP.of_own HI.out.own; rw [hvl] at h; exact h) hvl (by omega)).mono ?_
      rintro e w2 ⟨A2, c2, rfl, hown, hb2⟩
      have Hown := Lib.hid hown
      have HB2 := Lib.hid hb2
      clear hown hb2
      go_wp2_with fail
      go_ret
      have hzw := HI.out.fp.size
      exact ⟨A2, c2, S', rfl, HI.out.tw.below HB2.out, fun b hb => (HI.out.new b hb).imp id fun h => by omega, HI.out.fp.below HB2.out, wr.heap.size, hzw, Hown.out, HI.out.tw.lt⟩
end Go.Proofs.YtadpkjgjciodnaaGreat
