/- A node's reply. Printed by gen_rep.py. -/
import Derived.Test.YtipmjleohadoeaaGreatClnSa
import Derived.Test.YtipmjleohadoeaaGreatJ38Sa
import Derived.Test.YtipmjleohadoeaaGreatJ31Sa
namespace Go.Proofs.YtipmjleohadoeaaGreat
open Go.RowKit
set_option linter.unusedVariables false
set_option linter.unusedSimpArgs false

set_option maxRecDepth 100000 in
set_option maxHeartbeats 8000000 in
theorem reply_v (T : Nat → Prop) (g bm h : Nat) (K L : List Key) (n i q r : Int) (w : World) (hT : Tv w T g bm h K L) (hn : isI64 n) (hl : K.length < 1099511627776) (hl2 : L.length < 1099511627776) :
    Calls Tryz.prog 15 #[.agg #[.pointer (some ⟨g, 0, none⟩), .pointer (some ⟨h, 0, none⟩)], .agg #[.int .i64 0, .int .i64 n, .int .i64 0, .int .i64 i, .int .i64 q, .int .i64 r, .slice none 0 0, .slice none 0 0, .slice none 0 0, .slice none 0 0]] w fun e w' => ∃ A cp S', e = .returned (.slice A (res (envB K (repM n i q r)) (okS K (repM n i q r))).length cp) ∧ Tv w' S' g bm h (sealK K (repM n i q r)) (sealK L (repM n i q r)) ∧ (∀ b, S' b → T b ∨ w.heap.size ≤ b) ∧ Fp (fun b => T b ∨ b = bm) w w' ∧
      RdP w' (fun b => w.heap.size ≤ b ∧ Off w' S' bm b) 1 (.slice A (res (envB K (repM n i q r)) (okS K (repM n i q r))).length cp) (res (envB K (repM n i q r)) (okS K (repM n i q r))).length ((res (envB K (repM n i q r)) (okS K (repM n i q r))).map bv) := by
  have HT := Lib.hid hT
  have HB := Lib.hid (Below.refl w.heap.size w)
  have HSn : Hid (∀ b, T b → b < w.heap.size) := Lib.hid hT.lt
  have hbm := hT.nt.lt
  clear hT
  go_enter Tryz.func15, Tryz.ntmps15
  go_upto_region 1 with fail
  have hba := alloc_below w (.cells #[.pointer (some ⟨g, 0, none⟩), .pointer (some ⟨h, 0, none⟩)] 31)
  have hra : Rw (w.alloc (.cells #[.pointer (some ⟨g, 0, none⟩), .pointer (some ⟨h, 0, none⟩)] 31)) T bm w.heap.size (.cells #[.pointer (some ⟨g, 0, none⟩), .pointer (some ⟨h, 0, none⟩)] 31 (0, 0)) := Rw.new (.cells #[.pointer (some ⟨g, 0, none⟩), .pointer (some ⟨h, 0, none⟩)] 31) HT.out.lt HT.out.nt.lt.2
  have hsa : (w.alloc (.cells #[.pointer (some ⟨g, 0, none⟩), .pointer (some ⟨h, 0, none⟩)] 31)).heap.size = w.heap.size + 1 := by simp
  obtain ⟨w1, hWa⟩ : ∃ W_, w.alloc (.cells #[.pointer (some ⟨g, 0, none⟩), .pointer (some ⟨h, 0, none⟩)] 31) = W_ := ⟨_, rfl⟩
  rw [hWa] at hba hra hsa ⊢
  have Hs_w1 := Lib.hid hsa
  have Hb_w1 := Lib.hid hba
  have Ht := Lib.hid hra
  clear hWa hra hsa
  replace HT := Lib.hid (HT.out.below hba)
  replace HB := Lib.hid (Below.then HB.out hba HB.out.size)
  clear hba
  have hba := alloc_below w1 (.cells #[.int .i64 0, .int .i64 n, .int .i64 0, .int .i64 i, .int .i64 q, .int .i64 r, .slice none 0 0, .slice none 0 0, .slice none 0 0, .slice none 0 0] 56)
  have hra : Rw (w1.alloc (.cells #[.int .i64 0, .int .i64 n, .int .i64 0, .int .i64 i, .int .i64 q, .int .i64 r, .slice none 0 0, .slice none 0 0, .slice none 0 0, .slice none 0 0] 56)) T bm w1.heap.size (.cells #[.int .i64 0, .int .i64 n, .int .i64 0, .int .i64 i, .int .i64 q, .int .i64 r, .slice none 0 0, .slice none 0 0, .slice none 0 0, .slice none 0 0] 56 (0, 0)) := Rw.new (.cells #[.int .i64 0, .int .i64 n, .int .i64 0, .int .i64 i, .int .i64 q, .int .i64 r, .slice none 0 0, .slice none 0 0, .slice none 0 0, .slice none 0 0] 56) HT.out.lt HT.out.nt.lt.2
  have hsa : (w1.alloc (.cells #[.int .i64 0, .int .i64 n, .int .i64 0, .int .i64 i, .int .i64 q, .int .i64 r, .slice none 0 0, .slice none 0 0, .slice none 0 0, .slice none 0 0] 56)).heap.size = w1.heap.size + 1 := by simp
  obtain ⟨w2, hWa⟩ : ∃ W_, w1.alloc (.cells #[.int .i64 0, .int .i64 n, .int .i64 0, .int .i64 i, .int .i64 q, .int .i64 r, .slice none 0 0, .slice none 0 0, .slice none 0 0, .slice none 0 0] 56) = W_ := ⟨_, rfl⟩
  rw [hWa] at hba hra hsa ⊢
  have Hs_w2 := Lib.hid hsa
  have Hb_w2 := Lib.hid hba
  rw [Hs_w1.out] at hra
  have Hm := Lib.hid hra
  clear hWa hra hsa
  replace Ht := Lib.hid (Ht.out.below hba)
  replace HT := Lib.hid (HT.out.below hba)
  replace HB := Lib.hid (Below.then HB.out hba HB.out.size)
  clear hba
  have f_m0 : w2.cell? ⟨w.heap.size + 1, 0, none⟩ = some (.int .i64 0) := Hm.out.cell rfl
  have fz_m0 : w2.frozen? ⟨w.heap.size + 1, 0, none⟩ = false := Hm.out.ice 0
  go_upto_region 2 with fail
  clear f_m0 fz_m0
  have hfs : Fp (fun b => b = w.heap.size + 1) w2 (w2.setCell ⟨w.heap.size + 1, 0, none⟩ (.int .i64 10)) := (Fp.refl (fun b => b = w.heap.size + 1) w2).setCell (p := ⟨w.heap.size + 1, 0, none⟩) (Or.inl (show w.heap.size + 1 = w.heap.size + 1 from rfl)) _
  have hrw : (w2.setCell ⟨w.heap.size + 1, 0, none⟩ (.int .i64 10)).heap[w.heap.size + 1]? = some (.cells #[.int .i64 10, .int .i64 n, .int .i64 0, .int .i64 i, .int .i64 q, .int .i64 r, .slice none 0 0, .slice none 0 0, .slice none 0 0, .slice none 0 0] 56 (0, 0)) := by rw [heap_setCell_same w2 (w.heap.size + 1) 0 _ _ _ Hm.out.row]; rfl
  obtain ⟨w3, hw3⟩ : ∃ w3, w2.setCell ⟨w.heap.size + 1, 0, none⟩ (.int .i64 10) = w3 := ⟨_, rfl⟩
  rw [hw3] at hfs hrw ⊢
  have hom := Hm.out.off
  have hzB := HB.out.size
  replace HT := Lib.hid (HT.out.fp hfs (by omega) (fun he => hom.2.2 he.symm) (fun b hb he => hom.2.1 (he ▸ hb)))
  replace Ht := Lib.hid (Ht.out.other hfs (by omega))
  replace HB := Lib.hid (HB.out.trans (hfs.to_below (B := w.heap.size) hzB (fun k _ hk => by omega)))
  replace Hm : Hid (Rw w3 T bm (w.heap.size + 1) (.cells #[.int .i64 10, .int .i64 n, .int .i64 0, .int .i64 i, .int .i64 q, .int .i64 r, .slice none 0 0, .slice none 0 0, .slice none 0 0, .slice none 0 0] 56 (0, 0))) := Lib.hid ⟨hrw, hom.seal hfs fun b hb => .inl hb⟩
  clear hw3 hfs hrw hom hzB
  have f_m0 : w3.cell? ⟨w.heap.size + 1, 0, none⟩ = some (.int .i64 10) := Hm.out.cell rfl
  have f_m1 : w3.cell? ⟨w.heap.size + 1, 1, none⟩ = some (.int .i64 n) := Hm.out.cell rfl
  have f_m2 : w3.cell? ⟨w.heap.size + 1, 2, none⟩ = some (.int .i64 0) := Hm.out.cell rfl
  have f_m3 : w3.cell? ⟨w.heap.size + 1, 3, none⟩ = some (.int .i64 i) := Hm.out.cell rfl
  have f_m4 : w3.cell? ⟨w.heap.size + 1, 4, none⟩ = some (.int .i64 q) := Hm.out.cell rfl
  have f_m5 : w3.cell? ⟨w.heap.size + 1, 5, none⟩ = some (.int .i64 r) := Hm.out.cell rfl
  have f_m6 : w3.cell? ⟨w.heap.size + 1, 6, none⟩ = some (.slice none 0 0) := Hm.out.cell rfl
  have f_m7 : w3.cell? ⟨w.heap.size + 1, 7, none⟩ = some (.slice none 0 0) := Hm.out.cell rfl
  have f_m8 : w3.cell? ⟨w.heap.size + 1, 8, none⟩ = some (.slice none 0 0) := Hm.out.cell rfl
  have f_m9 : w3.cell? ⟨w.heap.size + 1, 9, none⟩ = some (.slice none 0 0) := Hm.out.cell rfl
  go_wp2_with fail
  clear f_m0 f_m1 f_m2 f_m3 f_m4 f_m5 f_m6 f_m7 f_m8 f_m9
  refine (rbody_m (repM n i q r) _ _ _ _ w3 ⟨RdP.none_, RdP.none_, RdC.nil, RdA.nil⟩).mono ?_
  intro e w4 hby
  cases hok : Psp.okB (repM n i q r) with
  | false =>
    obtain ⟨A, cp, rfl, -, hbq⟩ := hby.rdb (b := []) (o := false) (by rw [hok]; rfl) hok
    have hsk : sealK K (repM n i q r) = K := by unfold sealK; rw [hok]; rfl
    have hsl : sealK L (repM n i q r) = L := by unfold sealK; rw [hok]; rfl
    have hos : okS K (repM n i q r) = false := by unfold okS; rw [hok]; rfl
    have HSK := Lib.hid hsk
    have HSL := Lib.hid hsl
    have HOS := Lib.hid hos
    clear hby hok hsk hsl hos
    have hbe := Below.then HB.out hbq HB.out.size
    replace HT := Lib.hid (HT.out.below hbq)
    have HBE := Lib.hid hbe
    clear hbe
    go_wp2_with fail
    go_ret
    refine ⟨none, 0, T, ?_, ?_, fun b hb => .inl hb, Fp.of_below HBE.out _, ?_⟩
    · rw [HOS.out]; rfl
    · rw [HSK.out, HSL.out]; exact HT.out
    · rw [HOS.out]; exact RdP.none_
  | true =>
    obtain ⟨A, cp, rfl, hrb, hbq⟩ := hby.rdb (b := Psp.encM (repM n i q r)) (o := true) (by rw [hok]; rfl) hok
    have HK : Hid (KOk (n, Psp.encM (repM n i q r))) := Lib.hid (kM_ok (m := repM n i q r) hn hok)
    have hkk : sealK K (repM n i q r) = sealL K (n, Psp.encM (repM n i q r)) := by unfold sealK; rw [if_pos hok]; rfl
    have hkl : sealK L (repM n i q r) = sealL L (n, Psp.encM (repM n i q r)) := by unfold sealK; rw [if_pos hok]; rfl
    have hos : okS K (repM n i q r) = okE (sealN K (n, Psp.encM (repM n i q r))) (Psp.encM (repM n i q r)) := by unfold okS; rw [hok]; rfl
    have hle := encM_le hok
    have HE : Hid (RdP w4 (fun b => w3.heap.size ≤ b) 1 (.slice A (Psp.encM (repM n i q r)).length cp) (Psp.encM (repM n i q r)).length ((Psp.encM (repM n i q r)).map bv)) := Lib.hid hrb
    have HSl3 : Hid (∀ b, T b → b < w3.heap.size) := Lib.hid HT.out.lt
    have hbm3 : bm < w3.heap.size := HT.out.nt.lt.2
    have HKK := Lib.hid hkk
    have HKL := Lib.hid hkl
    have HOS := Lib.hid hos
    clear hby hok hrb hkk hkl hos
    replace Ht := Lib.hid (Ht.out.below hbq)
    replace Hm := Lib.hid (Hm.out.below hbq)
    replace HT := Lib.hid (HT.out.below hbq)
    replace HB := Lib.hid (Below.then HB.out hbq HB.out.size)
    clear hbq
    have f_t0 : w4.cell? ⟨w.heap.size, 0, none⟩ = some (.pointer (some ⟨g, 0, none⟩)) := Ht.out.cell rfl
    have f_t1 : w4.cell? ⟨w.heap.size, 1, none⟩ = some (.pointer (some ⟨h, 0, none⟩)) := Ht.out.cell rfl
    have f_m1 : w4.cell? ⟨w.heap.size + 1, 1, none⟩ = some (.int .i64 n) := Hm.out.cell rfl
    obtain ⟨bb, hbb⟩ : ∃ bb, Psp.encM (repM n i q r) = bb := ⟨_, rfl⟩
    have HBb := Lib.hid hbb
    rw [hbb] at HE HK HKK HKL HOS hle ⊢
    clear hbb
    go_wp2_with fail
    clear f_t0 f_t1 f_m1
    refine (two_sealv T g bm h K L n bb _ w4 (fun b => w3.heap.size ≤ b) HT.out HK.out hl hl2 HE.out (fun b (hb : w3.heap.size ≤ b) => ⟨fun hh => by have := HSl3.out b hh; omega, by omega⟩)).mono ?_
    rintro e w5 ⟨rfl, S', hT', hS', hF'⟩
    obtain ⟨sv, hsv⟩ : ∃ sv, sealN K (n, bb) = sv := ⟨_, rfl⟩
    rw [hsv] at HOS ⊢
    have HSV := Lib.hid hsv
    rw [← HKK.out, ← HKL.out] at hT'
    have HE5 : Hid (RdP w5 (fun b => b < w5.heap.size) 1 (.slice A bb.length cp) bb.length (bb.map bv)) := Lib.hid (HE.out.keeps ⟨hF'.size, fun b hb hlt => ⟨hF'.block b hlt (by rintro (hh | hh); (have := HSl3.out b hh; have hb' : w3.heap.size ≤ b := hb; omega); (have hb' : w3.heap.size ≤ b := hb; omega)), by have := hF'.size; omega⟩⟩)
    have HT5 := Lib.hid hT'
    have HS5 := Lib.hid hS'
    have hfw : Fp (fun b => T b ∨ b = bm) w w5 := (Fp.of_below HB.out _).trans hF' fun k hk => .inl hk
    have HF5 := Lib.hid hfw
    have hzw4 := HB.out.size
    have hz5 := hF'.size
    clear hsv hT' hS' hF' hfw HE
    go_wp2_with fail
    refine (renv_any sv bb _ w5 HE5.out (by omega)).mono ?_
    intro e w6 hby
    obtain ⟨bs, hbs⟩ : ∃ bs, res (Psp.encN sv ++ bb) (okE sv bb) = bs := ⟨_, rfl⟩
    obtain ⟨A6, c6, rfl, hrb, hbq⟩ := hby.rdb hbs rfl
    have HRB := Lib.hid hrb
    have HBS := Lib.hid hbs
    have hb5 : Fp (fun b => T b ∨ b = bm) w w6 := HF5.out.trans (Fp.of_below hbq _) fun k hk => .inl hk
    have hT6 := HT5.out.below hbq
    have HB6 := Lib.hid hb5
    have HT6 := Lib.hid hT6
    have HSl5 : Hid (∀ b, S' b → b < w5.heap.size) := Lib.hid HT5.out.lt
    have hbm5 : bm < w5.heap.size := HT5.out.nt.lt.2
    clear hby hrb hbs hbq hb5 hT6
    go_wp2_with fail
    go_ret
    have hfin : res (envB K (repM n i q r)) (okS K (repM n i q r)) = bs := by
      have h1 : envB K (repM n i q r) = Psp.encN sv ++ bb := by unfold envB; rw [HBb.out, show kM (repM n i q r) = (n, bb) by unfold kM; rw [HBb.out]; rfl, HSV.out]
      rw [h1, HOS.out, HBS.out]
    refine ⟨A6, c6, S', ?_, HT6.out, fun b hb => ?_, HB6.out, ?_⟩
    · rw [hfin]; rfl
    · rcases HS5.out b hb with h1 | h1
      · exact .inl h1
      · right; omega
    · rw [hfin]
      exact HRB.out.mono fun b hb hP => ⟨by have hP' : w5.heap.size ≤ b := hP; omega, hb, fun hh => by have hP' : w5.heap.size ≤ b := hP; have := HSl5.out b hh; omega, by have hP' : w5.heap.size ≤ b := hP; omega⟩
end Go.Proofs.YtipmjleohadoeaaGreat
