/- The walks of package pack's writer: certificates, parts, lists of them. Printed by gen_pack.py. -/
import Derived.Test.YtadaejpodjhkdaaPl
namespace Go.Proofs.Ytadaejpodjhkdaa
open Go.RowKit
set_option linter.unusedVariables false

theorem sizeC : (Try.prog.info? 87).map (·.size) = some 5 := by kernel_rfl
theorem sizeP : (Try.prog.info? 109).map (·.size) = some 4 := by kernel_rfl

set_option maxRecDepth 100000 in
theorem cert_wr (v i q : Int) (vb vo : Value) (lb : List Psp.Req) (lo : List Psp.Vote) (S : Nat → Prop) (g : Nat) (out : List UInt8) (bad : Bool) (w : World) (hW : Wr 81 w S g out bad)
    (h1 : RdP w (fun b => ¬ S b) 6 vb lb.length (lb.flatMap rq)) (h2 : RdP w (fun b => ¬ S b) 2 vo lo.length (lo.flatMap vt)) (hb : out.length + 12318 ≤ 1099511627776) :
    Calls Try.prog 48 #[.pointer (some ⟨g, 0, none⟩), .agg #[.int .i64 v, .int .i64 i, .int .i64 q, vb, vo]] w (WrOk 81 (Psp.encC ⟨v, i, q, lb, lo⟩) (Psp.okC ⟨v, i, q, lb, lo⟩) 12318 S g out bad w) := by
  have H1 := Lib.hid h1
  have H2 := Lib.hid h2
  obtain ⟨_, A1, c1, rfl, _, _, _⟩ := h1.parts
  obtain ⟨_, A2, c2, rfl, _, _, _⟩ := h2.parts
  obtain ⟨nb, hnb⟩ : ∃ n, lb.length = n := ⟨_, rfl⟩
  obtain ⟨no, hno⟩ : ∃ n, lo.length = n := ⟨_, rfl⟩
  rw [hnb] at H1 ⊢
  rw [hno] at H2 ⊢
  have Hnb := Lib.hid hnb
  have Hno := Lib.hid hno
  have HW := Lib.hid (hW.below (alloc_below w (.cells #[.int .i64 v, .int .i64 i, .int .i64 q, .slice A1 nb c1, .slice A2 no c2] 87)))
  have hS : ¬ S w.heap.size := hW.off (Nat.le_refl _)
  have Hl0 := Lib.hid (lies_new w [iv v, iv i, iv q, .slice A1 nb c1, .slice A2 no c2] 87 _ rfl)
  have Hr1 := Lib.hid (H1.out.below (alloc_below w (.cells #[.int .i64 v, .int .i64 i, .int .i64 q, .slice A1 nb c1, .slice A2 no c2] 87)))
  have Hr2 := Lib.hid (H2.out.below (alloc_below w (.cells #[.int .i64 v, .int .i64 i, .int .i64 q, .slice A1 nb c1, .slice A2 no c2] 87)))
  have hz0 : w.heap.size < (w.alloc (.cells #[.int .i64 v, .int .i64 i, .int .i64 q, .slice A1 nb c1, .slice A2 no c2] 87)).heap.size := by simp
  have Hz0 := Lib.hid hz0
  clear hW hz0 h1 h2 hnb hno
  go_enter Try.func48, Try.ntmps48
  go_wp2_with fail
  have h1 : WrS 81 [] true 0 S g out bad (w.alloc (.cells #[.int .i64 v, .int .i64 i, .int .i64 q, .slice A1 nb c1, .slice A2 no c2] 87)) S out bad ((w.alloc (.cells #[.int .i64 v, .int .i64 i, .int .i64 q, .slice A1 nb c1, .slice A2 no c2] 87)).alloc (.cells #[.int .i64 v, .int .i64 i, .int .i64 q] 3)) := (WrS.start HW.out).below (alloc_below _ _)
  refine (numbers_wr [v, i, q] 3 (w.heap.size + 1) S g out bad _ h1.wr rfl (lies_new _ [iv v, iv i, iv q] _ _ (by simp)) (by simp) (HW.out.off (by simp)) (by omega) (by omega)).mono ?_
  intro e w2 hc
  obtain ⟨rfl, S2, o2, b2, h2⟩ := h1.step hc
  have hbx := h2.lies Hl0.out Hz0.out hS
  have x3 := hbx.at_ (j := 3) (by simp)
  simp only [Nat.zero_add, List.getElem_cons_succ, List.getElem_cons_zero, iv] at x3
  have hl2 := h2.wrote.islen
  have H2 := Lib.hid h2
  clear h2 hc h1 hbx
  go_wp2_with fail
  refine (listR_wr lb nb _ S2 g o2 b2 _ H2.out.wr Hnb.out (H2.out.rd Hr1.out) (by omega)).mono ?_
  intro e w3 hc
  obtain ⟨rfl, S3, o3, b3, h4⟩ := H2.out.step hc
  have hbx := h4.lies Hl0.out Hz0.out hS
  have x4 := hbx.at_ (j := 4) (by simp)
  simp only [Nat.zero_add, List.getElem_cons_succ, List.getElem_cons_zero, iv] at x4
  have hl3 := h4.wrote.islen
  have H4 := Lib.hid h4
  clear hc h4 hbx x3
  go_wp2_with fail
  refine (listV_wr lo no _ S3 g o3 b3 _ H4.out.wr Hno.out (H4.out.rd Hr2.out) (by omega)).mono ?_
  intro e w4 hc
  obtain ⟨rfl, S4, o4, b4, h6⟩ := H4.out.step hc
  have H6 := Lib.hid h6
  clear hc h6 x4
  go_wp2_with fail
  go_end0
  exact ((H6.out.of (by simp [Psp.encC]) (by simp [Psp.okC, Bool.and_assoc])).done (by omega)).from_ (alloc_below _ _)

set_option maxRecDepth 100000 in
theorem listC_wr (l : List CertV) (n : Nat) (x : Value) (S : Nat → Prop) (g : Nat) (out : List UInt8) (bad : Bool) (w : World) (hW : Wr 81 w S g out bad) (hn : l.length = n)
    (hx : RdP w (fun b => ¬ S b) 5 x n (l.flatMap cv)) (hc : ∀ y ∈ l, CertOk w (fun b => ¬ S b) y) (hb : out.length + 3153414 ≤ 1099511627776) :
    Calls Try.prog 47 #[.pointer (some ⟨g, 0, none⟩), x, .func (.func 48) #[] #[]] w (WrOk 81 (Psp.encL Psp.encC (l.map (·.c))) (Psp.okL Psp.okC (l.map (·.c))) 3153414 S g out bad w) := by
  have he : (l.map (·.c)).length = n := by rw [List.length_map]; exact hn
  have He := Lib.hid he
  have Hn := Lib.hid hn
  obtain ⟨hxl, A, cp, rfl, hc1, hc2, hxc⟩ := hx.parts
  have Hxc := Lib.hid hxc
  by_cases h256 : 256 < n
  · have d1 : decide (256 < (n : Int)) = true := by simp; omega
    obtain ⟨hs1, hs2⟩ := hW.setBad true
    obtain ⟨A2, c2, hd1, hd2, k0, k1, z0, z1, hown, hSS⟩ := hW.cells
    have Hs1 := Lib.hid hs1
    have Hs2 := Lib.hid hs2
    clear hs1 hs2 hW hn he hx hxl hxc
    go_enter Try.func47, Try.ntmps47
    go_wp2_with fail
    go_end0
    refine ⟨rfl, out, true, ⟨?_, (fun h => by cases h), by omega⟩, Hs1.out.wider (fun k hk => Or.inl hk) (fun k hk => ?_), Hs2.out⟩
    · have : Psp.okL Psp.okC (l.map (·.c)) = false := by unfold Psp.okL; rw [He.out, decide_eq_false (by omega)]; rfl
      rw [this]; simp
    · rcases hk with hk | hk
      · exact Hs1.out.lt k hk
      · exact hk.2
  · have d1 : decide (256 < (n : Int)) = false := by simp; omega
    have HW := Lib.hid hW
    clear hW hn he hx hxl hxc
    go_enter Try.func47, Try.ntmps47
    go_wp2_with fail
    have h1 := (WrS.start HW.out).below (alloc_below w (.cells #[.int .i64 (n : Int)] 3))
    refine (numbers_wr [(n : Int)] 1 w.heap.size S g out bad _ h1.wr rfl (lies_new _ [iv (n : Int)] _ _ rfl) (by simp) (HW.out.off (by omega)) (by omega) (by omega)).mono ?_
    intro e w2 hc
    obtain ⟨rfl, S2, o2, b2, h2⟩ := h1.step hc
    have h3 : WrS 81 (Psp.encN n ++ ((l.map (·.c)).take 0).flatMap Psp.encC) (true && ((l.map (·.c)).take 0).all Psp.okC) (6 + 0 * 12318) S g out bad w S2 o2 b2 w2 := h2.of (by simp) (by simp [Psp.okN]; omega)
    have H3 := Lib.hid h3
    clear h1 hc h2 h3
    go_wp2_with fail
    go_loopw [21] (fun i wr => ∃ (k : Nat) (S' : Nat → Prop) (out' : List UInt8) (bad' : Bool), i = .int .i64 (k : Int) ∧ k ≤ n ∧ WrS 81 (Psp.encN n ++ ((l.map (·.c)).take k).flatMap Psp.encC) (true && ((l.map (·.c)).take k).all Psp.okC) (6 + k * 12318) S g out bad w S' out' bad' wr) (fun i _ => n - (intOf i).toNat)
    case atStart => exact ⟨0, S2, o2, b2, rfl, Nat.zero_le _, H3.out⟩
    case round =>
      obtain ⟨k, S', out', bad', rfl, hk, hI⟩ := hrel
      by_cases hlt : k < n
      · obtain ⟨b, o, hAe, hbS, hb, hlies⟩ := Hxc.out (by omega)
        subst hAe
        have hkl : k < l.length := by have := Hn.out; omega
        have hkl2 : k < (l.map (·.c)).length := by have := He.out; omega
        have hfl := Psp.flat_step Psp.encC hkl2
        have hal := Psp.all_step Psp.okC hkl2
        have hlen := hI.wrote.islen
        have hk256 : (k + 1) * 12318 ≤ 256 * 12318 := Nat.mul_le_mul_right _ (by omega)
        rw [Nat.succ_mul] at hk256
        obtain ⟨t, ht⟩ : ∃ t, l[k] = t := ⟨_, rfl⟩
        have hrg := range_elem (f := cv) (k := 5) (fun _ => rfl) (hI.lies hlies hb hbS) hkl
        rw [List.getElem_map, ht] at hfl hal
        rw [ht] at hrg
        have Hrg := Lib.hid hrg
        have Hfl := Lib.hid hfl
        have Hal := Lib.hid hal
        have HI := Lib.hid hI
        have Hok := Lib.hid (hc t (by rw [← ht]; exact List.getElem_mem hkl))
        have Hone := Lib.hid (show t.b.oneCell' = true ∧ t.o.oneCell' = true from ⟨Hok.out.1.one, Hok.out.2.one⟩)
        clear hlies hrg hfl hal hI hkl hkl2 ht
        go_wp2_with (first | (refine list_load rfl 87 (.tmp 23) rfl b (o + k * 5) rfl (cv t) _ ?_ Try.underlying87 rfl sizeC ?_; exact Hrg.out) | (refine list_store_new rfl 87 (.tmp 7) (.tmp 24) rfl _ _ (cv t) rfl rfl rfl sizeC (by simp [cv, iv, Value.oneCell']; exact ⟨Hone.out.1, Hone.out.2⟩) ?_; intro wa hba hra hsa; have Hba := Lib.hid hba; have Hra := Lib.hid hra; clear hba hra hsa) | (refine list_load rfl 87 (.tmp 7) rfl wr.heap.size 0 rfl [.int .i64 t.c.v, .int .i64 t.c.i, .int .i64 t.c.q, t.b, t.o] _ ?_ Try.underlying87 rfl sizeC ?_; exact Hra.out))
        have h4 := HI.out.below Hba.out
        refine (cert_wr t.c.v t.c.i t.c.q t.b t.o t.c.b t.c.o S' g out' bad' _ h4.wr (h4.rd Hok.out.1) (h4.rd Hok.out.2) (by omega)).mono ?_
        intro e w3 hc
        obtain ⟨rfl, S3, o3, b3, h5⟩ := h4.step hc
        have H5 := Lib.hid (h5.of (show (Psp.encN n ++ ((l.map (·.c)).take k).flatMap Psp.encC) ++ Psp.encC t.c = Psp.encN n ++ ((l.map (·.c)).take (k + 1)).flatMap Psp.encC by rw [Hfl.out, List.append_assoc]) (show ((true && ((l.map (·.c)).take k).all Psp.okC) && Psp.okC t.c) = (true && ((l.map (·.c)).take (k + 1)).all Psp.okC) by rw [Hal.out, Bool.and_assoc]))
        clear h4 hc h5
        go_wp2_with fail
        go_roundw
        case rel => exact ⟨k + 1, S3, o3, b3, by go_num, by omega, ⟨H5.out.wrote.more (by rw [Nat.succ_mul]; omega), H5.out.wr, H5.out.fp, H5.out.sub, H5.out.sup⟩⟩
        case measure => simp [intOf]; omega
      · obtain rfl : k = n := by omega
        have hE := He.out
        go_wp2_with fail
        go_end0
        rw [List.take_of_length_le (by omega)] at hI
        have h6 : Psp.okL Psp.okC (l.map (·.c)) = (true && (l.map (·.c)).all Psp.okC) := by unfold Psp.okL; rw [decide_eq_true (by omega)]
        have h7 : Psp.encL Psp.encC (l.map (·.c)) = Psp.encN k ++ (l.map (·.c)).flatMap Psp.encC := by unfold Psp.encL; rw [hE]
        rw [h6, h7]
        exact hI.done (by have : k * 12318 ≤ 256 * 12318 := Nat.mul_le_mul_right _ (by omega); omega)

set_option maxRecDepth 100000 in
theorem part_wr (f : Int) (vo vc : Value) (s : Int) (lo : List Psp.Vote) (lc : List Psp.Cert) (S : Nat → Prop) (g : Nat) (out : List UInt8) (bad : Bool) (w : World) (hW : Wr 81 w S g out bad)
    (h1 : RdP w (fun b => ¬ S b) 2 vo lo.length (lo.flatMap vt)) (h2 : RdC w (fun b => ¬ S b) vc lc) (hb : out.length + 3156504 ≤ 1099511627776) :
    Calls Try.prog 69 #[.pointer (some ⟨g, 0, none⟩), .agg #[.int .i64 f, vo, vc, .int .i64 s]] w (WrOk 81 (Psp.encP ⟨f, lo, lc, s⟩) (Psp.okP ⟨f, lo, lc, s⟩) 3156504 S g out bad w) := by
  have H1 := Lib.hid h1
  have H2 := Lib.hid h2
  obtain ⟨L0, _, hL0, _⟩ := h2
  obtain ⟨_, A1, c1, rfl, _, _, _⟩ := h1.parts
  obtain ⟨_, A2, c2, rfl, _, _, _⟩ := hL0.parts
  obtain ⟨nc, hnc⟩ : ∃ n, L0.length = n := ⟨_, rfl⟩
  obtain ⟨no, hno⟩ : ∃ n, lo.length = n := ⟨_, rfl⟩
  rw [hno] at H1 ⊢
  rw [hnc] at H2 ⊢
  have Hno := Lib.hid hno
  have HW := Lib.hid (hW.below (alloc_below w (.cells #[.int .i64 f, .slice A1 no c1, .slice A2 nc c2, .int .i64 s] 109)))
  have hS : ¬ S w.heap.size := hW.off (Nat.le_refl _)
  have Hl0 := Lib.hid (lies_new w [iv f, .slice A1 no c1, .slice A2 nc c2, iv s] 109 _ rfl)
  have Hr1 := Lib.hid (H1.out.below (alloc_below w (.cells #[.int .i64 f, .slice A1 no c1, .slice A2 nc c2, .int .i64 s] 109)))
  have Hr2 := Lib.hid (H2.out.below (alloc_below w (.cells #[.int .i64 f, .slice A1 no c1, .slice A2 nc c2, .int .i64 s] 109)))
  have hz0 : w.heap.size < (w.alloc (.cells #[.int .i64 f, .slice A1 no c1, .slice A2 nc c2, .int .i64 s] 109)).heap.size := by simp
  have Hz0 := Lib.hid hz0
  clear hW hz0 h1 hL0 hno hnc
  go_enter Try.func69, Try.ntmps69
  go_wp2_with fail
  have h1 : WrS 81 [] true 0 S g out bad (w.alloc (.cells #[.int .i64 f, .slice A1 no c1, .slice A2 nc c2, .int .i64 s] 109)) S out bad ((w.alloc (.cells #[.int .i64 f, .slice A1 no c1, .slice A2 nc c2, .int .i64 s] 109)).alloc (.cells #[.int .i64 f] 3)) := (WrS.start HW.out).below (alloc_below _ _)
  refine (numbers_wr [f] 1 (w.heap.size + 1) S g out bad _ h1.wr rfl (lies_new _ [iv f] _ _ (by simp)) (by simp) (HW.out.off (by simp)) (by omega) (by omega)).mono ?_
  intro e w2 hc
  obtain ⟨rfl, S2, o2, b2, h2⟩ := h1.step hc
  have hbx := h2.lies Hl0.out Hz0.out hS
  have x1 := hbx.at_ (j := 1) (by simp)
  simp only [Nat.zero_add, List.getElem_cons_succ, List.getElem_cons_zero, iv] at x1
  have hl2 := h2.wrote.islen
  have H2 := Lib.hid h2
  clear h2 hc h1 hbx
  go_wp2_with fail
  refine (listV_wr lo no _ S2 g o2 b2 _ H2.out.wr Hno.out (H2.out.rd Hr1.out) (by omega)).mono ?_
  intro e w3 hc
  obtain ⟨rfl, S3, o3, b3, h4⟩ := H2.out.step hc
  have hbx := h4.lies Hl0.out Hz0.out hS
  have x2 := hbx.at_ (j := 2) (by simp)
  simp only [Nat.zero_add, List.getElem_cons_succ, List.getElem_cons_zero, iv] at x2
  have hl3 := h4.wrote.islen
  have H4 := Lib.hid h4
  clear hc h4 hbx x1
  go_wp2_with fail
  obtain ⟨L, hL1, hL2, hL3⟩ := H4.out.rdC Hr2.out
  have hLn : L.length = nc := by
    obtain ⟨_, A, c, e, _⟩ := hL2
    injection e with _ e _
    exact e.symm
  rw [hLn] at hL2
  have HL1 := Lib.hid hL1
  refine (listC_wr L nc _ S3 g o3 b3 _ H4.out.wr hLn hL2 hL3 (by omega)).mono ?_
  intro e w4 hc
  rw [HL1.out] at hc
  obtain ⟨rfl, S4, o4, b4, h6⟩ := H4.out.step hc
  have hbx := h6.lies Hl0.out Hz0.out hS
  have x3 := hbx.at_ (j := 3) (by simp)
  simp only [Nat.zero_add, List.getElem_cons_succ, List.getElem_cons_zero, iv] at x3
  have hl4 := h6.wrote.islen
  have H6 := Lib.hid h6
  clear hc h6 x2 hbx hL1 hL2 hL3 hLn
  go_wp2_with fail
  have h5 := H6.out.below (alloc_below w4 (.cells #[.int .i64 s] 3))
  refine (numbers_wr [s] 1 w4.heap.size S4 g o4 b4 _ h5.wr rfl (lies_new _ [iv s] _ _ rfl) (by simp) (H6.out.wr.off (by omega)) (by omega) (by omega)).mono ?_
  intro e w5 hc
  obtain ⟨rfl, S5, o5, b5, h7⟩ := h5.step hc
  have H7 := Lib.hid h7
  clear hc h5 h7 x3
  go_wp2_with fail
  go_end0
  exact ((H7.out.of (by simp [Psp.encP]) (by simp [Psp.okP, Bool.and_assoc])).done (by omega)).from_ (alloc_below _ _)

set_option maxRecDepth 100000 in
theorem listP_wr (l : List PartV) (n : Nat) (x : Value) (S : Nat → Prop) (g : Nat) (out : List UInt8) (bad : Bool) (w : World) (hW : Wr 81 w S g out bad) (hn : l.length = n)
    (hx : RdP w (fun b => ¬ S b) 4 x n (l.flatMap pv)) (hc : ∀ y ∈ l, PartOk w (fun b => ¬ S b) y) (hb : out.length + 808065030 ≤ 1099511627776) :
    Calls Try.prog 68 #[.pointer (some ⟨g, 0, none⟩), x, .func (.func 69) #[] #[]] w (WrOk 81 (Psp.encL Psp.encP (l.map (·.p))) (Psp.okL Psp.okP (l.map (·.p))) 808065030 S g out bad w) := by
  have he : (l.map (·.p)).length = n := by rw [List.length_map]; exact hn
  have He := Lib.hid he
  have Hn := Lib.hid hn
  obtain ⟨hxl, A, cp, rfl, hc1, hc2, hxc⟩ := hx.parts
  have Hxc := Lib.hid hxc
  by_cases h256 : 256 < n
  · have d1 : decide (256 < (n : Int)) = true := by simp; omega
    obtain ⟨hs1, hs2⟩ := hW.setBad true
    obtain ⟨A2, c2, hd1, hd2, k0, k1, z0, z1, hown, hSS⟩ := hW.cells
    have Hs1 := Lib.hid hs1
    have Hs2 := Lib.hid hs2
    clear hs1 hs2 hW hn he hx hxl hxc
    go_enter Try.func68, Try.ntmps68
    go_wp2_with fail
    go_end0
    refine ⟨rfl, out, true, ⟨?_, (fun h => by cases h), by omega⟩, Hs1.out.wider (fun k hk => Or.inl hk) (fun k hk => ?_), Hs2.out⟩
    · have : Psp.okL Psp.okP (l.map (·.p)) = false := by unfold Psp.okL; rw [He.out, decide_eq_false (by omega)]; rfl
      rw [this]; simp
    · rcases hk with hk | hk
      · exact Hs1.out.lt k hk
      · exact hk.2
  · have d1 : decide (256 < (n : Int)) = false := by simp; omega
    have HW := Lib.hid hW
    clear hW hn he hx hxl hxc
    go_enter Try.func68, Try.ntmps68
    go_wp2_with fail
    have h1 := (WrS.start HW.out).below (alloc_below w (.cells #[.int .i64 (n : Int)] 3))
    refine (numbers_wr [(n : Int)] 1 w.heap.size S g out bad _ h1.wr rfl (lies_new _ [iv (n : Int)] _ _ rfl) (by simp) (HW.out.off (by omega)) (by omega) (by omega)).mono ?_
    intro e w2 hc
    obtain ⟨rfl, S2, o2, b2, h2⟩ := h1.step hc
    have h3 : WrS 81 (Psp.encN n ++ ((l.map (·.p)).take 0).flatMap Psp.encP) (true && ((l.map (·.p)).take 0).all Psp.okP) (6 + 0 * 3156504) S g out bad w S2 o2 b2 w2 := h2.of (by simp) (by simp [Psp.okN]; omega)
    have H3 := Lib.hid h3
    clear h1 hc h2 h3
    go_wp2_with fail
    go_loopw [21] (fun i wr => ∃ (k : Nat) (S' : Nat → Prop) (out' : List UInt8) (bad' : Bool), i = .int .i64 (k : Int) ∧ k ≤ n ∧ WrS 81 (Psp.encN n ++ ((l.map (·.p)).take k).flatMap Psp.encP) (true && ((l.map (·.p)).take k).all Psp.okP) (6 + k * 3156504) S g out bad w S' out' bad' wr) (fun i _ => n - (intOf i).toNat)
    case atStart => exact ⟨0, S2, o2, b2, rfl, Nat.zero_le _, H3.out⟩
    case round =>
      obtain ⟨k, S', out', bad', rfl, hk, hI⟩ := hrel
      by_cases hlt : k < n
      · obtain ⟨b, o, hAe, hbS, hb, hlies⟩ := Hxc.out (by omega)
        subst hAe
        have hkl : k < l.length := by have := Hn.out; omega
        have hkl2 : k < (l.map (·.p)).length := by have := He.out; omega
        have hfl := Psp.flat_step Psp.encP hkl2
        have hal := Psp.all_step Psp.okP hkl2
        have hlen := hI.wrote.islen
        have hk256 : (k + 1) * 3156504 ≤ 256 * 3156504 := Nat.mul_le_mul_right _ (by omega)
        rw [Nat.succ_mul] at hk256
        obtain ⟨t, ht⟩ : ∃ t, l[k] = t := ⟨_, rfl⟩
        have hrg := range_elem (f := pv) (k := 4) (fun _ => rfl) (hI.lies hlies hb hbS) hkl
        rw [List.getElem_map, ht] at hfl hal
        rw [ht] at hrg
        have Hrg := Lib.hid hrg
        have Hfl := Lib.hid hfl
        have Hal := Lib.hid hal
        have HI := Lib.hid hI
        have Hok := Lib.hid (hc t (by rw [← ht]; exact List.getElem_mem hkl))
        have Hone := Lib.hid (show t.o.oneCell' = true ∧ t.c.oneCell' = true from ⟨Hok.out.1.one, Hok.out.2.one⟩)
        clear hlies hrg hfl hal hI hkl hkl2 ht
        go_wp2_with (first | (refine list_load rfl 109 (.tmp 23) rfl b (o + k * 4) rfl (pv t) _ ?_ Try.underlying109 rfl sizeP ?_; exact Hrg.out) | (refine list_store_new rfl 109 (.tmp 7) (.tmp 24) rfl _ _ (pv t) rfl rfl rfl sizeP (by simp [pv, iv, Value.oneCell']; exact ⟨Hone.out.1, Hone.out.2⟩) ?_; intro wa hba hra hsa; have Hba := Lib.hid hba; have Hra := Lib.hid hra; clear hba hra hsa) | (refine list_load rfl 109 (.tmp 7) rfl wr.heap.size 0 rfl [.int .i64 t.p.f, t.o, t.c, .int .i64 t.p.s] _ ?_ Try.underlying109 rfl sizeP ?_; exact Hra.out))
        have h4 := HI.out.below Hba.out
        refine (part_wr t.p.f t.o t.c t.p.s t.p.o t.p.c S' g out' bad' _ h4.wr (h4.rd Hok.out.1) (h4.rdC Hok.out.2) (by omega)).mono ?_
        intro e w3 hc
        obtain ⟨rfl, S3, o3, b3, h5⟩ := h4.step hc
        have H5 := Lib.hid (h5.of (show (Psp.encN n ++ ((l.map (·.p)).take k).flatMap Psp.encP) ++ Psp.encP t.p = Psp.encN n ++ ((l.map (·.p)).take (k + 1)).flatMap Psp.encP by rw [Hfl.out, List.append_assoc]) (show ((true && ((l.map (·.p)).take k).all Psp.okP) && Psp.okP t.p) = (true && ((l.map (·.p)).take (k + 1)).all Psp.okP) by rw [Hal.out, Bool.and_assoc]))
        clear h4 hc h5
        go_wp2_with fail
        go_roundw
        case rel => exact ⟨k + 1, S3, o3, b3, by go_num, by omega, ⟨H5.out.wrote.more (by rw [Nat.succ_mul]; omega), H5.out.wr, H5.out.fp, H5.out.sub, H5.out.sup⟩⟩
        case measure => simp [intOf]; omega
      · obtain rfl : k = n := by omega
        have hE := He.out
        go_wp2_with fail
        go_end0
        rw [List.take_of_length_le (by omega)] at hI
        have h6 : Psp.okL Psp.okP (l.map (·.p)) = (true && (l.map (·.p)).all Psp.okP) := by unfold Psp.okL; rw [decide_eq_true (by omega)]
        have h7 : Psp.encL Psp.encP (l.map (·.p)) = Psp.encN k ++ (l.map (·.p)).flatMap Psp.encP := by unfold Psp.encL; rw [hE]
        rw [h6, h7]
        exact hI.done (by have : k * 3156504 ≤ 256 * 3156504 := Nat.mul_le_mul_right _ (by omega); omega)

end Go.Proofs.Ytadaejpodjhkdaa
