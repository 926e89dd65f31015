/- The walks of package pack's writer: lists. Printed by gen_pack.py. -/
import Derived.Test.YtadaejpodjhkdaaPw2
namespace Go.Proofs.Ytadaejpodjhkdaa
open Go.RowKit
set_option linter.unusedVariables false

theorem range_elem {α : Type} {f : α → List Value} {k : Nat} (hf : ∀ a, (f a).length = k) {w : World} {b o : Nat} {l : List α} (h : Lies w b o (l.flatMap f)) {i : Nat} (hi : i < l.length) : w.rangeAt b (o + i * k) (f l[i]) := by
  intro j v hv
  have hj : j < k := by have := (List.getElem?_eq_some_iff.1 hv).1; rwa [hf] at this
  have h1 := flat_get (f := f) (k := k) hf l i j hj
  rw [List.getElem?_eq_getElem hi] at h1
  rw [Nat.add_assoc]
  exact h _ v (by rw [h1]; exact hv)
theorem sizeR : (Try.prog.info? 31).map (·.size) = some 6 := by kernel_rfl
theorem sizeV : (Try.prog.info? 43).map (·.size) = some 2 := by kernel_rfl

set_option maxRecDepth 100000 in
theorem listR_wr (l : List Psp.Req) (n : Nat) (x : Value) (S : Nat → Prop) (g : Nat) (out : List UInt8) (bad : Bool) (w : World) (hW : Wr 81 w S g out bad) (hn : l.length = n)
    (hx : RdP w (fun b => ¬ S b) 6 x n (l.flatMap rq)) (hb : out.length + 9222 ≤ 1099511627776) :
    Calls Try.prog 46 #[.pointer (some ⟨g, 0, none⟩), x, .func (.func 44) #[] #[]] w (WrOk 81 (Psp.encL Psp.encR l) (Psp.okL Psp.okR l) 9222 S g out bad w) := by
  have he : l.length = n := by exact hn
  have He := Lib.hid he
  have Hn := Lib.hid hn
  obtain ⟨hxl, A, cp, rfl, hc1, hc2, hxc⟩ := hx.parts
  have Hxc := Lib.hid hxc
  by_cases h256 : 256 < n
  · have d1 : decide (256 < (n : Int)) = true := by simp; omega
    obtain ⟨hs1, hs2⟩ := hW.setBad true
    obtain ⟨A2, c2, hd1, hd2, k0, k1, z0, z1, hown, hSS⟩ := hW.cells
    have Hs1 := Lib.hid hs1
    have Hs2 := Lib.hid hs2
    clear hs1 hs2 hW hn he hx hxl hxc
    go_enter Try.func46, Try.ntmps46
    go_wp2_with fail
    go_end0
    refine ⟨rfl, out, true, ⟨?_, (fun h => by cases h), by omega⟩, Hs1.out.wider (fun k hk => Or.inl hk) (fun k hk => ?_), Hs2.out⟩
    · have : Psp.okL Psp.okR l = false := by unfold Psp.okL; rw [He.out, decide_eq_false (by omega)]; rfl
      rw [this]; simp
    · rcases hk with hk | hk
      · exact Hs1.out.lt k hk
      · exact hk.2
  · have d1 : decide (256 < (n : Int)) = false := by simp; omega
    have HW := Lib.hid hW
    clear hW hn he hx hxl hxc
    go_enter Try.func46, Try.ntmps46
    go_wp2_with fail
    have h1 := (WrS.start HW.out).below (alloc_below w (.cells #[.int .i64 (n : Int)] 3))
    refine (numbers_wr [(n : Int)] 1 w.heap.size S g out bad _ h1.wr rfl (lies_new _ [iv (n : Int)] _ _ rfl) (by simp) (HW.out.off (by omega)) (by omega) (by omega)).mono ?_
    intro e w2 hc
    obtain ⟨rfl, S2, o2, b2, h2⟩ := h1.step hc
    have h3 : WrS 81 (Psp.encN n ++ (l.take 0).flatMap Psp.encR) (true && (l.take 0).all Psp.okR) (6 + 0 * 36) S g out bad w S2 o2 b2 w2 := h2.of (by simp) (by simp [Psp.okN]; omega)
    have H3 := Lib.hid h3
    clear h1 hc h2 h3
    go_wp2_with fail
    go_loopw [21] (fun i wr => ∃ (k : Nat) (S' : Nat → Prop) (out' : List UInt8) (bad' : Bool), i = .int .i64 (k : Int) ∧ k ≤ n ∧ WrS 81 (Psp.encN n ++ (l.take k).flatMap Psp.encR) (true && (l.take k).all Psp.okR) (6 + k * 36) S g out bad w S' out' bad' wr) (fun i _ => n - (intOf i).toNat)
    case atStart => exact ⟨0, S2, o2, b2, rfl, Nat.zero_le _, H3.out⟩
    case round =>
      obtain ⟨k, S', out', bad', rfl, hk, hI⟩ := hrel
      by_cases hlt : k < n
      · obtain ⟨b, o, hAe, hbS, hb, hlies⟩ := Hxc.out (by omega)
        subst hAe
        have hkl : k < l.length := by have := Hn.out; omega
        have hkl2 : k < l.length := by have := He.out; omega
        have hfl := Psp.flat_step Psp.encR hkl2
        have hal := Psp.all_step Psp.okR hkl2
        have hlen := hI.wrote.islen
        have hk256 : (k + 1) * 36 ≤ 256 * 36 := Nat.mul_le_mul_right _ (by omega)
        rw [Nat.succ_mul] at hk256
        obtain ⟨t, ht⟩ : ∃ t, l[k] = t := ⟨_, rfl⟩
        have hrg := range_elem (f := rq) (k := 6) (fun _ => rfl) (hI.lies hlies hb hbS) hkl
        rw [ht] at hfl hal
        rw [ht] at hrg
        have Hrg := Lib.hid hrg
        have Hfl := Lib.hid hfl
        have Hal := Lib.hid hal
        have HI := Lib.hid hI
        clear hlies hrg hfl hal hI hkl hkl2 ht
        go_wp2_with (first | (refine list_load rfl 31 (.tmp 23) rfl b (o + k * 6) rfl (rq t) _ ?_ Try.underlying31 rfl sizeR ?_; exact Hrg.out) | (refine list_store_new rfl 31 (.tmp 7) (.tmp 24) rfl _ _ (rq t) rfl rfl rfl sizeR (by simp [rq, iv, Value.oneCell']) ?_; intro wa hba hra hsa; have Hba := Lib.hid hba; have Hra := Lib.hid hra; clear hba hra hsa) | (refine list_load rfl 31 (.tmp 7) rfl wr.heap.size 0 rfl [.int .i64 t.c, .int .i64 t.t, .int .i64 t.k, .int .i64 t.y, .int .i64 t.v, .int .i64 t.s] _ ?_ Try.underlying31 rfl sizeR ?_; exact Hra.out))
        have h4 := HI.out.below Hba.out
        refine (req_wr t.c t.t t.k t.y t.v t.s S' g out' bad' _ h4.wr (by omega)).mono ?_
        intro e w3 hc
        obtain ⟨rfl, S3, o3, b3, h5⟩ := h4.step hc
        have H5 := Lib.hid (h5.of (show (Psp.encN n ++ (l.take k).flatMap Psp.encR) ++ Psp.encR t = Psp.encN n ++ (l.take (k + 1)).flatMap Psp.encR by rw [Hfl.out, List.append_assoc]) (show ((true && (l.take k).all Psp.okR) && Psp.okR t) = (true && (l.take (k + 1)).all Psp.okR) by rw [Hal.out, Bool.and_assoc]))
        clear h4 hc h5
        go_wp2_with fail
        go_roundw
        case rel => exact ⟨k + 1, S3, o3, b3, by go_num, by omega, ⟨H5.out.wrote.more (by rw [Nat.succ_mul]; omega), H5.out.wr, H5.out.fp, H5.out.sub, H5.out.sup⟩⟩
        case measure => simp [intOf]; omega
      · obtain rfl : k = n := by omega
        have hE := He.out
        go_wp2_with fail
        go_end0
        rw [List.take_of_length_le (by omega)] at hI
        have h6 : Psp.okL Psp.okR l = (true && l.all Psp.okR) := by unfold Psp.okL; rw [decide_eq_true (by omega)]
        have h7 : Psp.encL Psp.encR l = Psp.encN k ++ l.flatMap Psp.encR := by unfold Psp.encL; rw [hE]
        rw [h6, h7]
        exact hI.done (by have : k * 36 ≤ 256 * 36 := Nat.mul_le_mul_right _ (by omega); omega)

set_option maxRecDepth 100000 in
theorem listV_wr (l : List Psp.Vote) (n : Nat) (x : Value) (S : Nat → Prop) (g : Nat) (out : List UInt8) (bad : Bool) (w : World) (hW : Wr 81 w S g out bad) (hn : l.length = n)
    (hx : RdP w (fun b => ¬ S b) 2 x n (l.flatMap vt)) (hb : out.length + 3078 ≤ 1099511627776) :
    Calls Try.prog 50 #[.pointer (some ⟨g, 0, none⟩), x, .func (.func 51) #[] #[]] w (WrOk 81 (Psp.encL Psp.encV l) (Psp.okL Psp.okV l) 3078 S g out bad w) := by
  have he : l.length = n := by exact hn
  have He := Lib.hid he
  have Hn := Lib.hid hn
  obtain ⟨hxl, A, cp, rfl, hc1, hc2, hxc⟩ := hx.parts
  have Hxc := Lib.hid hxc
  by_cases h256 : 256 < n
  · have d1 : decide (256 < (n : Int)) = true := by simp; omega
    obtain ⟨hs1, hs2⟩ := hW.setBad true
    obtain ⟨A2, c2, hd1, hd2, k0, k1, z0, z1, hown, hSS⟩ := hW.cells
    have Hs1 := Lib.hid hs1
    have Hs2 := Lib.hid hs2
    clear hs1 hs2 hW hn he hx hxl hxc
    go_enter Try.func50, Try.ntmps50
    go_wp2_with fail
    go_end0
    refine ⟨rfl, out, true, ⟨?_, (fun h => by cases h), by omega⟩, Hs1.out.wider (fun k hk => Or.inl hk) (fun k hk => ?_), Hs2.out⟩
    · have : Psp.okL Psp.okV l = false := by unfold Psp.okL; rw [He.out, decide_eq_false (by omega)]; rfl
      rw [this]; simp
    · rcases hk with hk | hk
      · exact Hs1.out.lt k hk
      · exact hk.2
  · have d1 : decide (256 < (n : Int)) = false := by simp; omega
    have HW := Lib.hid hW
    clear hW hn he hx hxl hxc
    go_enter Try.func50, Try.ntmps50
    go_wp2_with fail
    have h1 := (WrS.start HW.out).below (alloc_below w (.cells #[.int .i64 (n : Int)] 3))
    refine (numbers_wr [(n : Int)] 1 w.heap.size S g out bad _ h1.wr rfl (lies_new _ [iv (n : Int)] _ _ rfl) (by simp) (HW.out.off (by omega)) (by omega) (by omega)).mono ?_
    intro e w2 hc
    obtain ⟨rfl, S2, o2, b2, h2⟩ := h1.step hc
    have h3 : WrS 81 (Psp.encN n ++ (l.take 0).flatMap Psp.encV) (true && (l.take 0).all Psp.okV) (6 + 0 * 12) S g out bad w S2 o2 b2 w2 := h2.of (by simp) (by simp [Psp.okN]; omega)
    have H3 := Lib.hid h3
    clear h1 hc h2 h3
    go_wp2_with fail
    go_loopw [21] (fun i wr => ∃ (k : Nat) (S' : Nat → Prop) (out' : List UInt8) (bad' : Bool), i = .int .i64 (k : Int) ∧ k ≤ n ∧ WrS 81 (Psp.encN n ++ (l.take k).flatMap Psp.encV) (true && (l.take k).all Psp.okV) (6 + k * 12) S g out bad w S' out' bad' wr) (fun i _ => n - (intOf i).toNat)
    case atStart => exact ⟨0, S2, o2, b2, rfl, Nat.zero_le _, H3.out⟩
    case round =>
      obtain ⟨k, S', out', bad', rfl, hk, hI⟩ := hrel
      by_cases hlt : k < n
      · obtain ⟨b, o, hAe, hbS, hb, hlies⟩ := Hxc.out (by omega)
        subst hAe
        have hkl : k < l.length := by have := Hn.out; omega
        have hkl2 : k < l.length := by have := He.out; omega
        have hfl := Psp.flat_step Psp.encV hkl2
        have hal := Psp.all_step Psp.okV hkl2
        have hlen := hI.wrote.islen
        have hk256 : (k + 1) * 12 ≤ 256 * 12 := Nat.mul_le_mul_right _ (by omega)
        rw [Nat.succ_mul] at hk256
        obtain ⟨t, ht⟩ : ∃ t, l[k] = t := ⟨_, rfl⟩
        have hrg := range_elem (f := vt) (k := 2) (fun _ => rfl) (hI.lies hlies hb hbS) hkl
        rw [ht] at hfl hal
        rw [ht] at hrg
        have Hrg := Lib.hid hrg
        have Hfl := Lib.hid hfl
        have Hal := Lib.hid hal
        have HI := Lib.hid hI
        clear hlies hrg hfl hal hI hkl hkl2 ht
        go_wp2_with (first | (refine list_load rfl 43 (.tmp 23) rfl b (o + k * 2) rfl (vt t) _ ?_ Try.underlying43 rfl sizeV ?_; exact Hrg.out) | (refine list_store_new rfl 43 (.tmp 7) (.tmp 24) rfl _ _ (vt t) rfl rfl rfl sizeV (by simp [vt, iv, Value.oneCell']) ?_; intro wa hba hra hsa; have Hba := Lib.hid hba; have Hra := Lib.hid hra; clear hba hra hsa) | (refine list_load rfl 43 (.tmp 7) rfl wr.heap.size 0 rfl [.int .i64 t.n, .int .i64 t.s] _ ?_ Try.underlying43 rfl sizeV ?_; exact Hra.out))
        have h4 := HI.out.below Hba.out
        refine (vote_wr t.n t.s S' g out' bad' _ h4.wr (by omega)).mono ?_
        intro e w3 hc
        obtain ⟨rfl, S3, o3, b3, h5⟩ := h4.step hc
        have H5 := Lib.hid (h5.of (show (Psp.encN n ++ (l.take k).flatMap Psp.encV) ++ Psp.encV t = Psp.encN n ++ (l.take (k + 1)).flatMap Psp.encV by rw [Hfl.out, List.append_assoc]) (show ((true && (l.take k).all Psp.okV) && Psp.okV t) = (true && (l.take (k + 1)).all Psp.okV) by rw [Hal.out, Bool.and_assoc]))
        clear h4 hc h5
        go_wp2_with fail
        go_roundw
        case rel => exact ⟨k + 1, S3, o3, b3, by go_num, by omega, ⟨H5.out.wrote.more (by rw [Nat.succ_mul]; omega), H5.out.wr, H5.out.fp, H5.out.sub, H5.out.sup⟩⟩
        case measure => simp [intOf]; omega
      · obtain rfl : k = n := by omega
        have hE := He.out
        go_wp2_with fail
        go_end0
        rw [List.take_of_length_le (by omega)] at hI
        have h6 : Psp.okL Psp.okV l = (true && l.all Psp.okV) := by unfold Psp.okL; rw [decide_eq_true (by omega)]
        have h7 : Psp.encL Psp.encV l = Psp.encN k ++ l.flatMap Psp.encV := by unfold Psp.encL; rw [hE]
        rw [h6, h7]
        exact hI.done (by have : k * 12 ≤ 256 * 12 := Nat.mul_le_mul_right _ (by omega); omega)

end Go.Proofs.Ytadaejpodjhkdaa
