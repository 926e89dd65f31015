/- The walks of psephoskeep.Certs, Parts. Printed by gen_same3.py. -/
import Derived.Test.YtadaejpodjhkdaaPe
namespace Go.Proofs.Ytadaejpodjhkdaa
open Go.RowKit
set_option linter.unusedVariables false

set_option maxRecDepth 100000 in
set_option maxHeartbeats 2000000 in
theorem certs_same (x y : Value) (l r : List Psp.Cert) (w : World) (P Q : Nat → Prop) (hx : RdC w P x l) (hy : RdC w Q y r) :
    Calls Try.prog 19 #[x, y] w fun e w' => e = .returned (.bool (decide (l = r))) ∧ Below w.heap.size w w' := by
  obtain ⟨L, hL, hx, hxL⟩ := hx
  obtain ⟨M, hM, hy, hyM⟩ := hy
  obtain ⟨n, hn⟩ : ∃ n, L.length = n := ⟨_, rfl⟩
  obtain ⟨m, hm⟩ : ∃ n, M.length = n := ⟨_, rfl⟩
  rw [hn] at hx
  rw [hm] at hy
  have hln : l.length = n := by rw [← hL, List.length_map]; exact hn
  have hrm : r.length = m := by rw [← hM, List.length_map]; exact hm
  obtain ⟨hxl, A, c, rfl, hx1, hx2, hxc⟩ := hx.parts
  obtain ⟨hyl, A2, d, rfl, hy1, hy2, hyc⟩ := hy.parts
  have Hxc := Lib.hid hxc
  have Hyc := Lib.hid hyc
  have Hn := Lib.hid hn
  have Hm := Lib.hid hm
  have Hln := Lib.hid hln
  have Hrm := Lib.hid hrm
  have HL := Lib.hid hL
  have HM := Lib.hid hM
  have HxL := Lib.hid hxL
  have HyM := Lib.hid hyM
  by_cases hnm : n = m
  · subst hnm
    clear hxl hyl hxc hyc hn hm hx hy hln hrm hL hM hxL hyM
    go_enter Try.func19, Try.ntmps19
    go_wp2_with fail
    go_loopw [5] (fun i wr => ∃ k : Nat, i = .int .i64 (k : Int) ∧ k ≤ n ∧ Hid (l.take k = r.take k) ∧ Below w.heap.size w wr) (fun i _ => n - (intOf i).toNat)
    case atStart => exact ⟨0, rfl, Nat.zero_le _, Lib.hid (by simp), Below.refl _ _⟩
    case round =>
      obtain ⟨k, rfl, hk, Heq, hbel⟩ := hrel
      by_cases hlt : k < n
      · obtain ⟨b1, o1, hA1, hP1, hb1, h1⟩ := Hxc.out (by omega)
        obtain ⟨b2, o2, hA2, hP2, hb2, h2⟩ := Hyc.out (by omega)
        subst hA1 hA2
        have hkL : k < L.length := by have := Hn.out; omega
        have hkM : k < M.length := by have := Hm.out; omega
        have hkl : k < l.length := by have := Hln.out; omega
        have hkr : k < r.length := by have := Hrm.out; omega
        have hsz := hbel.size
        have r1 := range_keep (range_elem (f := cv) (k := 5) (fun _ => rfl) h1 hkL) (hbel.block b1 hb1)
        have r2 := range_keep (range_elem (f := cv) (k := 5) (fun _ => rfl) h2 hkM) (hbel.block b2 hb2)
        have hnx := fun e => take_eq hkl hkr Heq.out e
        have hok1 := HxL.out _ (List.getElem_mem hkL)
        have hok2 := HyM.out _ (List.getElem_mem hkM)
        have e1 : l[k] = L[k].c := by simp only [← HL.out, List.getElem_map]
        have e2 : r[k] = M[k].c := by simp only [← HM.out, List.getElem_map]
        have hne : L[k].c ≠ M[k].c → l ≠ r := fun hne e => by subst e; exact hne (e1.symm.trans e2)
        rw [e1, e2] at hnx
        obtain ⟨t1, ht1⟩ : ∃ r, L[k] = r := ⟨_, rfl⟩
        obtain ⟨t2, ht2⟩ : ∃ t, M[k] = t := ⟨_, rfl⟩
        rw [ht1, ht2] at hnx hne
        rw [ht1] at r1 hok1
        rw [ht2] at r2 hok2
        have hok1' := hok1.keeps (Keeps.below (w := w) (w' := wr) hbel)
        have hok2' := hok2.keeps (Keeps.below (w := w) (w' := wr) hbel)
        have HQ1 := Lib.hid (range_later r1 (by omega))
        have HQ2 := Lib.hid (range_later r2 (by omega))
        have Hok1 := Lib.hid hok1'
        have Hok2 := Lib.hid hok2'
        have Hnx := Lib.hid hnx
        have Hne := Lib.hid hne
        have Hbel := Lib.hid hbel
        have kb0 : (0 : Int) ≤ (k : Int) := by omega
        have kb1 : (k : Int) < (n : Int) := by omega
        clear e1 e2 ht1 ht2 h1 h2 hkl hkr hkL hkM hnx hne hok1 hok2 hok1' hok2' hbel r1 r2
        by_cases he : t1.c = t2.c
        · have He := Lib.hid he
          clear he
          have HC : Hid (∀ p : Later wr, Calls Try.prog 49 #[.agg (cv t1).toArray, .agg (cv t2).toArray] p.W fun e w' => e = .returned (.bool true) ∧ Below p.W.heap.size p.W w') := Lib.hid fun p => by
            have h := cert_same t1 t2 p.W P Q (Hok1.out.keeps (Keeps.below p.h)) (Hok2.out.keeps (Keeps.below p.h))
            rwa [decide_eq_true He.out] at h
          go_wp2_with fail
          refine wp_region_later (by kernel_rfl) (by kernel_rfl) ?_
          repeat (first | (refine quiet_load rfl 87 (.tmp 19) rfl b1 (o1 + k * 5) rfl (cv t1) _ HQ1.out Try.underlying87 rfl sizeC ?_; intro K hK; go_simp; refine hK _ ?_; clear hK K) | (refine quiet_load rfl 87 (.tmp 23) rfl b2 (o2 + k * 5) rfl (cv t2) _ HQ2.out Try.underlying87 rfl sizeC ?_; intro K hK; go_simp; refine hK _ ?_; clear hK K) | go_big_quiet_step ((go_at_call 49; exact later_call _ (HC.out _))))
          refine wpQuiet_nil ?_
          intro w3 hw'
          have hb3 := later_out hw'
          clear hw'
          have Hb3 := Lib.hid (Hbel.out.trans (hb3.mono Hbel.out.size))
          clear hb3
          go_wp2_with fail
          go_roundw
          case rel => exact ⟨k + 1, by go_num, by omega, Lib.hid (Hnx.out He.out), Hb3.out⟩
          case measure => simp [intOf]; omega
        · have He := Lib.hid he
          clear he
          have HC : Hid (∀ p : Later wr, Calls Try.prog 49 #[.agg (cv t1).toArray, .agg (cv t2).toArray] p.W fun e w' => e = .returned (.bool false) ∧ Below p.W.heap.size p.W w') := Lib.hid fun p => by
            have h := cert_same t1 t2 p.W P Q (Hok1.out.keeps (Keeps.below p.h)) (Hok2.out.keeps (Keeps.below p.h))
            rwa [decide_eq_false He.out] at h
          go_wp2_with fail
          refine wp_region_later (by kernel_rfl) (by kernel_rfl) ?_
          repeat (first | (refine quiet_load rfl 87 (.tmp 19) rfl b1 (o1 + k * 5) rfl (cv t1) _ HQ1.out Try.underlying87 rfl sizeC ?_; intro K hK; go_simp; refine hK _ ?_; clear hK K) | (refine quiet_load rfl 87 (.tmp 23) rfl b2 (o2 + k * 5) rfl (cv t2) _ HQ2.out Try.underlying87 rfl sizeC ?_; intro K hK; go_simp; refine hK _ ?_; clear hK K) | go_big_quiet_step ((go_at_call 49; exact later_call _ (HC.out _))))
          refine wpQuiet_nil ?_
          intro w3 hw'
          have hb3 := later_out hw'
          clear hw'
          have Hb3 := Lib.hid (Hbel.out.trans (hb3.mono Hbel.out.size))
          clear hb3
          go_wp2_with fail
          go_ret
          exact ⟨ret_bool (decide_eq_false (Hne.out He.out)).symm, Hb3.out⟩
      · go_wp2_with fail
        go_ret
        refine ⟨ret_bool (decide_eq_true ?_).symm, hbel⟩
        have h1 := Heq.out
        rwa [List.take_of_length_le (by rw [Hln.out]; omega), List.take_of_length_le (by rw [Hrm.out]; omega)] at h1
  · have hne : ((n : Int) != (m : Int)) = true := by simp; omega
    have hf := Lib.hid (show decide (l = r) = false from decide_eq_false (fun h => by subst h; omega))
    clear hxl hyl hxc hyc hn hm hx hy hln hrm hL hM hxL hyM
    go_enter Try.func19, Try.ntmps19
    go_wp2_with fail
    go_ret
    exact ⟨ret_bool hf.out.symm, Below.refl _ _⟩

theorem part_ext {a b : Psp.Part} (h1 : a.f = b.f) (h2 : a.o = b.o) (h3 : a.c = b.c) (h4 : a.s = b.s) : a = b := by cases a; cases b; simp_all

set_option maxRecDepth 100000 in
set_option maxHeartbeats 2000000 in
theorem parts_same (x y : Value) (l r : List Psp.Part) (w : World) (P Q : Nat → Prop) (hx : RdA w P x l) (hy : RdA w Q y r) :
    Calls Try.prog 35 #[x, y] w fun e w' => e = .returned (.bool (decide (l = r))) ∧ Below w.heap.size w w' := by
  obtain ⟨L, hL, hx, hxL⟩ := hx
  obtain ⟨M, hM, hy, hyM⟩ := hy
  obtain ⟨n, hn⟩ : ∃ n, L.length = n := ⟨_, rfl⟩
  obtain ⟨m, hm⟩ : ∃ n, M.length = n := ⟨_, rfl⟩
  rw [hn] at hx
  rw [hm] at hy
  have hln : l.length = n := by rw [← hL, List.length_map]; exact hn
  have hrm : r.length = m := by rw [← hM, List.length_map]; exact hm
  obtain ⟨hxl, A, c, rfl, hx1, hx2, hxc⟩ := hx.parts
  obtain ⟨hyl, A2, d, rfl, hy1, hy2, hyc⟩ := hy.parts
  have Hxc := Lib.hid hxc
  have Hyc := Lib.hid hyc
  have Hn := Lib.hid hn
  have Hm := Lib.hid hm
  have Hln := Lib.hid hln
  have Hrm := Lib.hid hrm
  have HL := Lib.hid hL
  have HM := Lib.hid hM
  have HxL := Lib.hid hxL
  have HyM := Lib.hid hyM
  by_cases hnm : n = m
  · subst hnm
    clear hxl hyl hxc hyc hn hm hx hy hln hrm hL hM hxL hyM
    go_enter Try.func35, Try.ntmps35
    go_wp2_with fail
    go_loopw [5] (fun i wr => ∃ k : Nat, i = .int .i64 (k : Int) ∧ k ≤ n ∧ Hid (l.take k = r.take k) ∧ Below w.heap.size w wr) (fun i _ => n - (intOf i).toNat)
    case atStart => exact ⟨0, rfl, Nat.zero_le _, Lib.hid (by simp), Below.refl _ _⟩
    case round =>
      obtain ⟨k, rfl, hk, Heq, hbel⟩ := hrel
      by_cases hlt : k < n
      · obtain ⟨b1, o1, hA1, hP1, hb1, h1⟩ := Hxc.out (by omega)
        obtain ⟨b2, o2, hA2, hP2, hb2, h2⟩ := Hyc.out (by omega)
        subst hA1 hA2
        have hkL : k < L.length := by have := Hn.out; omega
        have hkM : k < M.length := by have := Hm.out; omega
        have hkl : k < l.length := by have := Hln.out; omega
        have hkr : k < r.length := by have := Hrm.out; omega
        have hsz := hbel.size
        have r1 := range_keep (range_elem (f := pv) (k := 4) (fun _ => rfl) h1 hkL) (hbel.block b1 hb1)
        have r2 := range_keep (range_elem (f := pv) (k := 4) (fun _ => rfl) h2 hkM) (hbel.block b2 hb2)
        have hnx := fun e => take_eq hkl hkr Heq.out e
        have hok1 := HxL.out _ (List.getElem_mem hkL)
        have hok2 := HyM.out _ (List.getElem_mem hkM)
        have e1 : l[k] = L[k].p := by simp only [← HL.out, List.getElem_map]
        have e2 : r[k] = M[k].p := by simp only [← HM.out, List.getElem_map]
        have hne : L[k].p ≠ M[k].p → l ≠ r := fun hne e => by subst e; exact hne (e1.symm.trans e2)
        rw [e1, e2] at hnx
        obtain ⟨t1, ht1⟩ : ∃ r, L[k] = r := ⟨_, rfl⟩
        obtain ⟨t2, ht2⟩ : ∃ t, M[k] = t := ⟨_, rfl⟩
        rw [ht1, ht2] at hnx hne
        rw [ht1] at r1 hok1
        rw [ht2] at r2 hok2
        have hok1' := hok1.keeps (Keeps.below (w := w) (w' := wr) hbel)
        have hok2' := hok2.keeps (Keeps.below (w := w) (w' := wr) hbel)
        have HQ1 := Lib.hid (range_later r1 (by omega))
        have HQ2 := Lib.hid (range_later r2 (by omega))
        have Hok1 := Lib.hid hok1'
        have Hok2 := Lib.hid hok2'
        have Hnx := Lib.hid hnx
        have Hne := Lib.hid hne
        have Hbel := Lib.hid hbel
        have kb0 : (0 : Int) ≤ (k : Int) := by omega
        have kb1 : (k : Int) < (n : Int) := by omega
        have x0 := later_cell (r1 0 _ rfl)
        have x1 := later_cell (r1 1 _ rfl)
        have x2 := later_cell (r1 2 _ rfl)
        have x3 := later_cell (r1 3 _ rfl)
        have y0 := later_cell (r2 0 _ rfl)
        have y1 := later_cell (r2 1 _ rfl)
        have y2 := later_cell (r2 2 _ rfl)
        have y3 := later_cell (r2 3 _ rfl)
        simp only [Nat.add_zero, iv] at x0 x3 y0 y3
        clear e1 e2 ht1 ht2 h1 h2 hkl hkr hkL hkM hnx hne hok1 hok2 hok1' hok2' hbel r1 r2
        by_cases hf : t1.p.f = t2.p.f
        · have Hf := Lib.hid hf
          clear hf
          by_cases hs : t1.p.s = t2.p.s
          · have Hs := Lib.hid hs
            clear hs
            by_cases ho : t1.p.o = t2.p.o
            · have Ho := Lib.hid ho
              clear ho
              by_cases hc : t1.p.c = t2.p.c
              · have Hc := Lib.hid hc
                clear hc
                have He : Hid (t1.p = t2.p) := Lib.hid (part_ext Hf.out Ho.out Hc.out Hs.out)
                have d1 : ((t1.p.f : Int) != t2.p.f) = false := by simp [Hf.out]
                have d2 : ((t1.p.s : Int) != t2.p.s) = false := by simp [Hs.out]
                have HV : Hid (∀ p : Later wr, Calls Try.prog 21 #[t1.o, t2.o] p.W fun e w' => e = .returned (.bool true) ∧ Below p.W.heap.size p.W w') := Lib.hid fun p => by
                  have h := same_V t1.o t2.o _ _ t1.p.o t2.p.o p.W P Q (Hok1.out.1.keeps (Keeps.below p.h)) (Hok2.out.1.keeps (Keeps.below p.h)) rfl rfl
                  rw [decide_eq_true Ho.out] at h
                  exact h.mono fun e w' ⟨h1, q, h2⟩ => ⟨h1, by rw [h2]; exact below_drewN (Below.refl _ _) q⟩
                have HC : Hid (∀ p : Later wr, Calls Try.prog 19 #[t1.c, t2.c] p.W fun e w' => e = .returned (.bool true) ∧ Below p.W.heap.size p.W w') := Lib.hid fun p => by
                  have h := certs_same t1.c t2.c t1.p.c t2.p.c p.W P Q (Hok1.out.2.keeps (Keeps.below p.h)) (Hok2.out.2.keeps (Keeps.below p.h))
                  rwa [decide_eq_true Hc.out] at h
                go_wp2_with fail
                refine wp_region_later (by kernel_rfl) (by kernel_rfl) ?_
                repeat go_big_quiet_step (first | (go_at_call 21; exact later_call _ (HV.out _)) | (go_at_call 19; exact later_call _ (HC.out _)))
                refine wpQuiet_nil ?_
                intro w3 hw'
                have hb3 := later_out hw'
                clear hw'
                have Hb3 := Lib.hid (Hbel.out.trans (hb3.mono Hbel.out.size))
                clear hb3
                go_wp2_with fail
                go_roundw
                case rel => exact ⟨k + 1, by go_num, by omega, Lib.hid (Hnx.out He.out), Hb3.out⟩
                case measure => simp [intOf]; omega
              · have Hc := Lib.hid hc
                clear hc
                have He : Hid (t1.p ≠ t2.p) := Lib.hid fun e => Hc.out (by rw [e])
                have d1 : ((t1.p.f : Int) != t2.p.f) = false := by simp [Hf.out]
                have d2 : ((t1.p.s : Int) != t2.p.s) = false := by simp [Hs.out]
                have HV : Hid (∀ p : Later wr, Calls Try.prog 21 #[t1.o, t2.o] p.W fun e w' => e = .returned (.bool true) ∧ Below p.W.heap.size p.W w') := Lib.hid fun p => by
                  have h := same_V t1.o t2.o _ _ t1.p.o t2.p.o p.W P Q (Hok1.out.1.keeps (Keeps.below p.h)) (Hok2.out.1.keeps (Keeps.below p.h)) rfl rfl
                  rw [decide_eq_true Ho.out] at h
                  exact h.mono fun e w' ⟨h1, q, h2⟩ => ⟨h1, by rw [h2]; exact below_drewN (Below.refl _ _) q⟩
                have HC : Hid (∀ p : Later wr, Calls Try.prog 19 #[t1.c, t2.c] p.W fun e w' => e = .returned (.bool false) ∧ Below p.W.heap.size p.W w') := Lib.hid fun p => by
                  have h := certs_same t1.c t2.c t1.p.c t2.p.c p.W P Q (Hok1.out.2.keeps (Keeps.below p.h)) (Hok2.out.2.keeps (Keeps.below p.h))
                  rwa [decide_eq_false Hc.out] at h
                go_wp2_with fail
                refine wp_region_later (by kernel_rfl) (by kernel_rfl) ?_
                repeat go_big_quiet_step (first | (go_at_call 21; exact later_call _ (HV.out _)) | (go_at_call 19; exact later_call _ (HC.out _)))
                refine wpQuiet_nil ?_
                intro w3 hw'
                have hb3 := later_out hw'
                clear hw'
                have Hb3 := Lib.hid (Hbel.out.trans (hb3.mono Hbel.out.size))
                clear hb3
                go_wp2_with fail
                go_ret
                exact ⟨ret_bool (decide_eq_false (Hne.out He.out)).symm, Hb3.out⟩
            · have Ho := Lib.hid ho
              clear ho
              have He : Hid (t1.p ≠ t2.p) := Lib.hid fun e => Ho.out (by rw [e])
              have d1 : ((t1.p.f : Int) != t2.p.f) = false := by simp [Hf.out]
              have d2 : ((t1.p.s : Int) != t2.p.s) = false := by simp [Hs.out]
              have HV : Hid (∀ p : Later wr, Calls Try.prog 21 #[t1.o, t2.o] p.W fun e w' => e = .returned (.bool false) ∧ Below p.W.heap.size p.W w') := Lib.hid fun p => by
                have h := same_V t1.o t2.o _ _ t1.p.o t2.p.o p.W P Q (Hok1.out.1.keeps (Keeps.below p.h)) (Hok2.out.1.keeps (Keeps.below p.h)) rfl rfl
                rw [decide_eq_false Ho.out] at h
                exact h.mono fun e w' ⟨h1, q, h2⟩ => ⟨h1, by rw [h2]; exact below_drewN (Below.refl _ _) q⟩
              go_wp2_with fail
              refine wp_region_later (by kernel_rfl) (by kernel_rfl) ?_
              repeat go_big_quiet_step ((go_at_call 21; exact later_call _ (HV.out _)))
              refine wpQuiet_nil ?_
              intro w3 hw'
              have hb3 := later_out hw'
              clear hw'
              have Hb3 := Lib.hid (Hbel.out.trans (hb3.mono Hbel.out.size))
              clear hb3
              go_wp2_with fail
              go_ret
              exact ⟨ret_bool (decide_eq_false (Hne.out He.out)).symm, Hb3.out⟩
          · have Hs := Lib.hid hs
            clear hs
            have He : Hid (t1.p ≠ t2.p) := Lib.hid fun e => Hs.out (by rw [e])
            have d1 : ((t1.p.f : Int) != t2.p.f) = false := by simp [Hf.out]
            have d2 : ((t1.p.s : Int) != t2.p.s) = true := by simpa using Hs.out
            go_wp2_with fail
            refine wp_region_later (by kernel_rfl) (by kernel_rfl) ?_
            repeat go_big_quiet_step (fail)
            refine wpQuiet_nil ?_
            intro w3 hw'
            have hb3 := later_out hw'
            clear hw'
            have Hb3 := Lib.hid (Hbel.out.trans (hb3.mono Hbel.out.size))
            clear hb3
            go_wp2_with fail
            go_ret
            exact ⟨ret_bool (decide_eq_false (Hne.out He.out)).symm, Hb3.out⟩
        · have Hf := Lib.hid hf
          clear hf
          have He : Hid (t1.p ≠ t2.p) := Lib.hid fun e => Hf.out (by rw [e])
          have d1 : ((t1.p.f : Int) != t2.p.f) = true := by simpa using Hf.out
          go_wp2_with fail
          refine wp_region_later (by kernel_rfl) (by kernel_rfl) ?_
          repeat go_big_quiet_step (fail)
          refine wpQuiet_nil ?_
          intro w3 hw'
          have hb3 := later_out hw'
          clear hw'
          have Hb3 := Lib.hid (Hbel.out.trans (hb3.mono Hbel.out.size))
          clear hb3
          go_wp2_with fail
          go_ret
          exact ⟨ret_bool (decide_eq_false (Hne.out He.out)).symm, Hb3.out⟩
      · go_wp2_with fail
        go_ret
        refine ⟨ret_bool (decide_eq_true ?_).symm, hbel⟩
        have h1 := Heq.out
        rwa [List.take_of_length_le (by rw [Hln.out]; omega), List.take_of_length_le (by rw [Hrm.out]; omega)] at h1
  · have hne : ((n : Int) != (m : Int)) = true := by simp; omega
    have hf := Lib.hid (show decide (l = r) = false from decide_eq_false (fun h => by subst h; omega))
    clear hxl hyl hxc hyc hn hm hx hy hln hrm hL hM hxL hyM
    go_enter Try.func35, Try.ntmps35
    go_wp2_with fail
    go_ret
    exact ⟨ret_bool hf.out.symm, Below.refl _ _⟩

end Go.Proofs.Ytadaejpodjhkdaa
