/- The walk of MsgsUnlike. Printed by gen_wunlike.py. -/
import Derived.Test.YtljfoajhobambaaHv
import Derived.Test.YtljfoajhobambaaMb
import Derived.Test.YtljfoajhobambaaGf
namespace Go.Proofs.Ytljfoajhobambaa.msgsUnlike
open Go.RowKit
set_option linter.unusedVariables false
set_option linter.unusedSimpArgs false

set_option maxRecDepth 100000 in
set_option maxHeartbeats 8000000 in
theorem walk (x y : MsgV) (at0 : Int) (w : World) (hx : MsgOk w (fun b => b < w.heap.size) x ∧ wfMsg x.m) (hy : MsgOk w (fun b => b < w.heap.size) y ∧ wfMsg y.m) (hat : isI64 at0) :
    Calls Try.prog 3 #[.agg (mv x).toArray, .agg (mv y).toArray, .int .i64 at0] w fun e w' => e = .returned (.bool true) ∧ Below w.heap.size w w' := by
  obtain ⟨hx, -⟩ := hx
  obtain ⟨hy, -⟩ := hy
  obtain ⟨a, vb, vo, vc, vp⟩ := x
  obtain ⟨b, ub, uo, uc, up⟩ := y
  obtain ⟨Ab, Ao, Ac, Ap, cb, co, cc, cp, rfl, rfl, rfl, rfl⟩ := msg_slices hx
  obtain ⟨Bb, Bo, Bc, Bp, db, do', dc, dp, rfl, rfl, rfl, rfl⟩ := msg_slices hy
  show Calls Try.prog 3 #[.agg #[.int .i64 a.k, .int .i64 a.f, .int .i64 a.v, .int .i64 a.i, .int .i64 a.q, .int .i64 a.r, .slice Ab a.b.length cb, .slice Ao a.o.length co, .slice Ac a.c.length cc, .slice Ap a.p.length cp], .agg #[.int .i64 b.k, .int .i64 b.f, .int .i64 b.v, .int .i64 b.i, .int .i64 b.q, .int .i64 b.r, .slice Bb b.b.length db, .slice Bo b.o.length do', .slice Bc b.c.length dc, .slice Bp b.p.length dp], .int .i64 at0] w _
  have HX := Lib.hid hx
  have HY := Lib.hid hy
  clear hx hy
  have hb0 := (alloc_below w (.cells #[.int .i64 a.k, .int .i64 a.f, .int .i64 a.v, .int .i64 a.i, .int .i64 a.q, .int .i64 a.r, .slice Ab a.b.length cb, .slice Ao a.o.length co, .slice Ac a.c.length cc, .slice Ap a.p.length cp] 27)).trans ((alloc_below (w.alloc (.cells #[.int .i64 a.k, .int .i64 a.f, .int .i64 a.v, .int .i64 a.i, .int .i64 a.q, .int .i64 a.r, .slice Ab a.b.length cb, .slice Ao a.o.length co, .slice Ac a.c.length cc, .slice Ap a.p.length cp] 27)) (.cells #[.int .i64 b.k, .int .i64 b.f, .int .i64 b.v, .int .i64 b.i, .int .i64 b.q, .int .i64 b.r, .slice Bb b.b.length db, .slice Bo b.o.length do', .slice Bc b.c.length dc, .slice Bp b.p.length dp] 27)).mono (by simp))
  have hc0 := box_below (heap_alloc_new w (.cells #[.int .i64 a.k, .int .i64 a.f, .int .i64 a.v, .int .i64 a.i, .int .i64 a.q, .int .i64 a.r, .slice Ab a.b.length cb, .slice Ao a.o.length co, .slice Ac a.c.length cc, .slice Ap a.p.length cp] 27)) (alloc_below (w.alloc (.cells #[.int .i64 a.k, .int .i64 a.f, .int .i64 a.v, .int .i64 a.i, .int .i64 a.q, .int .i64 a.r, .slice Ab a.b.length cb, .slice Ao a.o.length co, .slice Ac a.c.length cc, .slice Ap a.p.length cp] 27)) (.cells #[.int .i64 b.k, .int .i64 b.f, .int .i64 b.v, .int .i64 b.i, .int .i64 b.q, .int .i64 b.r, .slice Bb b.b.length db, .slice Bo b.o.length do', .slice Bc b.c.length dc, .slice Bp b.p.length dp] 27)) (Nat.le_refl _)
  have hd0 : ((w.alloc (.cells #[.int .i64 a.k, .int .i64 a.f, .int .i64 a.v, .int .i64 a.i, .int .i64 a.q, .int .i64 a.r, .slice Ab a.b.length cb, .slice Ao a.o.length co, .slice Ac a.c.length cc, .slice Ap a.p.length cp] 27)).alloc (.cells #[.int .i64 b.k, .int .i64 b.f, .int .i64 b.v, .int .i64 b.i, .int .i64 b.q, .int .i64 b.r, .slice Bb b.b.length db, .slice Bo b.o.length do', .slice Bc b.c.length dc, .slice Bp b.p.length dp] 27)).heap[w.heap.size + 1]? = some (.cells #[.int .i64 b.k, .int .i64 b.f, .int .i64 b.v, .int .i64 b.i, .int .i64 b.q, .int .i64 b.r, .slice Bb b.b.length db, .slice Bo b.o.length do', .slice Bc b.c.length dc, .slice Bp b.p.length dp] 27 (0, 0)) := by have h := heap_alloc_new (w.alloc (.cells #[.int .i64 a.k, .int .i64 a.f, .int .i64 a.v, .int .i64 a.i, .int .i64 a.q, .int .i64 a.r, .slice Ab a.b.length cb, .slice Ao a.o.length co, .slice Ac a.c.length cc, .slice Ap a.p.length cp] 27)) (.cells #[.int .i64 b.k, .int .i64 b.f, .int .i64 b.v, .int .i64 b.i, .int .i64 b.q, .int .i64 b.r, .slice Bb b.b.length db, .slice Bo b.o.length do', .slice Bc b.c.length dc, .slice Bp b.p.length dp] 27); simpa using h
  go_enter Try.func3, Try.ntmps3
  go_wp2_with fail
  obtain ⟨W, hW⟩ : ∃ W, (w.alloc (.cells #[.int .i64 a.k, .int .i64 a.f, .int .i64 a.v, .int .i64 a.i, .int .i64 a.q, .int .i64 a.r, .slice Ab a.b.length cb, .slice Ao a.o.length co, .slice Ac a.c.length cc, .slice Ap a.p.length cp] 27)).alloc (.cells #[.int .i64 b.k, .int .i64 b.f, .int .i64 b.v, .int .i64 b.i, .int .i64 b.q, .int .i64 b.r, .slice Bb b.b.length db, .slice Bo b.o.length do', .slice Bc b.c.length dc, .slice Bp b.p.length dp] 27) = W := ⟨_, rfl⟩
  rw [hW] at hb0 hc0 hd0 ⊢
  have HB0 := Lib.hid hb0
  have HC0 := Lib.hid hc0
  have HD0 := Lib.hid hd0
  clear hW hb0 hc0 hd0
  refine (heavy_m a _ _ _ _ W _ (HX.out.keeps (Keeps.below HB0.out))).mono ?_
  rintro e w1 ⟨rfl, hb1⟩
  have HB1 := Lib.hid (Below.then HB0.out hb1 HB0.out.size)
  have HC1 := Lib.hid (box_below HC0.out hb1 (Nat.le_refl _))
  have HD1 := Lib.hid (box_below HD0.out hb1 (Nat.le_refl _))
  clear hb1 HB0 HC0 HD0
  cases hh : heavyM a with
  | true =>
    clear hh
    go_wp2_with fail
    refine (wakes06 _).mono ?_
    rintro e wz ⟨rfl, hbz⟩
    have HBz := Lib.hid (Below.then HB1.out hbz HB1.out.size)
    clear hbz
    go_wp2_with fail
    go_ret
    exact ⟨rfl, HBz.out⟩
  | false =>
  clear hh
  obtain ⟨y0, y1, y2, y3, y4, y5, y6, y7, y8, y9⟩ := box_cells HD1.out
  go_wp2_with fail
  clear y0 y1 y2 y3 y4 y5 y6 y7 y8 y9
  refine (heavy_m b _ _ _ _ w1 _ (HY.out.keeps (Keeps.below HB1.out))).mono ?_
  rintro e w2 ⟨rfl, hb2⟩
  have HB2 := Lib.hid (Below.then HB1.out hb2 HB1.out.size)
  have HC2 := Lib.hid (box_below HC1.out hb2 (Nat.le_refl _))
  have HD2 := Lib.hid (box_below HD1.out hb2 (Nat.le_refl _))
  clear hb2 HB1 HC1 HD1
  cases hh : heavyM b with
  | true =>
    clear hh
    go_wp2_with fail
    refine (wakes06 _).mono ?_
    rintro e wz ⟨rfl, hbz⟩
    have HBz := Lib.hid (Below.then HB2.out hbz HB2.out.size)
    clear hbz
    go_wp2_with fail
    go_ret
    exact ⟨rfl, HBz.out⟩
  | false =>
  clear hh
  obtain ⟨ea, hea⟩ : ∃ e, res (Psp.encM a) (Psp.okB a) = e := ⟨_, rfl⟩
  obtain ⟨oa, hoa⟩ : ∃ o, Psp.okB a = o := ⟨_, rfl⟩
  obtain ⟨eb, heb⟩ : ∃ e, res (Psp.encM b) (Psp.okB b) = e := ⟨_, rfl⟩
  obtain ⟨ob, hob⟩ : ∃ o, Psp.okB b = o := ⟨_, rfl⟩
  have Hea := Lib.hid hea
  have Hoa := Lib.hid hoa
  have Heb := Lib.hid heb
  have Hob := Lib.hid hob
  clear hea hoa heb hob
  obtain ⟨x0, x1, x2, x3, x4, x5, x6, x7, x8, x9⟩ := box_cells HC2.out
  go_wp2_with fail
  clear x0 x1 x2 x3 x4 x5 x6 x7 x8 x9
  refine (body_m a _ _ _ _ w2 (HX.out.keeps (Keeps.on HB2.out))).mono ?_
  intro e w3 h
  obtain ⟨A3, c3, rfl, hr3, hb3⟩ := Bytes.rdb h Hea.out Hoa.out
  have HB3 := Lib.hid (Below.then HB2.out hb3 HB2.out.size)
  have HC3 := Lib.hid (box_below HC2.out hb3 (Nat.le_refl _))
  have HD3 := Lib.hid (box_below HD2.out hb3 (Nat.le_refl _))
  have HR3 := Lib.hid hr3
  clear h hr3 hb3 HB2 HC2 HD2
  obtain ⟨y0, y1, y2, y3, y4, y5, y6, y7, y8, y9⟩ := box_cells HD3.out
  go_wp2_with fail
  clear y0 y1 y2 y3 y4 y5 y6 y7 y8 y9
  refine (body_m b _ _ _ _ w3 (HY.out.keeps (Keeps.on HB3.out))).mono ?_
  intro e w4 h
  obtain ⟨A4, c4, rfl, hr4, hb4⟩ := Bytes.rdb h Heb.out Hob.out
  have HB4 := Lib.hid (Below.then HB3.out hb4 HB3.out.size)
  have HC4 := Lib.hid (box_below HC3.out hb4 (Nat.le_refl _))
  have HD4 := Lib.hid (box_below HD3.out hb4 (Nat.le_refl _))
  have HR34 := Lib.hid (HR3.out.keeps (Keeps.below hb4))
  have HR4 := Lib.hid hr4
  clear h hr4 hb4 HB3 HC3 HD3 HR3
  have hra := HC4.out
  have hrb := HD4.out
  have HRA : Hid (∀ w' : World, (∃ p : Later w4, w' = p.W) → w'.rangeAt w.heap.size 0 [.int .i64 a.k, .int .i64 a.f, .int .i64 a.v, .int .i64 a.i, .int .i64 a.q, .int .i64 a.r, .slice Ab a.b.length cb, .slice Ao a.o.length co, .slice Ac a.c.length cc, .slice Ap a.p.length cp]) := Lib.hid (by rintro w' ⟨p, rfl⟩; exact range_of_row (box_below HC4.out p.h (Nat.le_refl _)))
  have HRB : Hid (∀ w' : World, (∃ p : Later w4, w' = p.W) → w'.rangeAt (w.heap.size + 1) 0 [.int .i64 b.k, .int .i64 b.f, .int .i64 b.v, .int .i64 b.i, .int .i64 b.q, .int .i64 b.r, .slice Bb b.b.length db, .slice Bo b.o.length do', .slice Bc b.c.length dc, .slice Bp b.p.length dp]) := Lib.hid (by rintro w' ⟨p, rfl⟩; exact range_of_row (box_below HD4.out p.h (Nat.le_refl _)))
  clear hra hrb
  cases oa with
  | false =>
    go_wp2_with fail
    refine wp_region_later (by kernel_rfl) (by kernel_rfl) ?_
    repeat (first | go_big_quiet_step (fail) | quiet_step (fail))
    refine wpQuiet_nil ?_
    intro w5 hw'
    have hb5 := later_out hw'
    clear hw'
    have HB5 := Lib.hid (Below.then HB4.out hb5 HB4.out.size)
    have HR5 := Lib.hid (HR34.out.keeps (Keeps.below hb5))
    clear hb5 HB4 HR34
    go_wp2_with fail
    refine (wakes06 _).mono ?_
    rintro e wz ⟨rfl, hbz⟩
    have HBz := Lib.hid (Below.then HB5.out hbz HB5.out.size)
    clear hbz
    go_wp2_with fail
    go_ret
    exact ⟨rfl, HBz.out⟩
  | true =>
    cases ob with
    | false =>
      go_wp2_with fail
      refine wp_region_later (by kernel_rfl) (by kernel_rfl) ?_
      repeat (first | go_big_quiet_step (fail) | quiet_step (fail))
      refine wpQuiet_nil ?_
      intro w5 hw'
      have hb5 := later_out hw'
      clear hw'
      have HB5 := Lib.hid (Below.then HB4.out hb5 HB4.out.size)
      have HR5 := Lib.hid (HR34.out.keeps (Keeps.below hb5))
      clear hb5 HB4 HR34
      have hea : ea = Psp.encM a := by have h := Hea.out; rw [Hoa.out] at h; exact h.symm
      have hel : ea.length ≤ 65536 := by rw [hea]; exact encM_le Hoa.out
      have hep : 1 ≤ ea.length := by
        rw [hea]
        have h := Hoa.out
        unfold Psp.okB at h
        rw [Bool.and_eq_true] at h
        exact Psp.encM_pos h.1
      have Hcut : Hid (∀ k, k < ea.length → Psp.parseM (ea.take k) = none) := Lib.hid fun k hk => by rw [hea] at hk ⊢; exact Psp.parse_cut Hoa.out hk
      have Hmore : Hid (Psp.parseM (ea ++ [0]) = none) := Lib.hid (by rw [hea]; exact Psp.parse_more Hoa.out (by simp))
      clear hea
      go_wp2_with fail
      refine (within_any at0 (ea.length : Int) w5 hat.1 hat.2 (by omega) (by omega)).mono ?_
      rintro e w6 ⟨rfl, rfl⟩
      obtain ⟨k, hk, hkn⟩ : ∃ k : Nat, Psp.within at0 (ea.length : Int) = (k : Int) ∧ k < ea.length := by
        have h1 := Psp.within_lo at0 (ea.length : Int); have h2 := Psp.within_hi at0 (ea.length : Int) (by omega)
        exact ⟨(Psp.within at0 (ea.length : Int)).toNat, by omega, by omega⟩
      rw [hk]
      obtain ⟨_, A9, c9, e9, hc3, hc4, _⟩ := HR5.out.parts
      injection e9 with e7 _ e9
      subst e7 e9
      have k0 : (0 : Int) ≤ (k : Int) := by omega
      have k1 : (k : Int) ≤ (c3 : Int) := by omega
      have hcut := HR5.out.cut (k := k) (by omega)
      have HCt := Lib.hid hcut
      have hlk : (ea.take k).length = k := by rw [List.length_take]; omega
      clear hcut hk
      go_wp2_with fail
      refine (parse_m (ea.take k) _ w5 (HCt.out.mono fun b hb _ => hb)).mono ?_
      rintro e w6 ⟨_, h2, hb6⟩
      obtain rfl := h2 (Hcut.out k hkn)
      have HB6 := Lib.hid (Below.then HB5.out hb6 HB5.out.size)
      have HR6 := Lib.hid (HR5.out.keeps (Keeps.below hb6))
      clear h2 hb6 HB5 HR5 HCt hlk
      go_wp2_with fail
      have hb7 := alloc_below w6 (.cells #[.int .i64 0, .int .i64 0, .int .i64 0, .int .i64 0, .int .i64 0, .int .i64 0, .slice none 0 0, .slice none 0 0, .slice none 0 0, .slice none 0 0] 27)
      obtain ⟨W7, hW7⟩ : ∃ W, w6.alloc (.cells #[.int .i64 0, .int .i64 0, .int .i64 0, .int .i64 0, .int .i64 0, .int .i64 0, .slice none 0 0, .slice none 0 0, .slice none 0 0, .slice none 0 0] 27) = W := ⟨_, rfl⟩
      try rw [show w6.alloc (.cells zs 27) = W7 from hW7]
      try rw [hW7]
      rw [hW7] at hb7
      have HB7 := Lib.hid (Below.then HB6.out hb7 HB6.out.size)
      have HR7 := Lib.hid (HR6.out.keeps (Keeps.below hb7))
      clear hW7 hb7 HB6 HR6
      refine (copy_bytes _ _ (ea.map bv) W7 HR7.out.to_rd (fun u hu => by obtain ⟨z, _, rfl⟩ := List.mem_map.1 hu; rfl) (by omega)).mono ?_
      rintro e w8 ⟨v8, rfl, hown8, hb8⟩
      obtain ⟨A8, c8, rfl, _, _, _⟩ := own_slice hown8
      have HB8 := Lib.hid (Below.then HB7.out hb8 HB7.out.size)
      have Hown8 := Lib.hid hown8
      have hz8 := hb8.size
      clear hown8 hb8 HR7
      go_wp2_with (at_builtin; refine wpList_app1 bytesE rfl _ _ rfl W7.heap.size (.slice A8 ea.length c8) ea.length (ea.map bv) rfl Hown8.out _ rfl rfl (by simp [Value.oneCell']) (by omega) (by decide) hz8 ?_; intro v' w9 hown9 hg9 hb9 hv9; have HO9 := Lib.hid hown9; have HB9 := Lib.hid (HB8.out.trans (hb9.mono HB7.out.size)); clear hown9 hg9 hb9 hv9)
      have hrd9 : RdP w9 (fun b => b < w9.heap.size) 1 v' (ea ++ [(0 : UInt8)]).length ((ea ++ [(0 : UInt8)]).map bv) := by
        rw [List.length_append, List.map_append]
        exact (RdP.of_own HO9.out).mono fun b hb _ => hb
      refine (parse_m (ea ++ [0]) _ w9 hrd9).mono ?_
      rintro e w10 ⟨_, h2, hb10⟩
      obtain rfl := h2 Hmore.out
      have HB10 := Lib.hid (Below.then HB9.out hb10 HB9.out.size)
      clear h2 hb10 HB9 hrd9 HO9 HB8
      go_wp2_with fail
      have HB11 := Lib.hid (Below.then HB10.out (alloc_below w10 (.cells #[.int .i64 0, .int .i64 0, .int .i64 0, .int .i64 0, .int .i64 0, .int .i64 0, .slice none 0 0, .slice none 0 0, .slice none 0 0, .slice none 0 0] 27)) HB10.out.size)
      refine (wakes06 _).mono ?_
      rintro e wz ⟨rfl, hbz⟩
      have HBz := Lib.hid (Below.then HB11.out hbz HB11.out.size)
      clear hbz
      go_wp2_with fail
      go_ret
      exact ⟨rfl, HBz.out⟩
    | true =>
      obtain ⟨d, hd⟩ : ∃ d, decide (a = b) = d := ⟨_, rfl⟩
      have hd2 : decide (ea = eb) = d := by
        have h1 := Hea.out
        have h2 := Heb.out
        rw [Hoa.out, res_yes] at h1
        rw [Hob.out, res_yes] at h2
        rw [← hd, ← h1, ← h2, Bool.eq_iff_iff, decide_eq_true_eq, decide_eq_true_eq]
        exact ⟨fun h => Psp.encM_inj Hoa.out Hob.out h, fun h => by rw [h]⟩
      have HSB : Hid (∀ p : Later w4, Calls Try.prog 14 #[.slice A3 ea.length c3, .slice A4 eb.length c4] p.W fun e w' => e = .returned (.bool d) ∧ Below p.W.heap.size p.W w') := Lib.hid fun p => by
        have h := same_bytes _ _ _ _ ea eb p.W (HR34.out.keeps (Keeps.below p.h)).to_rd (HR4.out.keeps (Keeps.below p.h)).to_rd
        rw [hd2] at h
        exact h.mono fun e w' ⟨h1, q, h2⟩ => ⟨h1, by rw [h2]; exact below_drewN (Below.refl _ _) q⟩
      have HMS : Hid (∀ p : Later w4, Calls Try.prog 15 #[.agg #[.int .i64 a.k, .int .i64 a.f, .int .i64 a.v, .int .i64 a.i, .int .i64 a.q, .int .i64 a.r, .slice Ab a.b.length cb, .slice Ao a.o.length co, .slice Ac a.c.length cc, .slice Ap a.p.length cp], .agg #[.int .i64 b.k, .int .i64 b.f, .int .i64 b.v, .int .i64 b.i, .int .i64 b.q, .int .i64 b.r, .slice Bb b.b.length db, .slice Bo b.o.length do', .slice Bc b.c.length dc, .slice Bp b.p.length dp]] p.W fun e w' => e = .returned (.bool d) ∧ Below p.W.heap.size p.W w') := Lib.hid fun p => by
        have h := msg_same a b _ _ _ _ _ _ _ _ p.W _ _ (HX.out.keeps (Keeps.below (Below.then HB4.out p.h HB4.out.size))) (HY.out.keeps (Keeps.below (Below.then HB4.out p.h HB4.out.size)))
        rwa [hd] at h
      clear hd hd2
      have hdd : (d != d) = false := by simp
      go_wp2_with fail
      refine wp_region_later (by kernel_rfl) (by kernel_rfl) ?_
      repeat (first | go_big_quiet_step (first | (go_at_call 14; exact later_call _ (HSB.out _)) | (go_at_call 15; exact later_call _ (HMS.out _))) | (refine quiet_load (by simp [Region.wanted, yielded]) 27 (.tmp 3) (by rfl) w.heap.size (0) (by rfl) [.int .i64 a.k, .int .i64 a.f, .int .i64 a.v, .int .i64 a.i, .int .i64 a.q, .int .i64 a.r, .slice Ab a.b.length cb, .slice Ao a.o.length co, .slice Ac a.c.length cc, .slice Ap a.p.length cp] _ HRA.out Try.underlying27 rfl sizeM ?_; intro K hK; go_simp; refine hK _ ?_; clear hK K) | (refine quiet_load (by simp [Region.wanted, yielded]) 27 (.tmp 4) (by rfl) (w.heap.size + 1) (0) (by rfl) [.int .i64 b.k, .int .i64 b.f, .int .i64 b.v, .int .i64 b.i, .int .i64 b.q, .int .i64 b.r, .slice Bb b.b.length db, .slice Bo b.o.length do', .slice Bc b.c.length dc, .slice Bp b.p.length dp] _ HRB.out Try.underlying27 rfl sizeM ?_; intro K hK; go_simp; refine hK _ ?_; clear hK K) | quiet_step (first | (go_at_call 14; exact later_call _ (HSB.out _)) | (go_at_call 15; exact later_call _ (HMS.out _))))
      refine wpQuiet_nil ?_
      intro w5 hw'
      have hb5 := later_out hw'
      clear hw'
      have HB5 := Lib.hid (Below.then HB4.out hb5 HB4.out.size)
      have HR5 := Lib.hid (HR34.out.keeps (Keeps.below hb5))
      clear hb5 HB4 HR34
      have hea : ea = Psp.encM a := by have h := Hea.out; rw [Hoa.out] at h; exact h.symm
      have hel : ea.length ≤ 65536 := by rw [hea]; exact encM_le Hoa.out
      have hep : 1 ≤ ea.length := by
        rw [hea]
        have h := Hoa.out
        unfold Psp.okB at h
        rw [Bool.and_eq_true] at h
        exact Psp.encM_pos h.1
      have Hcut : Hid (∀ k, k < ea.length → Psp.parseM (ea.take k) = none) := Lib.hid fun k hk => by rw [hea] at hk ⊢; exact Psp.parse_cut Hoa.out hk
      have Hmore : Hid (Psp.parseM (ea ++ [0]) = none) := Lib.hid (by rw [hea]; exact Psp.parse_more Hoa.out (by simp))
      clear hea
      go_wp2_with fail
      refine (within_any at0 (ea.length : Int) w5 hat.1 hat.2 (by omega) (by omega)).mono ?_
      rintro e w6 ⟨rfl, rfl⟩
      obtain ⟨k, hk, hkn⟩ : ∃ k : Nat, Psp.within at0 (ea.length : Int) = (k : Int) ∧ k < ea.length := by
        have h1 := Psp.within_lo at0 (ea.length : Int); have h2 := Psp.within_hi at0 (ea.length : Int) (by omega)
        exact ⟨(Psp.within at0 (ea.length : Int)).toNat, by omega, by omega⟩
      rw [hk]
      obtain ⟨_, A9, c9, e9, hc3, hc4, _⟩ := HR5.out.parts
      injection e9 with e7 _ e9
      subst e7 e9
      have k0 : (0 : Int) ≤ (k : Int) := by omega
      have k1 : (k : Int) ≤ (c3 : Int) := by omega
      have hcut := HR5.out.cut (k := k) (by omega)
      have HCt := Lib.hid hcut
      have hlk : (ea.take k).length = k := by rw [List.length_take]; omega
      clear hcut hk
      go_wp2_with fail
      refine (parse_m (ea.take k) _ w5 (HCt.out.mono fun b hb _ => hb)).mono ?_
      rintro e w6 ⟨_, h2, hb6⟩
      obtain rfl := h2 (Hcut.out k hkn)
      have HB6 := Lib.hid (Below.then HB5.out hb6 HB5.out.size)
      have HR6 := Lib.hid (HR5.out.keeps (Keeps.below hb6))
      clear h2 hb6 HB5 HR5 HCt hlk
      go_wp2_with fail
      have hb7 := alloc_below w6 (.cells #[.int .i64 0, .int .i64 0, .int .i64 0, .int .i64 0, .int .i64 0, .int .i64 0, .slice none 0 0, .slice none 0 0, .slice none 0 0, .slice none 0 0] 27)
      obtain ⟨W7, hW7⟩ : ∃ W, w6.alloc (.cells #[.int .i64 0, .int .i64 0, .int .i64 0, .int .i64 0, .int .i64 0, .int .i64 0, .slice none 0 0, .slice none 0 0, .slice none 0 0, .slice none 0 0] 27) = W := ⟨_, rfl⟩
      try rw [show w6.alloc (.cells zs 27) = W7 from hW7]
      try rw [hW7]
      rw [hW7] at hb7
      have HB7 := Lib.hid (Below.then HB6.out hb7 HB6.out.size)
      have HR7 := Lib.hid (HR6.out.keeps (Keeps.below hb7))
      clear hW7 hb7 HB6 HR6
      refine (copy_bytes _ _ (ea.map bv) W7 HR7.out.to_rd (fun u hu => by obtain ⟨z, _, rfl⟩ := List.mem_map.1 hu; rfl) (by omega)).mono ?_
      rintro e w8 ⟨v8, rfl, hown8, hb8⟩
      obtain ⟨A8, c8, rfl, _, _, _⟩ := own_slice hown8
      have HB8 := Lib.hid (Below.then HB7.out hb8 HB7.out.size)
      have Hown8 := Lib.hid hown8
      have hz8 := hb8.size
      clear hown8 hb8 HR7
      go_wp2_with (at_builtin; refine wpList_app1 bytesE rfl _ _ rfl W7.heap.size (.slice A8 ea.length c8) ea.length (ea.map bv) rfl Hown8.out _ rfl rfl (by simp [Value.oneCell']) (by omega) (by decide) hz8 ?_; intro v' w9 hown9 hg9 hb9 hv9; have HO9 := Lib.hid hown9; have HB9 := Lib.hid (HB8.out.trans (hb9.mono HB7.out.size)); clear hown9 hg9 hb9 hv9)
      have hrd9 : RdP w9 (fun b => b < w9.heap.size) 1 v' (ea ++ [(0 : UInt8)]).length ((ea ++ [(0 : UInt8)]).map bv) := by
        rw [List.length_append, List.map_append]
        exact (RdP.of_own HO9.out).mono fun b hb _ => hb
      refine (parse_m (ea ++ [0]) _ w9 hrd9).mono ?_
      rintro e w10 ⟨_, h2, hb10⟩
      obtain rfl := h2 Hmore.out
      have HB10 := Lib.hid (Below.then HB9.out hb10 HB9.out.size)
      clear h2 hb10 HB9 hrd9 HO9 HB8
      go_wp2_with fail
      have HB11 := Lib.hid (Below.then HB10.out (alloc_below w10 (.cells #[.int .i64 0, .int .i64 0, .int .i64 0, .int .i64 0, .int .i64 0, .int .i64 0, .slice none 0 0, .slice none 0 0, .slice none 0 0, .slice none 0 0] 27)) HB10.out.size)
      refine (wakes06 _).mono ?_
      rintro e wz ⟨rfl, hbz⟩
      have HBz := Lib.hid (Below.then HB11.out hbz HB11.out.size)
      clear hbz
      go_wp2_with fail
      go_ret
      exact ⟨rfl, HBz.out⟩
end Go.Proofs.Ytljfoajhobambaa.msgsUnlike

