/- The walk of MsgsParses. -/
import Derived.Test.YtljfoajhobambaaMx
namespace Go.Proofs.Ytljfoajhobambaa.msgsParses
open Go.RowKit
set_option linter.unusedVariables false
set_option linter.unusedSimpArgs false

set_option maxRecDepth 100000 in
set_option maxHeartbeats 4000000 in
theorem walk (v : Value) (l : List UInt8) (w : World) (hv : Rd w w.heap.size 1 v l.length (l.flatMap fun n => [bv n])) (wl : ∀ b ∈ l, True) :
    Calls Try.prog 6 #[v] w fun e w' => e = .returned (.bool true) ∧ Below w.heap.size w w' := by
  have hfl : (l.flatMap fun n => [bv n]) = l.map bv := (List.map_eq_flatMap ..).symm
  rw [hfl] at hv
  clear hfl
  have hp := hv.to_p (Nat.le_refl _)
  clear hv wl
  obtain ⟨_, A, c, rfl, hc1, hc2, _⟩ := hp.parts
  have HP := Lib.hid hp
  clear hp
  by_cases hbig : 2000 < l.length
  case' pos =>
    have d1 : decide (2000 < (l.length : Int)) = true := by simp; omega
    have hcut := HP.out.cut (k := 2000) (by omega)
    have hl2 : (l.take 2000).length = 2000 := by rw [List.length_take]; omega
    have e1 : (2000 : Int) ≤ (c : Int) := by omega
    obtain ⟨l2, hl2'⟩ : ∃ l2, l.take 2000 = l2 := ⟨_, rfl⟩
    rw [hl2'] at hcut hl2
    have HL := Lib.hid hcut
    clear hcut HP hl2'
    go_enter Try.func6, Try.ntmps6
    go_wp2_with fail
  case' neg =>
    have d1 : decide (2000 < (l.length : Int)) = false := by simp; omega
    obtain ⟨l2, hl2'⟩ : ∃ l2, l2 = l := ⟨_, rfl⟩
    have HL : Hid (RdP w (fun b => b < w.heap.size) 1 (.slice A l.length c) l2.length (l2.map bv)) := Lib.hid (by rw [hl2']; exact HP.out)
    have hl2 : l2.length = l.length := by rw [hl2']
    clear HP hl2'
    go_enter Try.func6, Try.ntmps6
    go_wp2_with fail
  all_goals
    clear d1 hbig
    refine (parse_m l2 _ w HL.out).mono ?_
    intro e w1 h
    obtain ⟨m, Ab, Ao, Ac, Ap, acb, aco, acc, acp, rfl, hm, hpm, hb1⟩ := TakenM.any h
    obtain ⟨o, ho⟩ : ∃ o, (Psp.parseM l2).isSome = o := ⟨_, rfl⟩
    rw [ho]
    have HM := Lib.hid hm
    have HB1 := Lib.hid hb1
    have Ho := Lib.hid ho
    have Hpm := Lib.hid hpm
    clear h hm hb1 ho hpm
    go_wp2_with fail
    have hx1 := heap_alloc_new w1 (.cells #[.int .i64 m.k, .int .i64 m.f, .int .i64 m.v, .int .i64 m.i, .int .i64 m.q, .int .i64 m.r, .slice Ab m.b.length acb, .slice Ao m.o.length aco, .slice Ac m.c.length acc, .slice Ap m.p.length acp] 27)
    have hb1 := alloc_below w1 (.cells #[.int .i64 m.k, .int .i64 m.f, .int .i64 m.v, .int .i64 m.i, .int .i64 m.q, .int .i64 m.r, .slice Ab m.b.length acb, .slice Ao m.o.length aco, .slice Ac m.c.length acc, .slice Ap m.p.length acp] 27)
    obtain ⟨W1, hW1⟩ : ∃ W, w1.alloc (.cells #[.int .i64 m.k, .int .i64 m.f, .int .i64 m.v, .int .i64 m.i, .int .i64 m.q, .int .i64 m.r, .slice Ab m.b.length acb, .slice Ao m.o.length aco, .slice Ac m.c.length acc, .slice Ap m.p.length acp] 27) = W := ⟨_, rfl⟩
    rw [hW1] at hx1 hb1 ⊢
    have HX1 := Lib.hid hx1
    have HBa := Lib.hid (Below.then HB1.out hb1 HB1.out.size)
    have HMa := Lib.hid (HM.out.keeps (Keeps.below hb1))
    clear hx1 hb1 HM HB1 hW1
    refine (rparse_m l2 _ W1 (HL.out.keeps (Keeps.on HBa.out))).mono ?_
    intro e w2 h
    obtain ⟨m2, Db, Do, Dc, Dp, dcb, dco, dcc, dcp, rfl, hm, hpm, hb2⟩ := TakenM.any h
    have hme : m2 = m := hpm.symm.trans Hpm.out
    subst hme
    rw [Ho.out]
    have HMb := Lib.hid hm
    have HX2 := Lib.hid (box_below HX1.out hb2 (Nat.le_refl _))
    have HMa2 := Lib.hid (HMa.out.keeps (Keeps.below hb2))
    have HBb := Lib.hid (Below.then HBa.out hb2 HBa.out.size)
    clear h hm hb2 hpm HX1 HMa HBa
    cases o with
    | false =>
      have hx1 := heap_alloc_new w2 (.cells #[.int .i64 m2.k, .int .i64 m2.f, .int .i64 m2.v, .int .i64 m2.i, .int .i64 m2.q, .int .i64 m2.r, .slice Db m2.b.length dcb, .slice Do m2.o.length dco, .slice Dc m2.c.length dcc, .slice Dp m2.p.length dcp] 27)
      have hb1 := alloc_below w2 (.cells #[.int .i64 m2.k, .int .i64 m2.f, .int .i64 m2.v, .int .i64 m2.i, .int .i64 m2.q, .int .i64 m2.r, .slice Db m2.b.length dcb, .slice Do m2.o.length dco, .slice Dc m2.c.length dcc, .slice Dp m2.p.length dcp] 27)
      obtain ⟨W2, hW2⟩ : ∃ W, w2.alloc (.cells #[.int .i64 m2.k, .int .i64 m2.f, .int .i64 m2.v, .int .i64 m2.i, .int .i64 m2.q, .int .i64 m2.r, .slice Db m2.b.length dcb, .slice Do m2.o.length dco, .slice Dc m2.c.length dcc, .slice Dp m2.p.length dcp] 27) = W := ⟨_, rfl⟩
      have HX3 := Lib.hid (box_below HX2.out hb1 (Nat.le_refl _))
      rw [hW2] at hx1 hb1 HX3
      obtain ⟨x0, x1, x2, x3, x4, x5, x6, x7, x8, x9⟩ := box_cells HX3.out
      obtain ⟨y0, y1, y2, y3, y4, y5, y6, y7, y8, y9⟩ := box_cells hx1
      have HY3 := Lib.hid hx1
      have HBc := Lib.hid (Below.then HBb.out hb1 HBb.out.size)
      have HMa3 := Lib.hid (HMa2.out.keeps (Keeps.below hb1))
      have HMb3 := Lib.hid (HMb.out.keeps (Keeps.below hb1))
      clear hx1 hb1 HMb HX2 HMa2 HBb
      go_wp2_with fail
      clear x0 x1 x2 x3 x4 x5 x6 x7 x8 x9 y0 y1 y2 y3 y4 y5 y6 y7 y8 y9
      try clear hW2
      refine (msg_same_yes _ _ _ _ _ _ _ _ _ _ _ _ _ HMa3.out HMb3.out rfl).mono ?_
      rintro e w3 ⟨rfl, hb3⟩
      have HBd := Lib.hid (Below.then HBc.out hb3 HBc.out.size)
      have HX4 := Lib.hid (box_below HX3.out hb3 (Nat.le_refl _))
      have HMa4 := Lib.hid (HMa3.out.keeps (Keeps.below hb3))
      clear hb3 HX3 HMa3 HMb3 HBc HY3
      go_wp2_with fail
      refine (wakes06 _).mono ?_
      rintro e w4 ⟨rfl, hb4⟩
      have HBe := Lib.hid (Below.then HBd.out hb4 HBd.out.size)
      clear hb4
      go_wp2_with fail
      go_ret
      exact ⟨rfl, HBe.out⟩
    | true =>
      have hx1 := heap_alloc_new w2 (.cells #[.int .i64 m2.k, .int .i64 m2.f, .int .i64 m2.v, .int .i64 m2.i, .int .i64 m2.q, .int .i64 m2.r, .slice Db m2.b.length dcb, .slice Do m2.o.length dco, .slice Dc m2.c.length dcc, .slice Dp m2.p.length dcp] 27)
      have hb1 := alloc_below w2 (.cells #[.int .i64 m2.k, .int .i64 m2.f, .int .i64 m2.v, .int .i64 m2.i, .int .i64 m2.q, .int .i64 m2.r, .slice Db m2.b.length dcb, .slice Do m2.o.length dco, .slice Dc m2.c.length dcc, .slice Dp m2.p.length dcp] 27)
      obtain ⟨W2, hW2⟩ : ∃ W, w2.alloc (.cells #[.int .i64 m2.k, .int .i64 m2.f, .int .i64 m2.v, .int .i64 m2.i, .int .i64 m2.q, .int .i64 m2.r, .slice Db m2.b.length dcb, .slice Do m2.o.length dco, .slice Dc m2.c.length dcc, .slice Dp m2.p.length dcp] 27) = W := ⟨_, rfl⟩
      have HX3 := Lib.hid (box_below HX2.out hb1 (Nat.le_refl _))
      rw [hW2] at hx1 hb1 HX3
      obtain ⟨x0, x1, x2, x3, x4, x5, x6, x7, x8, x9⟩ := box_cells HX3.out
      obtain ⟨y0, y1, y2, y3, y4, y5, y6, y7, y8, y9⟩ := box_cells hx1
      have HY3 := Lib.hid hx1
      have HBc := Lib.hid (Below.then HBb.out hb1 HBb.out.size)
      have HMa3 := Lib.hid (HMa2.out.keeps (Keeps.below hb1))
      have HMb3 := Lib.hid (HMb.out.keeps (Keeps.below hb1))
      clear hx1 hb1 HMb HX2 HMa2 HBb
      go_wp2_with fail
      clear x0 x1 x2 x3 x4 x5 x6 x7 x8 x9 y0 y1 y2 y3 y4 y5 y6 y7 y8 y9
      try clear hW2
      refine (msg_same_yes _ _ _ _ _ _ _ _ _ _ _ _ _ HMa3.out HMb3.out rfl).mono ?_
      rintro e w3 ⟨rfl, hb3⟩
      have HBd := Lib.hid (Below.then HBc.out hb3 HBc.out.size)
      have HX4 := Lib.hid (box_below HX3.out hb3 (Nat.le_refl _))
      have HMa4 := Lib.hid (HMa3.out.keeps (Keeps.below hb3))
      clear hb3 HX3 HMa3 HMb3 HBc HY3
      obtain ⟨hok, henc⟩ : Psp.okB m2 = true ∧ l2 = Psp.encM m2 := by
        cases hp : Psp.parseM l2 with
        | none => have h := Ho.out; rw [hp] at h; cases h
        | some m' => have h := Hpm.out; rw [hp] at h; obtain rfl : m' = m2 := h; exact (Psp.parse_iff _ _).1 hp
      have Hok := Lib.hid hok
      have Henc := Lib.hid henc
      clear hok henc
      obtain ⟨x0, x1, x2, x3, x4, x5, x6, x7, x8, x9⟩ := box_cells HX4.out
      go_wp2_with fail
      clear x0 x1 x2 x3 x4 x5 x6 x7 x8 x9
      refine (body_m m2 _ _ _ _ w3 (HMa4.out.keeps (Keeps.mono fun b hb _ => hb))).mono ?_
      intro e w4 h
      obtain ⟨A5, c5, rfl, hr5, hb4⟩ := Bytes.rdb h (by rw [Hok.out, res_yes]) Hok.out
      have HBe := Lib.hid (Below.then HBd.out hb4 HBd.out.size)
      have HR5 := Lib.hid hr5
      clear h hr5 hb4
      go_wp2_with fail
      refine (same_bytes _ _ _ _ (Psp.encM m2) l2 w4 HR5.out.to_rd (HL.out.keeps (Keeps.on HBe.out)).to_rd).mono ?_
      rintro e w5 ⟨rfl, q, rfl⟩
      rw [decide_eq_true Henc.out.symm]
      go_wp2_with fail
      refine (wakes06 _).mono ?_
      rintro e w6 ⟨rfl, hb6⟩
      have HBf := Lib.hid (Below.then (below_drewN HBe.out q) hb6 (below_drewN HBe.out q).size)
      clear hb6
      go_wp2_with fail
      go_ret
      exact ⟨rfl, HBf.out⟩
end Go.Proofs.Ytljfoajhobambaa.msgsParses
