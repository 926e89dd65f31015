/- Package msgs: sealed, Changed. -/
import Derived.Test.YtadpkjgjciodnaaGreatTwVi
import Derived.Test.YtadpkjgjciodnaaGreatFp2Vi
import Derived.Test.YtadpkjgjciodnaaGreatOpVi
namespace Go.Proofs.YtadpkjgjciodnaaGreat
open Go.RowKit
set_option linter.unusedVariables false
set_option linter.unusedSimpArgs false

/-- Is it its sender's seal of a message? -/
def sealedB (K : List Key) (m : Psp.Msg) (s : Int) : Bool := Psp.okB m && chkB K (kM m) s

set_option maxRecDepth 100000 in
set_option maxHeartbeats 2000000 in
theorem sealed_m (m : Psp.Msg) (vb vo vc vp : Value) (s : Int) (g bm : Nat) (K : List Key) (w : World) (hx : MsgOk w (fun b => b < w.heap.size) ⟨m, vb, vo, vc, vp⟩) (hf : isI64 m.f) (hN : Nt w g bm K) :
    Calls Tryz.prog 49 #[.agg #[.int .i64 m.k, .int .i64 m.f, .int .i64 m.v, .int .i64 m.i, .int .i64 m.q, .int .i64 m.r, vb, vo, vc, vp], .int .i64 s, .pointer (some ⟨g, 0, none⟩)] w fun e w' => e = .returned (.bool (sealedB K m s)) ∧ Below w.heap.size w w' := by
  obtain ⟨Ab, Ao, Ac, Ap, cb, co, cc, cp, rfl, rfl, rfl, rfl⟩ := msg_slices hx
  have HX := Lib.hid hx
  have HF := Lib.hid hf
  have HN := Lib.hid hN
  clear hx hf hN
  have hb0 := alloc_below w (.cells #[.int .i64 m.k, .int .i64 m.f, .int .i64 m.v, .int .i64 m.i, .int .i64 m.q, .int .i64 m.r, .slice Ab m.b.length cb, .slice Ao m.o.length co, .slice Ac m.c.length cc, .slice Ap m.p.length cp] 41)
  have hc0 := heap_alloc_new w (.cells #[.int .i64 m.k, .int .i64 m.f, .int .i64 m.v, .int .i64 m.i, .int .i64 m.q, .int .i64 m.r, .slice Ab m.b.length cb, .slice Ao m.o.length co, .slice Ac m.c.length cc, .slice Ap m.p.length cp] 41)
  go_enter Tryz.func49, Tryz.ntmps49
  go_wp2_with fail
  obtain ⟨W, hW⟩ : ∃ W, w.alloc (.cells #[.int .i64 m.k, .int .i64 m.f, .int .i64 m.v, .int .i64 m.i, .int .i64 m.q, .int .i64 m.r, .slice Ab m.b.length cb, .slice Ao m.o.length co, .slice Ac m.c.length cc, .slice Ap m.p.length cp] 41) = W := ⟨_, rfl⟩
  rw [hW] at hb0 hc0 ⊢
  have HB0 := Lib.hid hb0
  have HC0 := Lib.hid hc0
  clear hW hb0 hc0
  refine (body_m m _ _ _ _ W (HX.out.keeps (Keeps.on HB0.out))).mono ?_
  intro e w1 hh
  obtain ⟨A, c, rfl, hp, hb⟩ := Bytes.rdb hh rfl rfl
  have HB1 := Lib.hid (Below.then HB0.out hb HB0.out.size)
  have HC1 := Lib.hid (box_below HC0.out hb (Nat.le_refl _))
  have HN1 := Lib.hid (HN.out.below HB1.out)
  have HP := Lib.hid hp
  clear hh hp hb HB0 HC0
  cases hok : Psp.okB m with
  | false =>
    have Hk : Hid (sealedB K m s = false) := Lib.hid (by unfold sealedB; rw [hok]; rfl)
    clear hok HP
    go_wp2_with fail
    go_ret
    exact ⟨by rw [Hk.out]; rfl, HB1.out⟩
  | true =>
    have hkk := kM_ok HF.out hok
    have Hk : Hid (sealedB K m s = chkB K (kM m) s) := Lib.hid (by unfold sealedB; rw [hok]; rfl)
    rw [hok, res_yes] at HP
    have Hkk := Lib.hid hkk
    clear hok hkk
    rw [res_yes]
    have y1 : w1.cell? ⟨w.heap.size, 1, none⟩ = some (.int .i64 m.f) := by rw [cell_of_row _ _ 1 _ _ _ HC1.out]; rfl
    go_wp2_with fail
    refine (nt_check g bm K m.f (Psp.encM m) s _ w1 _ HN1.out Hkk.out HP.out).mono ?_
    rintro e w2 ⟨rfl, q, rfl⟩
    clear y1
    go_wp2_with fail
    go_ret
    exact ⟨by rw [Hk.out]; rfl, below_drewN HB1.out q⟩

/-- A vote to leave a view. -/
def chM (n v : Int) : Psp.Msg := ⟨6, n, v, 0, 0, 0, [], [], [], []⟩
/-- Are these enough votes against a view? -/
def changedB (K : List Key) (view : Int) (l : List Psp.Vote) (f : Int) : Bool := Psp.win view 0 11 && (Psp.rising (l.map (·.n)) f && l.all fun v => sealedB K (chM v.n view) v.s)

set_option maxRecDepth 100000 in
set_option maxHeartbeats 4000000 in
theorem changed_m (view : Int) (v : Value) (l : List Psp.Vote) (f : Int) (g bm : Nat) (K : List Key) (w : World) (P : Nat → Prop) (hx : RdP w P 2 v l.length (l.flatMap vt)) (hw : ∀ x ∈ l, wfVote x) (hN : Nt w g bm K) :
    Calls Tryz.prog 26 #[.int .i64 view, v, .int .i64 f, .pointer (some ⟨g, 0, none⟩)] w fun e w' => e = .returned (.bool (changedB K view l f)) ∧ Below w.heap.size w w' := by
  obtain ⟨T, hT⟩ : ∃ T, changedB K view l f = T := ⟨_, rfl⟩
  rw [hT]
  have HT := Lib.hid hT
  have HX := Lib.hid hx
  have HN := Lib.hid hN
  have Hw := Lib.hid hw
  obtain ⟨_, A, c, rfl, hx1, hx2, hxc⟩ := hx.parts
  have Hxc := Lib.hid hxc
  clear hT hx hN hw hxc
  go_enter Tryz.func26, Tryz.ntmps26
  go_wp2_with fail
  refine (win_any _ _ _ _).mono ?_
  rintro e w' ⟨rfl, rfl⟩
  cases hwn : Psp.win view 0 11 with
  | false =>
    have HF : Hid (T = false) := Lib.hid (by rw [← HT.out]; unfold changedB; rw [hwn]; rfl)
    obtain rfl := HF.out
    clear HT HF hwn
    go_wp2_with fail
    go_ret
    exact ⟨rfl, Below.refl _ _⟩
  | true =>
    have HT1 : Hid ((Psp.rising (l.map (·.n)) f && l.all fun v => sealedB K (chM v.n view) v.s) = T) := Lib.hid (by rw [← HT.out]; unfold changedB; rw [hwn]; rfl)
    clear HT hwn
    go_wp2_with fail
    refine (rising_l l l.length _ f w P HX.out rfl Hw.out).mono ?_
    rintro e w1 ⟨rfl, hb1⟩
    have HB1 := Lib.hid hb1
    clear hb1
    cases hri : Psp.rising (l.map (·.n)) f with
    | false =>
      have HF : Hid (T = false) := Lib.hid (by rw [← HT1.out, hri]; rfl)
      obtain rfl := HF.out
      clear HT1 HF hri
      go_wp2_with fail
      go_ret
      exact ⟨rfl, HB1.out⟩
    | true =>
      have HT2 : Hid ((l.all fun v => sealedB K (chM v.n view) v.s) = T) := Lib.hid (by rw [← HT1.out, hri]; rfl)
      obtain ⟨n, hn⟩ : ∃ n, l.length = n := ⟨_, rfl⟩
      have Hn := Lib.hid hn
      rw [hn] at hx1 Hxc ⊢
      clear HT1 hri hn
      go_wp2_with fail
      go_loopw [22] (fun i wr => ∃ k : Nat, i = .int .i64 (k : Int) ∧ k ≤ n ∧ Hid ((l.take k).all (fun v => sealedB K (chM v.n view) v.s) = true) ∧ Hid (Below w.heap.size w wr)) (fun i _ => n - (intOf i).toNat)
      case atStart => exact ⟨0, rfl, Nat.zero_le _, Lib.hid rfl, HB1⟩
      case round =>
        obtain ⟨k, rfl, hk, Hall, HBr⟩ := hrel
        by_cases hlt : k < n
        · obtain ⟨b1, o1, hA1, hP1, hb1, h1⟩ := Hxc.out (by omega)
          subst hA1
          have hkl : k < l.length := by have := Hn.out; omega
          have r1 := range_keep (range_elem (f := vt) (k := 2) (fun _ => rfl) h1 hkl) (HBr.out.block b1 hb1)
          have hst : (l.take (k + 1)).all (fun v => sealedB K (chM v.n view) v.s) = sealedB K (chM l[k].n view) l[k].s := by rw [List.take_succ_eq_append_getElem hkl, List.all_append, Hall.out]; simp
          have hno : sealedB K (chM l[k].n view) l[k].s = false → (l.all fun v => sealedB K (chM v.n view) v.s) = false := fun h => List.all_eq_false.2 ⟨l[k], List.getElem_mem hkl, by simp [h]⟩
          have hwv := Hw.out _ (List.getElem_mem hkl)
          obtain ⟨t, ht⟩ : ∃ t, l[k] = t := ⟨_, rfl⟩
          rw [ht] at r1 hst hno hwv
          obtain ⟨tn, ts⟩ := t
          have x0 := r1 0 _ rfl
          have x1 := r1 1 _ rfl
          simp only [Nat.add_zero, iv] at x0 x1
          have Hst := Lib.hid hst
          have Hno := Lib.hid hno
          have Hwv := Lib.hid hwv
          have kb0 : (0 : Int) ≤ (k : Int) := by omega
          have kb1 : (k : Int) < (n : Int) := by omega
          have hba := alloc_below wr (.cells #[.int .i64 tn, .int .i64 ts] 54)
          have HB2 := Lib.hid (Below.then HBr.out hba HBr.out.size)
          clear r1 hst hno hwv ht h1 hba
          go_wp2_with fail
          clear x0 x1
          refine (sealed_m (chM tn view) (.slice none 0 0) (.slice none 0 0) (.slice none 0 0) (.slice none 0 0) ts g bm K _ ⟨RdP.none_, RdP.none_, RdC.nil, RdA.nil⟩ Hwv.out.1 (HN.out.below HB2.out)).mono ?_
          rintro e w3 ⟨rfl, hb3⟩
          have HB3 := Lib.hid (Below.then HB2.out hb3 HB2.out.size)
          clear hb3
          cases hse : sealedB K (chM tn view) ts with
          | false =>
            have HF : Hid (T = false) := Lib.hid (by rw [← HT2.out]; exact Hno.out hse)
            obtain rfl := HF.out
            clear HT2 HF hse
            go_wp2_with fail
            go_ret
            exact ⟨rfl, HB3.out⟩
          | true =>
            have Hs2 : Hid ((l.take (k + 1)).all (fun v => sealedB K (chM v.n view) v.s) = true) := Lib.hid (by rw [Hst.out]; exact hse)
            clear hse
            go_wp2_with fail
            first
              | (go_roundw
                 case rel => exact ⟨k + 1, by go_num, by omega, Hs2, HB3⟩
                 case measure => simp [intOf]; omega)
              | (refine ⟨⟨k + 1, by go_num, by omega, Hs2, HB3⟩, ?_⟩
                 simp [intOf]; omega)
        · have HF : Hid (T = true) := Lib.hid (by rw [← HT2.out, ← Hall.out, List.take_of_length_le (by rw [Hn.out]; omega)])
          obtain rfl := HF.out
          clear HF HT2
          go_wp2_with fail
          go_ret
          exact ⟨rfl, HBr.out⟩
end Go.Proofs.YtadpkjgjciodnaaGreat
