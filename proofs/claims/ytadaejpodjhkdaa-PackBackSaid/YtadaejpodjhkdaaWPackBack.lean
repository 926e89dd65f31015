/- The walk of PackBack. Printed by gen_pback.py. -/
import Derived.Test.YtadaejpodjhkdaaPz
import Derived.Deep.CutBlock
namespace Go.Proofs.Ytadaejpodjhkdaa.packBack
open Go.RowKit
set_option linter.unusedVariables false

/-- A cut out of bytes reads as what stands there. -/
theorem RdP.mid {w : World} {P : Nat → Prop} {b o n c : Nat} {l : List UInt8} (h : RdP w P 1 (.slice (some ⟨b, o, none⟩) n c) l.length (l.map bv)) {lo hi : Nat} {e : List UInt8} (ha : Psp.At l (lo : Int) (hi : Int) e) (hp : 0 < e.length) :
    RdP w P 1 (.slice (some ⟨b, o + lo, none⟩) (hi - lo) (c - lo)) e.length (e.map bv) := by
  obtain ⟨pre, suf, rfl, e1, e2⟩ := ha
  obtain ⟨h1, A', c', e0, h3, h4, h5⟩ := h
  injection e0 with e01 e02 e03
  subst e01 e03
  have hlo : lo = pre.length := by omega
  have hhi : hi = pre.length + e.length := by omega
  simp only [List.length_append] at h3 e02
  have he : hi - lo = e.length := by omega
  rw [he]
  refine ⟨by simp, _, c - lo, rfl, by omega, by omega, fun _ => ?_⟩
  obtain ⟨b', o', e4, hb, hlt, hl⟩ := h5 (by simp; omega)
  injection e4 with e4
  injection e4 with e5 e6
  subst e5 e6
  refine ⟨b, o + lo, rfl, hb, hlt, fun j u hu => ?_⟩
  have := hl (lo + j) u (by
    rw [hlo, List.map_append, List.getElem?_append_right (by simp), List.map_append, List.length_map, Nat.add_sub_cancel_left, List.getElem?_append_left (by have := (List.getElem?_eq_some_iff.1 hu).1; simpa using this)]
    exact hu)
  rwa [← Nat.add_assoc] at this
theorem encL_pos {α : Type} (e : α → List UInt8) (ok : α → Bool) (l : List α) (h : Psp.okL ok l = true) : 0 < (Psp.encL e l).length := by
  unfold Psp.okL at h
  rw [Bool.and_eq_true, decide_eq_true_eq] at h
  unfold Psp.encL
  have := (Psp.encN_len ((Psp.okN_iff (l.length : Int)).2 ⟨by omega, by omega⟩)).1
  rw [List.length_append]; omega

theorem Taken.opens {α : Type} {d : Psp.Dec (List α)} {RD : World → (Nat → Prop) → Value → List α → Prop} {b : List UInt8} {a : Int} {w w' : World} {e : Ending} (h : Taken d RD b a w e w') :
    ∃ x1 x2 x3, e = .returned (.tuple #[x1, x2, x3]) ∧ Taken d RD b a w (.returned (.tuple #[x1, x2, x3])) w' := by
  cases hd : d b a with
  | none => have := h.2.1 hd; subst this; exact ⟨_, _, _, rfl, h⟩
  | some q =>
    obtain ⟨v, he, _⟩ := h.1 q.1 q.2 (by rw [hd])
    subst he; exact ⟨_, _, _, rfl, h⟩

set_option maxRecDepth 100000 in
set_option maxHeartbeats 30000000 in
theorem walk (v : Value) (l : List UInt8) (at0 : Int) (w : World) (hr : Rd w w.heap.size 1 v l.length (l.flatMap fun c => [bv c])) (wl : ∀ c ∈ l, True) (ha : isI64 at0) :
    Calls Try.prog 11 #[v, .int .i64 at0] w fun e w' => e = .returned (.bool true) ∧ Below w.heap.size w w' := by
  rw [flat_one] at hr
  have hp := hr.to_p (Nat.le_refl _)
  obtain ⟨ha1, ha2⟩ := ha
  obtain ⟨n, hn⟩ : ∃ n, l.length = n := ⟨_, rfl⟩
  have hp' := hp
  rw [hn] at hp'
  obtain ⟨_, A, c, rfl, hc1, hc2, _⟩ := hp'.parts
  have Hp := Lib.hid hp
  have Hn := Lib.hid hn
  have HB0 := Lib.hid (Below.refl w.heap.size w)
  clear hp hp' hr wl hn
  go_enter Try.func11, Try.ntmps11
  go_upto_if 22 with fail
  go_cut [0] from 5 to 135 (fun x wx => w = wx ∧ ∃ bb : List UInt8, x = .slice A bb.length c ∧ bb.length ≤ 600 ∧ bb.length ≤ c ∧ RdP w (fun b => b < w.heap.size) 1 (.slice A bb.length c) bb.length (bb.map bv))
  case first =>
    by_cases h600 : 600 < n
    case' pos =>
      have d1 : decide (600 < (n : Int)) = true := by simp; omega
      have hbl : (l.take 600).length = 600 := by rw [List.length_take, Hn.out]; omega
      have hrd : RdP w (fun b => b < w.heap.size) 1 (.slice A 600 c) (l.take 600).length ((l.take 600).map bv) := Hp.out.cut (by rw [Hn.out]; omega)
      have Hrd := Lib.hid hrd
      clear hrd
      go_wp2_with fail
      go_meet
      exact ⟨rfl, l.take 600, by rw [hbl], by omega, by omega, by rw [hbl]; rw [hbl] at Hrd; exact Hrd.out⟩
    case' neg =>
      have d1 : decide (600 < (n : Int)) = false := by simp; omega
      go_wp2_with fail
      go_meet
      exact ⟨rfl, l, by rw [Hn.out], by rw [Hn.out]; omega, by rw [Hn.out]; omega, by have := Hp.out; rw [Hn.out] at this ⊢; exact this⟩
  case' rest =>
    obtain ⟨rfl, bb, rfl, hb1, hb3, hrd⟩ := hcut
    have Hrd := Lib.hid hrd
    clear hrd
    have hw1 := Psp.within_lo at0 ((bb.length : Int) + 1)
    have hw2 := Psp.within_hi at0 ((bb.length : Int) + 1) (by omega)
    obtain ⟨k, hk⟩ : ∃ k : Nat, Psp.within at0 ((bb.length : Int) + 1) = (k : Int) := ⟨(Psp.within at0 ((bb.length : Int) + 1)).toNat, by omega⟩
    have hkb : k ≤ bb.length := by omega
    have Hk := Lib.hid hk
    clear hk hw1 hw2
    go_wp2_with fail
    refine (within_any at0 _ w (by omega) (by omega) (by omega) (by omega)).mono ?_
    rintro e w' ⟨rfl, rfl⟩
    rw [Hk.out]
    go_wp2_with fail
    refine (takeC bb _ (k : Int) _ Hrd.out ⟨by omega, by omega⟩).mono ?_
    intro e w1 h
    obtain ⟨x1, x2, x3, rfl, h⟩ := Taken.opens h
    have HT := Lib.hid h
    have HB1 := Lib.hid (Below.then HB0.out h.2.2 HB0.out.size)
    have Hrd1 := Lib.hid (Hrd.out.keeps (Keeps.on h.2.2))
    clear h HB0 Hrd
    go_upto_if 37 with fail
    go_cut [] from 5 to 135 (fun wx => Below w.heap.size w wx ∧ RdP wx (fun b => b < wx.heap.size) 1 (.slice A bb.length c) bb.length (bb.map bv))
    case first =>
      obtain ⟨h1, h2, hb⟩ := HT.out
      clear HT
      cases hd : Psp.dL Psp.dC bb (k : Int)
      case' none =>
        have he := h2 hd
        injection he with he
        injection he with he
        simp only [Array.mk.injEq, List.cons.injEq, and_true] at he
        obtain ⟨rfl, rfl, rfl⟩ := he
        clear h1 h2 hb hd
        go_wp2_with fail
        go_meet
        exact ⟨HB1.out, Hrd1.out⟩
      case' some q =>
        obtain ⟨lc, a'⟩ := q
        obtain ⟨vc, he, hL⟩ := h1 lc a' hd
        injection he with he
        injection he with he
        simp only [Array.mk.injEq, List.cons.injEq, and_true] at he
        obtain ⟨rfl, rfl, rfl⟩ := he
        obtain ⟨hok, hAt⟩ := (Psp.codec_L Psp.codec_C _ _ _ _).1 hd
        have hbd := hAt.bd
        have hpos := encL_pos Psp.encC Psp.okC lc hok
        obtain ⟨an, rfl⟩ : ∃ an : Nat, a' = (an : Int) := ⟨a'.toNat, by omega⟩
        have q1 : k < an := by omega
        have q2 : an ≤ bb.length := by omega
        obtain ⟨_, A', c', e0, _, _, hcell⟩ := Hrd1.out.parts
        obtain ⟨b0, o0, e1, _, _, _⟩ := hcell (by omega)
        injection e0 with e01 _ e02
        subst e1
        subst e01 e02
        have HL := Lib.hid hL
        have Hok := Lib.hid hok
        have Hsub := Lib.hid (RdP.mid Hrd1.out hAt hpos)
        clear h1 h2 hb hd hL hok hAt hbd hpos hcell
        go_wp2_with fail
        refine (pk_certs lc _ w1 (HL.out.keeps (Keeps.mono fun b hb _ => hb))).mono ?_
        intro e w2 h
        obtain ⟨A1, c1, rfl, ho, hb⟩ := Bytes.rd h (show res _ _ = Psp.encL Psp.encC lc by rw [Hok.out]; rfl) Hok.out
        have H1 := Lib.hid ho
        have HB2 := Lib.hid (Below.then HB1.out hb HB1.out.size)
        have Hrd2 := Lib.hid (Hrd1.out.keeps (Keeps.on hb))
        have Hsub2 := Lib.hid (Hsub.out.keeps (Keeps.on hb))
        clear h ho hb HB1 Hrd1 Hsub HL Hok
        go_wp2_with fail
        refine (same_bytes _ _ _ _ _ _ w2 H1.out.to_rd Hsub2.out.to_rd).mono ?_
        rintro e w3 ⟨rfl, q3, rfl⟩
        rw [decide_eq_true rfl]
        have HB0 := Lib.hid (below_drewN HB2.out q3)
        have Hrd := Lib.hid (Hrd2.out.keeps (Keeps.drewN _ q3))
        clear H1 HB2 Hrd2 Hsub2
        go_wp2_with fail
        go_meet
        exact ⟨HB0.out, Hrd.out⟩
    case' rest =>
      obtain ⟨hb, hrd⟩ := hcut
      have HB0 := Lib.hid hb
      have Hrd := Lib.hid hrd
      clear hb hrd HT HB1 Hrd1
      go_wp2_with fail
    refine (takeP bb _ (k : Int) _ Hrd.out ⟨by omega, by omega⟩).mono ?_
    intro e w1 h
    obtain ⟨x1, x2, x3, rfl, h⟩ := Taken.opens h
    have HT := Lib.hid h
    have HB1 := Lib.hid (Below.then HB0.out h.2.2 HB0.out.size)
    have Hrd1 := Lib.hid (Hrd.out.keeps (Keeps.on h.2.2))
    clear h HB0 Hrd
    go_upto_if 72 with fail
    go_cut [] from 5 to 135 (fun wx => Below w.heap.size w wx ∧ RdP wx (fun b => b < wx.heap.size) 1 (.slice A bb.length c) bb.length (bb.map bv))
    case first =>
      obtain ⟨h1, h2, hb⟩ := HT.out
      clear HT
      cases hd : Psp.dL Psp.dP bb (k : Int)
      case' none =>
        have he := h2 hd
        injection he with he
        injection he with he
        simp only [Array.mk.injEq, List.cons.injEq, and_true] at he
        obtain ⟨rfl, rfl, rfl⟩ := he
        clear h1 h2 hb hd
        go_wp2_with fail
        go_meet
        exact ⟨HB1.out, Hrd1.out⟩
      case' some q =>
        obtain ⟨lc, a'⟩ := q
        obtain ⟨vc, he, hL⟩ := h1 lc a' hd
        injection he with he
        injection he with he
        simp only [Array.mk.injEq, List.cons.injEq, and_true] at he
        obtain ⟨rfl, rfl, rfl⟩ := he
        obtain ⟨hok, hAt⟩ := (Psp.codec_L Psp.codec_P _ _ _ _).1 hd
        have hbd := hAt.bd
        have hpos := encL_pos Psp.encP Psp.okP lc hok
        obtain ⟨an, rfl⟩ : ∃ an : Nat, a' = (an : Int) := ⟨a'.toNat, by omega⟩
        have q1 : k < an := by omega
        have q2 : an ≤ bb.length := by omega
        obtain ⟨_, A', c', e0, _, _, hcell⟩ := Hrd1.out.parts
        obtain ⟨b0, o0, e1, _, _, _⟩ := hcell (by omega)
        injection e0 with e01 _ e02
        subst e1
        subst e01 e02
        have HL := Lib.hid hL
        have Hok := Lib.hid hok
        have Hsub := Lib.hid (RdP.mid Hrd1.out hAt hpos)
        clear h1 h2 hb hd hL hok hAt hbd hpos hcell
        go_wp2_with fail
        refine (pk_parts lc _ w1 (HL.out.keeps (Keeps.mono fun b hb _ => hb))).mono ?_
        intro e w2 h
        obtain ⟨A1, c1, rfl, ho, hb⟩ := Bytes.rd h (show res _ _ = Psp.encL Psp.encP lc by rw [Hok.out]; rfl) Hok.out
        have H1 := Lib.hid ho
        have HB2 := Lib.hid (Below.then HB1.out hb HB1.out.size)
        have Hrd2 := Lib.hid (Hrd1.out.keeps (Keeps.on hb))
        have Hsub2 := Lib.hid (Hsub.out.keeps (Keeps.on hb))
        clear h ho hb HB1 Hrd1 Hsub HL Hok
        go_wp2_with fail
        refine (same_bytes _ _ _ _ _ _ w2 H1.out.to_rd Hsub2.out.to_rd).mono ?_
        rintro e w3 ⟨rfl, q3, rfl⟩
        rw [decide_eq_true rfl]
        have HB0 := Lib.hid (below_drewN HB2.out q3)
        have Hrd := Lib.hid (Hrd2.out.keeps (Keeps.drewN _ q3))
        clear H1 HB2 Hrd2 Hsub2
        go_wp2_with fail
        go_meet
        exact ⟨HB0.out, Hrd.out⟩
    case' rest =>
      obtain ⟨hb, hrd⟩ := hcut
      have HB0 := Lib.hid hb
      have Hrd := Lib.hid hrd
      clear hb hrd HT HB1 Hrd1
      go_wp2_with fail
    refine (takeR bb _ (k : Int) _ Hrd.out ⟨by omega, by omega⟩).mono ?_
    intro e w1 h
    obtain ⟨x1, x2, x3, rfl, h⟩ := Taken.opens h
    have HT := Lib.hid h
    have HB1 := Lib.hid (Below.then HB0.out h.2.2 HB0.out.size)
    have Hrd1 := Lib.hid (Hrd.out.keeps (Keeps.on h.2.2))
    clear h HB0 Hrd
    go_upto_if 107 with fail
    go_cut [] from 5 to 135 (fun wx => Below w.heap.size w wx ∧ RdP wx (fun b => b < wx.heap.size) 1 (.slice A bb.length c) bb.length (bb.map bv))
    case first =>
      obtain ⟨h1, h2, hb⟩ := HT.out
      clear HT
      cases hd : Psp.dL Psp.dR bb (k : Int)
      case' none =>
        have he := h2 hd
        injection he with he
        injection he with he
        simp only [Array.mk.injEq, List.cons.injEq, and_true] at he
        obtain ⟨rfl, rfl, rfl⟩ := he
        clear h1 h2 hb hd
        go_wp2_with fail
        go_meet
        exact ⟨HB1.out, Hrd1.out⟩
      case' some q =>
        obtain ⟨lc, a'⟩ := q
        obtain ⟨vc, he, hL⟩ := h1 lc a' hd
        injection he with he
        injection he with he
        simp only [Array.mk.injEq, List.cons.injEq, and_true] at he
        obtain ⟨rfl, rfl, rfl⟩ := he
        obtain ⟨hok, hAt⟩ := (Psp.codec_L Psp.codec_R _ _ _ _).1 hd
        have hbd := hAt.bd
        have hpos := encL_pos Psp.encR Psp.okR lc hok
        obtain ⟨an, rfl⟩ : ∃ an : Nat, a' = (an : Int) := ⟨a'.toNat, by omega⟩
        have q1 : k < an := by omega
        have q2 : an ≤ bb.length := by omega
        obtain ⟨_, A', c', e0, _, _, hcell⟩ := Hrd1.out.parts
        obtain ⟨b0, o0, e1, _, _, _⟩ := hcell (by omega)
        injection e0 with e01 _ e02
        subst e1
        subst e01 e02
        have HL := Lib.hid hL
        have Hok := Lib.hid hok
        have Hsub := Lib.hid (RdP.mid Hrd1.out hAt hpos)
        clear h1 h2 hb hd hL hok hAt hbd hpos hcell
        go_wp2_with fail
        refine (pk_batch lc _ w1 (HL.out.keeps (Keeps.mono fun b hb _ => hb))).mono ?_
        intro e w2 h
        obtain ⟨A1, c1, rfl, ho, hb⟩ := Bytes.rd h (show res _ _ = Psp.encL Psp.encR lc by rw [Hok.out]; rfl) Hok.out
        have H1 := Lib.hid ho
        have HB2 := Lib.hid (Below.then HB1.out hb HB1.out.size)
        have Hrd2 := Lib.hid (Hrd1.out.keeps (Keeps.on hb))
        have Hsub2 := Lib.hid (Hsub.out.keeps (Keeps.on hb))
        clear h ho hb HB1 Hrd1 Hsub HL Hok
        go_wp2_with fail
        refine (same_bytes _ _ _ _ _ _ w2 H1.out.to_rd Hsub2.out.to_rd).mono ?_
        rintro e w3 ⟨rfl, q3, rfl⟩
        rw [decide_eq_true rfl]
        have HB0 := Lib.hid (below_drewN HB2.out q3)
        have Hrd := Lib.hid (Hrd2.out.keeps (Keeps.drewN _ q3))
        clear H1 HB2 Hrd2 Hsub2
        go_wp2_with fail
        go_meet
        exact ⟨HB0.out, Hrd.out⟩
    case' rest =>
      obtain ⟨hb, hrd⟩ := hcut
      have HB0 := Lib.hid hb
      have Hrd := Lib.hid hrd
      clear hb hrd HT HB1 Hrd1
      go_wp2_with fail
    refine (wakes02 _).mono ?_
    rintro e w9 ⟨rfl, hb⟩
    have HB9 := Lib.hid (Below.then HB0.out hb HB0.out.size)
    clear hb
    go_wp2_with fail
    go_ret
    exact ⟨rfl, HB9.out⟩
end Go.Proofs.Ytadaejpodjhkdaa.packBack
