/- The walk of PackCuts. -/
import Derived.Test.YtadaejpodjhkdaaPz
namespace Go.Proofs.Ytadaejpodjhkdaa.packCuts
open Go.RowKit
set_option linter.unusedVariables false

theorem encL_pos {α : Type} (e : α → List UInt8) (l : List α) (h : Psp.okN l.length = true) : 1 ≤ (Psp.encL e l).length := by
  unfold Psp.encL
  have := (Psp.encN_len h).1
  rw [List.length_append]; omega
theorem RdP.cut {w : World} {P : Nat → Prop} {A : Option Addr} {c : Nat} {l : List UInt8} (h : RdP w P 1 (.slice A l.length c) l.length (l.map bv)) {k : Nat} (hk : k ≤ l.length) : RdP w P 1 (.slice A k c) (l.take k).length ((l.take k).map bv) := by
  obtain ⟨h1, A', c', e, h3, h4, h5⟩ := h
  injection e with e1 _ e2
  subst e1 e2
  have hlen : (l.take k).length = k := by rw [List.length_take]; omega
  rw [hlen]
  refine ⟨by simp; omega, A, c, rfl, by omega, h4, fun hn => ?_⟩
  obtain ⟨b, o, e, hb, hlt, hl⟩ := h5 (by omega)
  refine ⟨b, o, e, hb, hlt, fun j u hu => ?_⟩
  rw [List.map_take, List.getElem?_take] at hu
  split at hu
  · exact hl j u hu
  · cases hu

set_option maxRecDepth 100000 in
set_option maxHeartbeats 2000000 in
theorem walk (v : Value) (l : List Psp.Cert) (at0 : Int) (w : World) (hl : RdC w (fun b => b < w.heap.size) v l) (wl : ∀ c ∈ l, wfCert c) (ha : isI64 at0) :
    Calls Try.prog 8 #[v, .int .i64 at0] w fun e w' => e = .returned (.bool true) ∧ Below w.heap.size w w' := by
  have Hl := Lib.hid hl
  obtain ⟨ha1, ha2⟩ := ha
  clear hl wl
  have HB0 := Lib.hid (Below.refl w.heap.size w)
  cases hh : heavyC l with
  | true =>
    have Hh := Lib.hid hh
    clear hh
    go_enter Try.func8, Try.ntmps8
    go_wp2_with fail
    refine (heavyC_any v l _ _ Hl.out).mono ?_
    rintro e w1 ⟨rfl, rfl⟩
    rw [Hh.out]
    go_wp2_with (go_at_call 12; refine (wakes02 _).mono ?_; rintro e w' ⟨rfl, hb⟩; have Hb := Lib.hid hb; clear hb)
    go_ret
    exact ⟨rfl, Hb.out⟩
  | false =>
    have hhv := (heavyC_no hh).1
    have Hh := Lib.hid hh
    clear hh
    obtain ⟨bl, hbl⟩ : ∃ b, res (Psp.encL Psp.encC l) (Psp.okL Psp.okC l) = b := ⟨_, rfl⟩
    obtain ⟨ol, hol⟩ : ∃ b, Psp.okL Psp.okC l = b := ⟨_, rfl⟩
    have Hbl := Lib.hid hbl
    have Hol := Lib.hid hol
    clear hbl hol
    go_enter Try.func8, Try.ntmps8
    go_wp2_with fail
    refine (heavyC_any v l _ _ Hl.out).mono ?_
    rintro e w1 ⟨rfl, rfl⟩
    rw [Hh.out]
    go_wp2_with fail
    refine (pk_certs l _ _ Hl.out).mono ?_
    intro e w1 h
    obtain ⟨A1, c1, rfl, ho, hb⟩ := Bytes.rd h Hbl.out Hol.out
    have hbl9 : bl.length ≤ 9223372036854775807 := ho.to_rd.bd
    obtain ⟨_, A1', c1', e1, hc1, hc2, _⟩ := ho.parts
    injection e1 with e11 _ e12
    subst e11 e12
    have H1 := Lib.hid ho
    have HB1 := Lib.hid hb
    clear h ho hb
    cases ol with
    | false =>
      go_wp2_with (go_at_call 12; refine (wakes02 _).mono ?_; rintro e w' ⟨rfl, hb⟩; have Hb := Lib.hid hb; clear hb)
      go_ret
      exact ⟨rfl, Below.then HB1.out Hb.out HB1.out.size⟩
    | true =>
      have hbe : bl = Psp.encL Psp.encC l := by rw [← Hbl.out, Hol.out]; rfl
      have hpos : 1 ≤ bl.length := by rw [hbe]; exact encL_pos _ _ ((Psp.okN_iff _).2 ⟨by omega, by omega⟩)
      obtain ⟨k, hk⟩ : ∃ k, Psp.within at0 (bl.length : Int) = k := ⟨_, rfl⟩
      have y1 := Psp.within_lo at0 (bl.length : Int)
      have y2 := Psp.within_hi at0 (bl.length : Int) (by omega)
      rw [hk] at y1 y2
      obtain ⟨kn, rfl⟩ : ∃ kn : Nat, k = (kn : Int) := ⟨k.toNat, by omega⟩
      have hcut : Psp.dL Psp.dC (bl.take kn) 0 = none := by
        rw [hbe]
        exact (Psp.codec_L Psp.codec_C).cut Hol.out (by rw [← hbe]; omega)
      have Hcut := Lib.hid hcut
      have Hk := Lib.hid hk
      have hrd := RdP.cut H1.out (k := kn) (by omega)
      have Hrd := Lib.hid hrd
      clear hcut hbe hk hrd
      go_wp2_with fail
      refine (within_any at0 (bl.length : Int) _ (by omega) (by omega) (by omega) (by omega)).mono ?_
      rintro e w' ⟨rfl, rfl⟩
      rw [Hk.out]
      go_wp2_with fail
      refine (takeC (bl.take kn) _ 0 _ Hrd.out ⟨by omega, by omega⟩).mono ?_
      intro e w2 h
      obtain ⟨_, h2, hb2⟩ := h
      have he := h2 Hcut.out
      subst he
      have HB2 := Lib.hid (Below.then HB1.out hb2 HB1.out.size)
      clear h2 hb2
      go_wp2_with (go_at_call 12; refine (wakes02 _).mono ?_; rintro e w' ⟨rfl, hb⟩; have Hb := Lib.hid hb; clear hb)
      go_ret
      exact ⟨rfl, Below.then HB2.out Hb.out HB2.out.size⟩
end Go.Proofs.Ytadaejpodjhkdaa.packCuts
