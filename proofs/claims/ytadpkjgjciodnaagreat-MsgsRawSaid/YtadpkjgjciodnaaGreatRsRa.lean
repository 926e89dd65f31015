/- The reference: Sealed. -/
import Derived.Test.YtadpkjgjciodnaaGreatGgRa
import Derived.Test.YtadpkjgjciodnaaGreatJ26Ra
namespace Go.Proofs.YtadpkjgjciodnaaGreat
open Go.RowKit
set_option linter.unusedVariables false

set_option maxRecDepth 100000 in
set_option maxHeartbeats 1000000 in
theorem rsealed_any (r : Psp.Req) (clients : Int) (S : Nat → Prop) (g : Nat) (l : List Key) (w : World) (hN : Ntr w S g l) (hd : l.Nodup) (hs : isI64 r.s) : 
    Calls Tryz.prog 106 #[.agg #[.int .i64 r.c, .int .i64 r.t, .int .i64 r.k, .int .i64 r.y, .int .i64 r.v, .int .i64 r.s], .int .i64 clients, .pointer (some ⟨g, 0, none⟩)] w fun e w' =>
      e = .returned (.bool (Psp.valid r clients && (Psp.okR (bare r) && (decide (kR r ∈ l) && decide (num l (kR r) = r.s))))) ∧ Below w.heap.size w w' := by
  have hbl0 := (alloc_below w (.cells #[.int .i64 r.c, .int .i64 r.t, .int .i64 r.k, .int .i64 r.y, .int .i64 r.v, .int .i64 r.s] 58))
  have HB0 := Lib.hid hbl0
  have HN := Lib.hid hN
  have HC0 := Lib.hid (heap_alloc_new w (.cells #[.int .i64 r.c, .int .i64 r.t, .int .i64 r.k, .int .i64 r.y, .int .i64 r.v, .int .i64 r.s] 58))
  clear hN hbl0
  go_enter Tryz.func106, Tryz.ntmps106
  go_wp2_with fail
  refine (rvalid_any r clients _).mono ?_
  rintro e w1 ⟨rfl, hb⟩
  have HB1 := Lib.hid (Below.then HB0.out hb HB0.out.size)
  have HC1 := Lib.hid ((hb.block w.heap.size (by simp)).trans HC0.out)
  clear hb HB0 HC0
  by_cases hv : Psp.valid r clients = true
  case' neg =>
    have hv' : Psp.valid r clients = false := by simpa using hv
    rw [hv']
    go_wp2_with fail
    go_ret
    exact ⟨by rw [hv']; rfl, HB1.out⟩
  case' pos =>
    rw [hv]
    obtain ⟨x0, x1, x2, x3, x4, x5, _⟩ := rst_cells HC1.out
    go_wp2_with fail
    refine (rbody_any r w1).mono ?_
    intro e w2 h
    obtain ⟨ob, hob⟩ : ∃ ob, ob = Psp.okR (bare r) := ⟨_, rfl⟩
    obtain ⟨bb, hbb⟩ : ∃ bb, bb = res (Psp.encR (bare r)) (Psp.okR (bare r)) := ⟨_, rfl⟩
    obtain ⟨A, c, rfl, hp, hb⟩ := Bytes.rd h hbb.symm hob.symm
    have hkr : kR r = (100 + r.c, bb) := by rw [hbb]; rfl
    have hlb : bb.length ≤ 36 := by rw [hbb]; exact res_len (bare r)
    have HP := Lib.hid hp
    have HB2 := Lib.hid (Below.then HB1.out hb HB1.out.size)
    have hw1 : w.heap.size < w1.heap.size := (Array.getElem?_eq_some_iff.1 HC1.out).1
    have HC2 := Lib.hid ((hb.block w.heap.size hw1).trans HC1.out)
    have hc : ob = true → r.c < 1099511627776 ∧ 0 ≤ r.c := by
      intro h1
      rw [hob] at h1
      unfold Psp.okR at h1
      rw [Bool.and_eq_true, Psp.okN_iff] at h1
      exact ⟨h1.1.2, h1.1.1⟩
    have Hfin := Lib.hid (show (Psp.valid r clients && (Psp.okR (bare r) && (decide (kR r ∈ l) && decide (num l (kR r) = r.s)))) = (true && (ob && (decide ((100 + r.c, bb) ∈ l) && decide (num l (100 + r.c, bb) = r.s)))) by rw [hv, hkr, ← hob])
    clear h hp hb HB1 HC1 x0 x1 x2 x3 x4 x5 hw1 hbb hob hkr
    cases ob
    case' false =>
      clear hc
      go_wp2_with fail
      go_ret
      exact ⟨by rw [Hfin.out]; rfl, HB2.out⟩
    case' true =>
      obtain ⟨c1, c2⟩ := hc rfl
      have HK : Hid (KOk (100 + r.c, bb)) := Lib.hid ⟨⟨by show -9223372036854775808 ≤ 100 + r.c; omega, by show 100 + r.c ≤ 9223372036854775807; omega⟩, by show bb.length ≤ _; unfold maxLen; omega⟩
      obtain ⟨x0, x1, x2, x3, x4, x5, _⟩ := rst_cells HC2.out
      clear hc
      go_wp2_with fail
      refine (nr_check S g l (100 + r.c) bb r.s _ w2 _ (HN.out.below HB2.out) hd hs HP.out).mono ?_
      rintro e w3 ⟨rfl, q, rfl⟩
      go_wp2_with fail
      go_ret
      exact ⟨by rw [Hfin.out]; rfl, below_drewN HB2.out q⟩
end Go.Proofs.YtadpkjgjciodnaaGreat
