/- Two.Votes: a quorum's votes. Printed by gen_vts.py. Package reqs: Body, Make, Sealed; the reference's ReqBody. -/
import Derived.Test.YtadpkjgjciodnaaGreatSdRa
import Derived.Test.YtadpkjgjciodnaaGreatPhSRa
import Derived.Test.YtadpkjgjciodnaaGreatGgRa
section
namespace Go.Proofs.YtadpkjgjciodnaaGreat
open Go.RowKit
set_option linter.unusedVariables false
set_option linter.unusedSimpArgs false

theorem sealK_len (K : List Key) (m : Psp.Msg) : (sealK K m).length ≤ K.length + 1 := by
  unfold sealK sealL
  split
  · split
    · omega
    · simp
  · omega
end Go.Proofs.YtadpkjgjciodnaaGreat
end
section
namespace Go.Proofs.YtadpkjgjciodnaaGreat
open Go.RowKit
set_option linter.unusedVariables false

/-- A request without its seal. -/
def bare (r : Psp.Req) : Psp.Req := { r with s := 0 }
/-- What a client seals, as a key. -/
def kR (r : Psp.Req) : Key := (100 + r.c, res (Psp.encR (bare r)) (Psp.okR (bare r)))

set_option maxRecDepth 100000 in
theorem Bytes.from_ {e : List UInt8} {ok : Bool} {w w1 w' : World} {en : Ending} (h : Bytes e ok w1 en w') (hb : Below w.heap.size w w1) : Bytes e ok w en w' := by
  obtain ⟨v, h1, h2, h3⟩ := h
  exact ⟨v, h1, own_more h2 hb.size, hb.trans (h3.mono hb.size)⟩
set_option maxRecDepth 100000 in
theorem body_any (r : Psp.Req) (w : World) : Calls Tryz.prog 141 #[.agg #[.int .i64 r.c, .int .i64 r.t, .int .i64 r.k, .int .i64 r.y, .int .i64 r.v, .int .i64 r.s]] w (Bytes (Psp.encR (bare r)) (Psp.okR (bare r)) w) := by
  have hbl := alloc_below w (.cells #[.int .i64 r.c, .int .i64 r.t, .int .i64 r.k, .int .i64 r.y, .int .i64 r.v, .int .i64 0] 58)
  go_enter Tryz.func141, Tryz.ntmps141
  go_wp2_with fail
  refine (pk_req r.c r.t r.k r.y r.v 0 _).mono ?_
  intro e w1 h
  have H := Lib.hid (h.from_ hbl)
  obtain ⟨A, c, rfl, _, _⟩ := h.open_
  clear h
  go_wp2_with fail
  go_ret2
  exact H.out
set_option maxRecDepth 100000 in
theorem rbody_any (r : Psp.Req) (w : World) : Calls Tryz.prog 117 #[.agg #[.int .i64 r.c, .int .i64 r.t, .int .i64 r.k, .int .i64 r.y, .int .i64 r.v, .int .i64 r.s]] w (Bytes (Psp.encR (bare r)) (Psp.okR (bare r)) w) := by
  have hbl := alloc_below w (.cells #[.int .i64 r.c, .int .i64 r.t, .int .i64 r.k, .int .i64 r.y, .int .i64 r.v, .int .i64 0] 58)
  go_enter Tryz.func117, Tryz.ntmps117
  go_wp2_with fail
  refine (rf_req r.c r.t r.k r.y r.v 0 _).mono ?_
  intro e w1 h
  have H := Lib.hid (h.from_ hbl)
  obtain ⟨A, c, rfl, _, _⟩ := h.open_
  clear h
  go_wp2_with fail
  go_ret2
  exact H.out

set_option maxRecDepth 100000 in
set_option maxHeartbeats 1000000 in
theorem sealed_any (r : Psp.Req) (clients : Int) (g bm : Nat) (l : List Key) (w : World) (hN : Nt w g bm l) : 
    Calls Tryz.prog 102 #[.agg #[.int .i64 r.c, .int .i64 r.t, .int .i64 r.k, .int .i64 r.y, .int .i64 r.v, .int .i64 r.s], .int .i64 clients, .pointer (some ⟨g, 0, none⟩)] w fun e w' =>
      e = .returned (.bool (Psp.valid r clients && (Psp.okR (bare r) && (decide (kR r ∈ l) && decide (num l (kR r) = r.s))))) ∧ Below w.heap.size w w' := by
  have hbl0 := (alloc_below w (.cells #[.int .i64 r.c, .int .i64 r.t, .int .i64 r.k, .int .i64 r.y, .int .i64 r.v, .int .i64 r.s] 58))
  have HB0 := Lib.hid hbl0
  have HN := Lib.hid hN
  have HC0 := Lib.hid (heap_alloc_new w (.cells #[.int .i64 r.c, .int .i64 r.t, .int .i64 r.k, .int .i64 r.y, .int .i64 r.v, .int .i64 r.s] 58))
  clear hN hbl0
  go_enter Tryz.func102, Tryz.ntmps102
  go_wp2_with fail
  refine (valid_any r clients _).mono ?_
  rintro e w1 ⟨rfl, hb⟩
  have HB1 := Lib.hid (Below.then HB0.out hb HB0.out.size)
  have HC1 := Lib.hid ((hb.block w.heap.size (by simp)).trans HC0.out)
  clear hb HB0 HC0
  by_cases hv : Psp.valid r clients = true
  case' neg =>
    have hv' : Psp.valid r clients = false := by simpa using hv
    rw [hv']
    go_wp2_with fail
    go_ret
    exact ⟨by rw [hv']; rfl, HB1.out⟩
  case' pos =>
    rw [hv]
    obtain ⟨x0, x1, x2, x3, x4, x5, _⟩ := rst_cells HC1.out
    go_wp2_with fail
    refine (body_any r w1).mono ?_
    intro e w2 h
    obtain ⟨ob, hob⟩ : ∃ ob, ob = Psp.okR (bare r) := ⟨_, rfl⟩
    obtain ⟨bb, hbb⟩ : ∃ bb, bb = res (Psp.encR (bare r)) (Psp.okR (bare r)) := ⟨_, rfl⟩
    obtain ⟨A, c, rfl, hp, hb⟩ := Bytes.rd h hbb.symm hob.symm
    have hkr : kR r = (100 + r.c, bb) := by rw [hbb]; rfl
    have hlb : bb.length ≤ 36 := by rw [hbb]; exact res_len (bare r)
    have HP := Lib.hid hp
    have HB2 := Lib.hid (Below.then HB1.out hb HB1.out.size)
    have hw1 : w.heap.size < w1.heap.size := (Array.getElem?_eq_some_iff.1 HC1.out).1
    have HC2 := Lib.hid ((hb.block w.heap.size hw1).trans HC1.out)
    have hc : ob = true → r.c < 1099511627776 ∧ 0 ≤ r.c := by
      intro h1
      rw [hob] at h1
      unfold Psp.okR at h1
      rw [Bool.and_eq_true, Psp.okN_iff] at h1
      exact ⟨h1.1.2, h1.1.1⟩
    have Hfin := Lib.hid (show (Psp.valid r clients && (Psp.okR (bare r) && (decide (kR r ∈ l) && decide (num l (kR r) = r.s)))) = (true && (ob && (decide ((100 + r.c, bb) ∈ l) && decide (num l (100 + r.c, bb) = r.s)))) by rw [hv, hkr, ← hob])
    clear h hp hb HB1 HC1 x0 x1 x2 x3 x4 x5 hw1 hbb hob hkr
    cases ob
    case' false =>
      clear hc
      go_wp2_with fail
      go_ret
      exact ⟨by rw [Hfin.out]; rfl, HB2.out⟩
    case' true =>
      obtain ⟨c1, c2⟩ := hc rfl
      have HK : Hid (KOk (100 + r.c, bb)) := Lib.hid ⟨⟨by show -9223372036854775808 ≤ 100 + r.c; omega, by show 100 + r.c ≤ 9223372036854775807; omega⟩, by show bb.length ≤ _; unfold maxLen; omega⟩
      obtain ⟨x0, x1, x2, x3, x4, x5, _⟩ := rst_cells HC2.out
      clear hc
      go_wp2_with fail
      refine (nt_check g bm l (100 + r.c) bb r.s _ w2 _ (HN.out.below HB2.out) HK.out HP.out).mono ?_
      rintro e w3 ⟨rfl, q, rfl⟩
      go_wp2_with fail
      go_ret
      exact ⟨by rw [Hfin.out]; rfl, below_drewN HB2.out q⟩
end Go.Proofs.YtadpkjgjciodnaaGreat
end
