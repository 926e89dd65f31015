/- The reference: Right; reqs.Batch. -/
import Derived.Test.YtadpkjgjciodnaaGreatRiseRa
namespace Go.Proofs.YtadpkjgjciodnaaGreat
open Go.RowKit
set_option linter.unusedVariables false

/-- Is a request right, and its client's? -/
def sealedRB (cl : Int) (K : List Key) (r : Psp.Req) : Bool := Psp.valid r cl && (Psp.okR (bare r) && (decide (kR r ∈ K) && decide (num K (kR r) = r.s)))
/-- Which requests may be a batch. -/
def rightB (most cl : Int) (K : List Key) (l : List Psp.Req) : Bool := decide ((l.length : Int) ≤ most) && (Psp.rises l && l.all (sealedRB cl K))
theorem right_long {most cl : Int} {K : List Key} {l : List Psp.Req} (h : most < (l.length : Int)) : rightB most cl K l = false := by
  unfold rightB; rw [decide_eq_false (by omega)]; rfl
theorem right_rise {most cl : Int} {K : List Key} {l : List Psp.Req} (h : Psp.rises l = false) : rightB most cl K l = false := by
  unfold rightB; rw [h, Bool.false_and, Bool.and_false]
theorem right_seal {most cl : Int} {K : List Key} {l : List Psp.Req} {k : Nat} {x : Psp.Req} (hx : l[k]? = some x) (h : sealedRB cl K x = false) : rightB most cl K l = false := by
  unfold rightB
  have : l.all (sealedRB cl K) = false := by
    obtain ⟨hk, he⟩ := List.getElem?_eq_some_iff.1 hx
    rw [List.all_eq_false]
    exact ⟨x, by rw [← he]; exact List.getElem_mem hk, by rw [h]; simp⟩
  rw [this, Bool.and_false, Bool.and_false]
theorem right_yes {most cl : Int} {K : List Key} {l : List Psp.Req} (h1 : (l.length : Int) ≤ most) (h2 : Psp.rises l = true) (h3 : ∀ (j : Nat) (x : Psp.Req), l[j]? = some x → sealedRB cl K x = true) : rightB most cl K l = true := by
  unfold rightB
  have : l.all (sealedRB cl K) = true := by
    rw [List.all_eq_true]; intro x hx
    obtain ⟨j, hj, e⟩ := List.mem_iff_getElem.1 hx
    exact h3 j x (by rw [List.getElem?_eq_getElem hj, e])
  rw [decide_eq_true h1, h2, this]; rfl

set_option maxRecDepth 100000 in
set_option maxHeartbeats 4000000 in
theorem right_any (l : List Psp.Req) (n : Nat) (v : Value) (most cl : Int) (S : Nat → Prop) (g : Nat) (K : List Key) (w : World) (P : Nat → Prop) (hx : RdP w P 6 v n (l.flatMap rq)) (hn : l.length = n) (hN : Ntr w S g K) (hd : K.Nodup) (hw : ∀ x ∈ l, wfReq x) :
    Calls Tryz.prog 62 #[v, .int .i64 most, .int .i64 cl, .pointer (some ⟨g, 0, none⟩)] w fun e w' => e = .returned (.bool (rightB most cl K l)) ∧ Below w.heap.size w w' := by
  obtain ⟨_, A, c, rfl, hc1, hc2, _⟩ := hx.parts
  have HX := Lib.hid hx
  have Hn := Lib.hid hn
  have HN := Lib.hid hN
  have Hw := Lib.hid hw
  clear hx hn hN hw
  by_cases hm : most < (n : Int)
  · have d0 : decide (most < (n : Int)) = true := decide_eq_true hm
    have Hr := Lib.hid (right_long (cl := cl) (K := K) (l := l) (most := most) (by rw [Hn.out]; exact hm))
    clear hm
    go_enter Tryz.func62, Tryz.ntmps62
    go_wp2_with fail
    go_ret
    exact ⟨by rw [Hr.out]; rfl, Below.refl _ _⟩
  · have d0 : decide (most < (n : Int)) = false := decide_eq_false hm
    have hm' : (n : Int) ≤ most := by omega
    have Hm := Lib.hid hm'
    clear hm hm'
    go_enter Tryz.func62, Tryz.ntmps62
    go_wp2_with fail
    refine (rises_any l n _ w P HX.out Hn.out).mono ?_
    obtain ⟨rb, hrb⟩ : ∃ rb, Psp.rises l = rb := ⟨_, rfl⟩
    rw [hrb]
    rintro e w1 ⟨rfl, hb1⟩
    have HB1 := Lib.hid hb1
    have Hrb := Lib.hid hrb
    clear hb1 hrb
    cases rb
    · go_wp2_with fail
      go_ret
      exact ⟨by rw [right_rise Hrb.out]; rfl, HB1.out⟩
    · go_wp2_with fail
      go_loopw [9] (fun i wr => ∃ k : Nat, i = .int .i64 (k : Int) ∧ k ≤ n ∧ Hid (∀ (j : Nat) (x : Psp.Req), j < k → l[j]? = some x → sealedRB cl K x = true) ∧ Below w.heap.size w wr) (fun i _ => n - (intOf i).toNat)
      case atStart => exact ⟨0, rfl, Nat.zero_le _, Lib.hid (fun j x hj => by omega), HB1.out⟩
      case round =>
        obtain ⟨k, rfl, hk, H0, hb⟩ := hrel
        have HB := Lib.hid hb
        clear hb
        by_cases hlt : k < n
        · have d1 : decide ((k : Int) < (n : Int)) = true := by simp; omega
          obtain ⟨b0, o0, c0, he, hb0, _, _, hel⟩ := ri_elem HX.out Hn.out (by omega)
          injection he with he1 _ he2
          subst he1 he2
          obtain ⟨x, hx⟩ : ∃ x, l[k]? = some x := ⟨l[k]'(by rw [Hn.out]; omega), List.getElem?_eq_getElem (by rw [Hn.out]; omega)⟩
          have hq := hel k x hx wr (HB.out.block b0 hb0)
          have hwx : wfReq x := by
            obtain ⟨hj, he⟩ := List.getElem?_eq_some_iff.1 hx
            exact Hw.out x (by rw [← he]; exact List.getElem_mem hj)
          have HQ := Lib.hid hq
          have Hx := Lib.hid hx
          have Hwx := Lib.hid hwx
          clear hx hq hwx hel
          go_wp2_with (refine list_load rfl 58 (.tmp 27) rfl b0 (o0 + k * 6) rfl (rq x) _ HQ.out Tryz.underlying58 rfl rst_sizeR ?_)
          refine (rsealed_any x cl S g K wr (HN.out.below HB.out) hd Hwx.out.2.2.2.2.2).mono ?_
          obtain ⟨sb, hsb⟩ : ∃ sb, sealedRB cl K x = sb := ⟨_, rfl⟩
          rw [show (Psp.valid x cl && (Psp.okR (bare x) && (decide (kR x ∈ K) && decide (num K (kR x) = x.s)))) = sb from hsb]
          rintro e w2 ⟨rfl, hb2⟩
          have HB2 := Lib.hid (Below.then HB.out hb2 HB.out.size)
          have Hsb := Lib.hid hsb
          clear hb2 hsb
          cases sb
          · go_wp2_with fail
            go_ret
            exact ⟨by rw [right_seal Hx.out Hsb.out]; rfl, HB2.out⟩
          · go_wp2_with fail
            go_roundw
            case rel => exact ⟨k + 1, by go_num, by omega, Lib.hid (fun j y hj h1 => by
              by_cases hjk : j = k
              · subst hjk
                have e1 := h1.symm.trans Hx.out
                injection e1 with e1
                subst e1
                exact Hsb.out
              · exact H0.out j y (by omega) h1), HB2.out⟩
            case measure => simp [intOf]; omega
        · have d1 : decide ((k : Int) < (n : Int)) = false := by simp; omega
          go_wp2_with fail
          go_ret
          have hr := right_yes (most := most) (cl := cl) (K := K) (l := l) (by rw [Hn.out]; exact Hm.out) Hrb.out (fun j x h => by
            have := (List.getElem?_eq_some_iff.1 h).1
            rw [Hn.out] at this
            exact H0.out j x (by omega) h)
          exact ⟨by rw [hr]; rfl, HB.out⟩
end Go.Proofs.YtadpkjgjciodnaaGreat
