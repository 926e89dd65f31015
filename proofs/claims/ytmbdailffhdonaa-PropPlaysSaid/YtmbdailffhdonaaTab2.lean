/- The walks of prop.New, Len, Since, Has. -/
import Derived.Test.YtmbdailffhdonaaTab
namespace Psp
theorem isAt_pos {l : List Told} {r : Req} (h : isAt l r = true) : pos l r < l.length := by
  rcases Nat.lt_or_ge (pos l r) l.length with h1 | h1
  · exact h1
  · rw [isAt_ge h1] at h; cases h
/-- When it was ready. -/
def sinceOf (l : List Told) (r : Req) : Int × Bool := match l[pos l r]? with | some t => if isAt l r && t.ready then (t.since, true) else (0, false) | none => (0, false)
def hasOf (l : List Told) (r : Req) (n : Int) : Bool := isAt l r && (match l[pos l r]? with | some t => hasB t.who n | none => false)
end Psp
namespace Go.Proofs.Ytmbdailffhdonaa
open Go.RowKit
set_option linter.unusedVariables false

theorem Tab.row {w : World} {S : Nat → Prop} {g : Nat} {f cl : Int} {l : List Psp.Told} (h : Tab w S g f cl l) {k : Nat} (hk : k < l.length) :
    ∃ b c, w.cell? ⟨g, 2, none⟩ = some (.slice (some ⟨b, 0, none⟩) l.length c) ∧ l.length ≤ c ∧ c ≤ 9223372036854775807 ∧ b < w.heap.size ∧ w.rangeAt b (k * 21) (tc l[k]) := by
  obtain ⟨A, c, h1, h2, _, _, h3, h4⟩ := h.cells
  obtain ⟨b, rfl, hb, hl⟩ := h4 (by omega)
  exact ⟨b, c, h3, h1, h2, hb, told_range hl hk⟩
theorem Tab.frozen {w : World} {S : Nat → Prop} {g : Nat} {f cl : Int} {l : List Psp.Told} (h : Tab w S g f cl l) {b c n : Nat} (hv : w.cell? ⟨g, 2, none⟩ = some (.slice (some ⟨b, 0, none⟩) n c)) (j : Nat) : w.frozen? ⟨b, j, none⟩ = false := by
  obtain ⟨v, h1, h2, _⟩ := h.ex
  rw [cell_of_row w g 2 _ _ _ h1] at hv
  have e : v = .slice (some ⟨b, 0, none⟩) n c := by simpa using hv
  subst e
  rcases h2.2 with ⟨h', _⟩ | ⟨g', cap', cur, h', _, hg, _⟩
  · simp at h'
  · simp only [Value.slice.injEq, Option.some.injEq, Addr.mk.injEq, and_true] at h'
    obtain ⟨rfl, rfl, rfl⟩ := h'
    exact frozen_of_row w b j cur _ hg

theorem new_any (f cl : Int) (w : World) (f1 : 1 ≤ f) (f2 : f ≤ 4) (c1 : 1 ≤ cl) (c2 : cl ≤ 4) :
    Calls Try.prog 10 #[.int .i64 f, .int .i64 cl] w fun e w' => ∃ g, e = .returned (.tuple #[.pointer (some ⟨g, 0, none⟩), .int .i64 0]) ∧ Tab w' (fun k => k = g) g f cl [] ∧ w.heap.size ≤ g ∧ Below w.heap.size w w' := by
  go_enter Try.func10, Try.ntmps10
  go_wp2_with fail
  go_ret2
  refine ⟨_, rfl, ⟨⟨.slice none 0 0, heap_alloc_new _ _, World.ownsRow_nil _ _ _ _, fun k h => by cases h⟩, rfl, fun k hk => by subst hk; simp, fun t h => by simp at h, by simp⟩, Nat.le_refl _, (Below.refl _ _).alloc (Nat.le_refl _) _⟩

theorem new_not (f cl : Int) (w : World) (h : f < 1 ∨ 4 < f ∨ cl < 1 ∨ 4 < cl) :
    Calls Try.prog 10 #[.int .i64 f, .int .i64 cl] w fun e w' => e = .returned (.tuple #[.pointer none, .int .i64 1]) ∧ w = w' := by
  by_cases h1 : f < 1
  · go_enter Try.func10, Try.ntmps10
    go_wp2_with fail
    go_ret2
    exact ⟨rfl, rfl⟩
  · by_cases h2 : 4 < f
    · go_enter Try.func10, Try.ntmps10
      go_wp2_with fail
      go_ret2
      exact ⟨rfl, rfl⟩
    · by_cases h3 : cl < 1
      · go_enter Try.func10, Try.ntmps10
        go_wp2_with fail
        go_ret2
        exact ⟨rfl, rfl⟩
      · have h4 : 4 < cl := by omega
        go_enter Try.func10, Try.ntmps10
        go_wp2_with fail
        go_ret2
        exact ⟨rfl, rfl⟩

theorem len_tab (S : Nat → Prop) (g : Nat) (f cl : Int) (l : List Psp.Told) (w : World) (hT : Tab w S g f cl l) :
    Calls Try.prog 14 #[.pointer (some ⟨g, 0, none⟩)] w fun e w' => e = .returned (.int .i64 (l.length : Nat)) ∧ w = w' := by
  obtain ⟨A, c, hc1, hc2, hc0, hcl, hcv, hrow⟩ := hT.cells
  have hlen := hT.len
  generalize l.length = n at *
  clear hrow
  go_enter Try.func14, Try.ntmps14
  go_wp2_with fail
  go_ret
  exact ⟨rfl, rfl⟩

theorem since_any (r : Psp.Req) (S : Nat → Prop) (g : Nat) (f cl : Int) (l : List Psp.Told) (w : World) (hT : Tab w S g f cl l) :
    Calls Try.prog 13 #[.pointer (some ⟨g, 0, none⟩), .agg (rq r).toArray] w fun e w' => e = .returned (.tuple #[.int .i64 (Psp.sinceOf l r).1, .bool (Psp.sinceOf l r).2]) ∧ Below w.heap.size w w' := by
  have hT1 := Lib.hid (hT.below ((Below.refl _ _).alloc (Nat.le_refl _) (.cells (rq r).toArray 25)))
  cases hat : Psp.isAt l r with
  | false =>
    have hs : Psp.sinceOf l r = (0, false) := by unfold Psp.sinceOf; rw [hat]; split <;> simp
    rw [hs]
    clear hs
    have Hat := Lib.hid hat
    clear hat
    go_enter Try.func13, Try.ntmps13
    go_wp2_with (first | (refine list_load rfl 25 (.tmp 3) rfl w.heap.size 0 rfl (rq r) _ (range_new w (rq r).toArray _) Try.underlying25 rfl req_size ?_) | (go_at_call 26; refine (at_any r S g f cl l _ hT1.out).mono ?_; rintro e w1 ⟨rfl, hb1⟩; rw [Hat.out]))
    go_ret2
    exact ⟨rfl, ((Below.refl _ _).alloc (Nat.le_refl _) _).trans (hb1.mono (by simp))⟩
  | true =>
    have hpl := Psp.isAt_pos hat
    obtain ⟨q, hq⟩ : ∃ q, Psp.pos l r = q := ⟨_, rfl⟩
    rw [hq] at hpl
    obtain ⟨t, ht⟩ : ∃ t, l[q] = t := ⟨_, rfl⟩
    have hs : Psp.sinceOf l r = if t.ready = true then (t.since, true) else (0, false) := by unfold Psp.sinceOf; rw [hat, hq, List.getElem?_eq_getElem hpl, ht]; simp
    obtain ⟨b, c, k2, hc1, hc2, hb, hrg⟩ := hT.row hpl
    rw [ht] at hrg
    have hb' : Below w.heap.size w (w.alloc (.cells (rq r).toArray 25)) := (Below.refl _ _).alloc (Nat.le_refl _) _
    have k2' := Lib.hid ((hb'.cell (p := ⟨g, 2, none⟩) (hT.lt g hT.own)).trans k2)
    have r1 := Lib.hid (told_ready hrg)
    have r2 := Lib.hid (told_since hrg)
    have hn := hT.len
    have hg := hT.lt g hT.own
    obtain ⟨n, hn'⟩ : ∃ n, l.length = n := ⟨_, rfl⟩
    rw [hn'] at hpl hn hc1
    have HS := Lib.hid hs
    have Hat := Lib.hid hat
    have Hq := Lib.hid hq
    have Hn := Lib.hid hn'
    clear hs hat hq ht hrg k2 hn' hb'
    cases hre : t.ready with
    | true =>
      have e := HS.out
      rw [hre, if_pos rfl] at e
      rw [e]
      have r1' := r1.out
      rw [hre] at r1'
      have R1 := Lib.hid r1'
      clear e hre r1 r1'
      go_enter Try.func13, Try.ntmps13
      go_wp2_with (first | (refine list_load rfl 25 (.tmp 3) rfl w.heap.size 0 rfl (rq r) _ (range_new w (rq r).toArray _) Try.underlying25 rfl req_size ?_) | (go_at_call 26; refine (at_any r S g f cl l _ hT1.out).mono ?_; rintro e w1 ⟨rfl, hb1⟩; rw [Hat.out, Hq.out]; have k3 := (hb1.cell (p := ⟨g, 2, none⟩) (by simp; omega)).trans k2'.out; rw [Hn.out] at k3; have k4 := (hb1.cell (p := ⟨b, q * 21 + 19, none⟩) (by simp; omega)).trans ((World.cell?_alloc_lt w _ _ hb).trans R1.out); have k5 := (hb1.cell (p := ⟨b, q * 21 + 20, none⟩) (by simp; omega)).trans ((World.cell?_alloc_lt w _ _ hb).trans r2.out)))
      go_ret2
      exact ⟨rfl, ((Below.refl _ _).alloc (Nat.le_refl _) _).trans (hb1.mono (by simp))⟩
    | false =>
      have e := HS.out
      rw [hre, if_neg (by simp)] at e
      rw [e]
      have r1' := r1.out
      rw [hre] at r1'
      have R1 := Lib.hid r1'
      clear e hre r1 r1'
      go_enter Try.func13, Try.ntmps13
      go_wp2_with (first | (refine list_load rfl 25 (.tmp 3) rfl w.heap.size 0 rfl (rq r) _ (range_new w (rq r).toArray _) Try.underlying25 rfl req_size ?_) | (go_at_call 26; refine (at_any r S g f cl l _ hT1.out).mono ?_; rintro e w1 ⟨rfl, hb1⟩; rw [Hat.out, Hq.out]; have k3 := (hb1.cell (p := ⟨g, 2, none⟩) (by simp; omega)).trans k2'.out; rw [Hn.out] at k3; have k4 := (hb1.cell (p := ⟨b, q * 21 + 19, none⟩) (by simp; omega)).trans ((World.cell?_alloc_lt w _ _ hb).trans R1.out)))
      go_ret2
      exact ⟨rfl, ((Below.refl _ _).alloc (Nat.le_refl _) _).trans (hb1.mono (by simp))⟩

theorem has_tab (r : Psp.Req) (m : Int) (hm1 : -9223372036854775808 ≤ m) (hm2 : m ≤ 9223372036854775807) (S : Nat → Prop) (g : Nat) (f cl : Int) (l : List Psp.Told) (w : World) (hT : Tab w S g f cl l) :
    Calls Try.prog 21 #[.pointer (some ⟨g, 0, none⟩), .agg (rq r).toArray, .int .i64 m] w fun e w' => e = .returned (.bool (Psp.hasOf l r m)) ∧ Below w.heap.size w w' := by
  have hT1 := Lib.hid (hT.below ((Below.refl _ _).alloc (Nat.le_refl _) (.cells (rq r).toArray 25)))
  cases hat : Psp.isAt l r with
  | false =>
    have hs : Psp.hasOf l r m = false := by unfold Psp.hasOf; rw [hat]; rfl
    rw [hs]
    clear hs
    have Hat := Lib.hid hat
    clear hat
    go_enter Try.func21, Try.ntmps21
    go_wp2_with (first | (refine list_load rfl 25 (.tmp 4) rfl w.heap.size 0 rfl (rq r) _ (range_new w (rq r).toArray _) Try.underlying25 rfl req_size ?_) | (go_at_call 26; refine (at_any r S g f cl l _ hT1.out).mono ?_; rintro e w1 ⟨rfl, hb1⟩; rw [Hat.out]))
    go_ret
    exact ⟨rfl, ((Below.refl _ _).alloc (Nat.le_refl _) _).trans (hb1.mono (by simp))⟩
  | true =>
    have hpl := Psp.isAt_pos hat
    obtain ⟨q, hq⟩ : ∃ q, Psp.pos l r = q := ⟨_, rfl⟩
    rw [hq] at hpl
    obtain ⟨t, ht⟩ : ∃ t, l[q] = t := ⟨_, rfl⟩
    have hs : Psp.hasOf l r m = Psp.hasB t.who m := by unfold Psp.hasOf; rw [hat, hq, List.getElem?_eq_getElem hpl, ht]; simp
    rw [hs]
    have hwho : t.who.length = 13 := hT.who t (by rw [← ht]; exact List.getElem_mem hpl)
    have hn := hT.len
    have hg := hT.lt g hT.own
    have HT := Lib.hid hT
    have Hpl := Lib.hid hpl
    have Hwho := Lib.hid hwho
    have Ht := Lib.hid ht
    have Hat := Lib.hid hat
    have Hq := Lib.hid hq
    have hb' : Below w.heap.size w (w.alloc (.cells (rq r).toArray 25)) := (Below.refl _ _).alloc (Nat.le_refl _) _
    have Hb' := Lib.hid hb'
    obtain ⟨b, c, k2, hc1, hc2, hb, hrg⟩ := hT.row hpl
    rw [ht] at hrg
    obtain ⟨n, hn'⟩ : ∃ n, l.length = n := ⟨_, rfl⟩
    rw [hn'] at hpl hn hc1 k2
    have K2 := Lib.hid k2
    have Hrg := Lib.hid hrg
    obtain ⟨R, hR⟩ : ∃ R, Psp.hasB t.who m = R := ⟨_, rfl⟩
    rw [hR]
    have HR := Lib.hid hR
    clear hs hat hq ht hrg k2 hn' hb' hwho hR
    go_enter Try.func21, Try.ntmps21
    go_wp2_with (first | (refine list_load rfl 25 (.tmp 4) rfl w.heap.size 0 rfl (rq r) _ (range_new w (rq r).toArray _) Try.underlying25 rfl req_size ?_) | (go_at_call 26; refine (at_any r S g f cl l _ hT1.out).mono ?_; rintro e w1 ⟨rfl, hb1⟩; rw [Hat.out, Hq.out]; have hb2 := Hb'.out.trans (hb1.mono (by simp)); have k3 := (hb2.cell (p := ⟨g, 2, none⟩) hg).trans K2.out; have HB := Lib.hid hb2; clear hb2))
    have hr1 := told_who (range_keep Hrg.out (HB.out.block b hb)) Hwho.out
    have hf1 : ∀ j, w1.frozen? ⟨b, j, none⟩ = false := fun j => (HB.out.frozen (p := ⟨b, j, none⟩) hb).trans (HT.out.frozen K2.out j)
    refine (set_has_at t.who m b (q * 21 + 6) w1 hm1 hm2 Hwho.out ⟨hr1, fun j _ => hf1 _⟩).mono ?_
    rintro e w' ⟨rfl, rfl⟩
    rw [HR.out]
    clear hf1
    go_wp2_with fail
    go_ret
    exact ⟨rfl, HB.out⟩
end Go.Proofs.Ytmbdailffhdonaa
