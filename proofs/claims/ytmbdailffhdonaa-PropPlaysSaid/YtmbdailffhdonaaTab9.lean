/- Put, whatever its arguments are; the example of the document. -/
import Derived.Test.YtmbdailffhdonaaTab8
namespace Psp
def putP (f cl : Int) (l : List Told) (r : Req) (n clock : Int) : (Bool × Bool × Int) × List Told :=
  if 0 ≤ r.c ∧ r.c < cl ∧ 0 ≤ n ∧ n < nodes f then putR f l r n clock else ((false, false, 1), l)
end Psp
namespace Go.Proofs.Ytmbdailffhdonaa
open Go.RowKit
set_option linter.unusedVariables false

theorem put_all (r : Psp.Req) (n clock : Int) (S : Nat → Prop) (g : Nat) (f cl : Int) (l : List Psp.Told) (w : World) (hT : Tab w S g f cl l) (hl5 : l.length + 1 ≤ 100000) :
    Calls Try.prog 12 #[.pointer (some ⟨g, 0, none⟩), .agg #[.int .i64 r.c, .int .i64 r.t, .int .i64 r.k, .int .i64 r.y, .int .i64 r.v, .int .i64 r.s], .int .i64 n, .int .i64 clock] w fun e w' =>
      e = .returned (.tuple #[.bool (Psp.putP f cl l r n clock).1.1, .bool (Psp.putP f cl l r n clock).1.2.1, .int .i64 (Psp.putP f cl l r n clock).1.2.2]) ∧ Tab w' (fun k => S k ∨ (w.heap.size ≤ k ∧ k < w'.heap.size)) g f cl (Psp.putP f cl l r n clock).2 ∧ Fp S w w' := by
  by_cases hok : Psp.putOk f cl r n
  · have e : Psp.putP f cl l r n clock = Psp.putR f l r n clock := by unfold Psp.putP; exact if_pos hok
    rw [e]
    exact put_tab r n clock S g f cl l w hT hok hl5
  · have e : Psp.putP f cl l r n clock = ((false, false, 1), l) := by unfold Psp.putP; exact if_neg hok
    rw [e]
    refine (put_bad r n clock S g f cl l w hT hok).mono fun e' w' ⟨he, hb⟩ => ⟨he, ?_, Fp.of_below hb S⟩
    have h := hT.below hb
    exact h.wider (fun k hk => Or.inl hk) fun k hk => by
      rcases hk with hk | hk
      · exact h.lt k hk
      · exact hk.2

theorem wake_a : Psp.putP 1 1 [] ⟨0, 1, 0, 0, 0, 0⟩ 0 5 = ((true, false, 0), [⟨⟨0, 1, 0, 0, 0, 0⟩, Psp.put (List.replicate 13 false) 0, false, 0⟩]) := by rfl
theorem wake_b : Psp.putP 1 1 [⟨⟨0, 1, 0, 0, 0, 0⟩, Psp.put (List.replicate 13 false) 0, false, 0⟩] ⟨0, 1, 0, 0, 0, 0⟩ 0 6 = ((false, false, 0), [⟨⟨0, 1, 0, 0, 0, 0⟩, Psp.put (List.replicate 13 false) 0, false, 0⟩]) := by rfl
theorem wake_c : (Psp.putP 1 1 [⟨⟨0, 1, 0, 0, 0, 0⟩, Psp.put (List.replicate 13 false) 0, false, 0⟩] ⟨0, 1, 0, 0, 0, 0⟩ 2 7).1 = (false, true, 0) := by decide

theorem wakes13 (w : World) : Calls Try.prog 15 #[] w fun e w' => e = .returned (.bool true) ∧ Below w.heap.size w w' := by
  go_enter Try.func15, Try.ntmps15
  go_wp2_with fail
  refine (new_any 1 1 _ (by omega) (by omega) (by omega) (by omega)).mono ?_
  rintro e w1 ⟨g, rfl, hT, hg, hb1⟩
  have HT1 := Lib.hid (hT.below ((Below.refl _ w1).alloc (Nat.le_refl _) (.cells #[.int .i64 0, .int .i64 1, .int .i64 0, .int .i64 0, .int .i64 0, .int .i64 0] 25)))
  have Hb1 := Lib.hid hb1
  have hgl := hT.lt g rfl
  clear hT hb1
  have W1 := Lib.hid wake_a
  have W2 := Lib.hid wake_b
  have W3 := Lib.hid wake_c
  go_wp2_with fail
  have hr0 : (w1.alloc (.cells #[.int .i64 0, .int .i64 1, .int .i64 0, .int .i64 0, .int .i64 0, .int .i64 0] 25)).rangeAt w1.heap.size 0 (rq ⟨0, 1, 0, 0, 0, 0⟩) := range_new w1 _ _
  have Hr0 := Lib.hid hr0
  clear hr0
  refine (put_all ⟨0, 1, 0, 0, 0, 0⟩ 0 5 (fun k => k = g) g 1 1 [] _ HT1.out (by simp)).mono ?_
  rintro e w2 ⟨rfl, hT2, hF2⟩
  rw [W1.out] at hT2 ⊢
  have hr2 := range_keep Hr0.out (hF2.block w1.heap.size (by simp) (by omega))
  have hs2 := hF2.size
  have b0 := hr2 0 _ rfl
  have b1 := hr2 1 _ rfl
  have b2 := hr2 2 _ rfl
  have b3 := hr2 3 _ rfl
  have b4 := hr2 4 _ rfl
  have b5 := hr2 5 _ rfl
  simp only [Nat.zero_add, iv] at b0 b1 b2 b3 b4 b5
  have HT2 := Lib.hid hT2
  have Hr2 := Lib.hid hr2
  have HF2 := Lib.hid hF2
  clear hT2 hr2 hF2
  go_wp2_with fail
  refine (put_all ⟨0, 1, 0, 0, 0, 0⟩ 0 6 _ g 1 1 _ _ HT2.out (by simp)).mono ?_
  rintro e w3 ⟨rfl, hT3, hF3⟩
  rw [W2.out] at hT3 ⊢
  have hr3 := range_keep Hr2.out (hF3.block w1.heap.size (by simp at hs2; omega) (by simp; omega))
  have hs3 := hF3.size
  clear b0 b1 b2 b3 b4 b5
  have b0 := hr3 0 _ rfl
  have b1 := hr3 1 _ rfl
  have b2 := hr3 2 _ rfl
  have b3 := hr3 3 _ rfl
  have b4 := hr3 4 _ rfl
  have b5 := hr3 5 _ rfl
  simp only [Nat.zero_add, iv] at b0 b1 b2 b3 b4 b5
  have HT3 := Lib.hid hT3
  have HF3 := Lib.hid hF3
  clear hT3 hr3 hF3
  go_wp2_with fail
  refine (put_all ⟨0, 1, 0, 0, 0, 0⟩ 2 7 _ g 1 1 _ _ HT3.out (by simp)).mono ?_
  rintro e w4 ⟨rfl, hT4, hF4⟩
  rw [W3.out]
  have HF4 := Lib.hid hF4
  clear hT4 hF4
  go_wp2_with fail
  go_ret
  have h1 : Fp (fun k => w.heap.size ≤ k) w w2 := ((Fp.of_below Hb1.out _).alloc _).trans (HF2.out) (fun k hk => Or.inl (by omega))
  have h2 := h1.trans HF3.out (fun k hk => by rcases hk with hk | hk <;> exact Or.inl (by first | omega | (simp at hk; omega) | (simp at hs2; omega) | (simp at hk hs2; omega)))
  have h3 := h2.trans HF4.out (fun k hk => by rcases hk with (hk | hk) | hk <;> exact Or.inl (by first | omega | (simp at hk; omega) | (simp at hs2; omega) | (simp at hk hs2; omega)))
  exact ⟨rfl, h3.to_below (Nat.le_refl _) fun k _ h => h⟩
end Go.Proofs.Ytmbdailffhdonaa
