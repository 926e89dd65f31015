/- Plain facts on a table with one request. -/
import Derived.Test.YtmbdailffhdonaaTab9
namespace Psp
/-- The table behind i calls: the one request, if any. -/
def one (i : Nat) (r : Req) (s : List Bool) (rd : Bool) (since : Int) : List Told := if i = 0 then [] else [⟨r, s, rd, since⟩]
theorem one_step {f : Int} {i : Nat} {r : Req} {s : List Bool} {rd : Bool} {since k c : Int} (hc0 : 0 ≤ r.c) (hc : r.c < 2) (k0 : 0 ≤ k) (k1 : k < nodes f) (h0 : i = 0 → s = List.replicate 13 false ∧ rd = false ∧ since = 0) :
    putP f 2 (one i r s rd since) r k c = ((decide (i = 0), (putAt f ⟨r, s, rd, since⟩ k c).2, 0), one (i + 1) r (put s k) (putAt f ⟨r, s, rd, since⟩ k c).1.ready (putAt f ⟨r, s, rd, since⟩ k c).1.since) := by
  have hok : 0 ≤ r.c ∧ r.c < 2 ∧ 0 ≤ k ∧ k < nodes f := ⟨hc0, hc, k0, k1⟩
  have hwho : ∀ t n cc, (putAt f t n cc).1 = ⟨t.r, put t.who n, (putAt f t n cc).1.ready, (putAt f t n cc).1.since⟩ := fun t n cc => by
    unfold putAt; split <;> rfl
  unfold putP
  rw [if_pos hok]
  unfold one
  rw [if_neg (by omega : ¬ i + 1 = 0)]
  by_cases hi : i = 0
  · obtain ⟨e1, e2, e3⟩ := h0 hi
    subst hi e1 e2 e3
    rw [if_pos rfl]
    have hp : pos [] r = 0 := rfl
    have ha : isAt [] r = false := rfl
    have hins : insT [] r = [told0 r] := by unfold insT; rw [ha, hp]; rfl
    unfold putR
    rw [ha, hins, hp]
    show (if (!false && decide (4 ≤ cntOf [] r.c)) = true then _ else _) = _
    rw [if_neg (by simp [cntOf])]
    show ((!false, (putAt f (told0 r) k c).2, 0), [(putAt f (told0 r) k c).1]) = _
    rw [hwho (told0 r) k c]
    rfl
  · rw [if_neg hi]
    have hcs : cmpR r r = 0 := cmpR_self r
    have hp : pos [(⟨r, s, rd, since⟩ : Told)] r = 0 := by
      unfold pos
      rw [List.takeWhile_cons, if_neg (by rw [hcs]; simp)]; rfl
    have ha : isAt [(⟨r, s, rd, since⟩ : Told)] r = true := by rw [isAt_lt hp (by simp)]; simp
    have hins : insT [(⟨r, s, rd, since⟩ : Told)] r = [⟨r, s, rd, since⟩] := by unfold insT; rw [ha]; rfl
    unfold putR
    rw [ha, hins, hp]
    show (if (!true && _) = true then _ else _) = _
    rw [if_neg (by simp)]
    show ((!true, (putAt f ⟨r, s, rd, since⟩ k c).2, 0), [(putAt f ⟨r, s, rd, since⟩ k c).1]) = _
    rw [hwho ⟨r, s, rd, since⟩ k c, decide_eq_false hi]
    rfl
theorem one_since {i : Nat} {r : Req} {s : List Bool} {rd : Bool} {since : Int} : (sinceOf (one (i + 1) r s rd since) r) = (if rd then since else 0, rd) := by
  unfold one
  rw [if_neg (by omega)]
  have hcs : cmpR r r = 0 := cmpR_self r
  have hp : pos [(⟨r, s, rd, since⟩ : Told)] r = 0 := by
    unfold pos
    rw [List.takeWhile_cons, if_neg (by rw [hcs]; simp)]; rfl
  have ha : isAt [(⟨r, s, rd, since⟩ : Told)] r = true := by rw [isAt_lt hp (by simp)]; simp
  unfold sinceOf
  rw [hp]
  show (if isAt [(⟨r, s, rd, since⟩ : Told)] r && rd then (since, true) else (0, false)) = _
  rw [ha]
  cases rd <;> rfl
theorem one_len (i : Nat) (r : Req) (s : List Bool) (rd : Bool) (since : Int) : (one i r s rd since).length ≤ 1 := by unfold one; split <;> simp
/-- What putAt makes of the marks. -/
theorem putAt_new {f : Int} {r : Req} {s : List Bool} {n : Nat} {since k c : Int} (f1 : 1 ≤ f) (f2 : f ≤ 4) (hs : s.length = 13) (hn : s.countP id = n) (hp : putB s k = true) :
    (putAt f ⟨r, s, decide (f + 1 ≤ (n : Int)), since⟩ k c).2 = decide ((n : Int) + 1 = f + 1) ∧ (putAt f ⟨r, s, decide (f + 1 ≤ (n : Int)), since⟩ k c).1.ready = decide (f + 1 ≤ ((n + 1 : Nat) : Int)) := by
  have hw : weak f = f + 1 := by unfold weak; rw [if_pos ⟨f1, f2⟩]
  have hc := cnt_put hs k
  rw [hp, if_pos rfl, hn] at hc
  unfold putAt
  simp only [hw, hc]
  by_cases h1 : f + 1 ≤ (n : Int)
  · rw [decide_eq_true h1, decide_eq_false (by omega : ¬ (n : Int) + 1 = f + 1), decide_eq_true (by omega : f + 1 ≤ ((n + 1 : Nat) : Int))]; exact ⟨rfl, rfl⟩
  · rw [decide_eq_false h1]
    by_cases h2 : f + 1 ≤ ((n + 1 : Nat) : Int)
    · rw [decide_eq_true h2, decide_eq_true (by omega : (n : Int) + 1 = f + 1)]; exact ⟨rfl, rfl⟩
    · rw [decide_eq_false h2, decide_eq_false (by omega : ¬ (n : Int) + 1 = f + 1)]; exact ⟨rfl, rfl⟩
theorem putAt_old {f : Int} {r : Req} {s : List Bool} {n : Nat} {since k c : Int} (f1 : 1 ≤ f) (f2 : f ≤ 4) (hn : s.countP id = n) (hp : putB s k = false) :
    (putAt f ⟨r, s, decide (f + 1 ≤ (n : Int)), since⟩ k c).2 = false ∧ (putAt f ⟨r, s, decide (f + 1 ≤ (n : Int)), since⟩ k c).1.ready = decide (f + 1 ≤ (n : Int)) := by
  have hw : weak f = f + 1 := by unfold weak; rw [if_pos ⟨f1, f2⟩]
  have hc : put s k = s := by unfold put; rw [hp]; rfl
  unfold putAt
  simp only [hw, hc, hn]
  by_cases h1 : f + 1 ≤ (n : Int)
  · rw [decide_eq_true h1]; exact ⟨rfl, rfl⟩
  · rw [decide_eq_false h1]; exact ⟨rfl, rfl⟩
end Psp
