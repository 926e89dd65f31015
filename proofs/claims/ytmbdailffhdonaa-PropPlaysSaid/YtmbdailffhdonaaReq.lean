/- Requests: their order, in plain words; the walks of cmp.Compare, cmp.Or, reqs.Compare. -/
import Derived.Test.YtmbdailffhdonaaReqs
import Derived.Test.YtmbdailffhdonaaOpen
import Derived.Test.YtmbdailffhdonaaInts
import Derived.StillTailTactics
import Derived.BigQuiet
import Derived.Deep.QuietTactic
namespace Psp

def cmpI (a b : Int) : Int := if a < b then -1 else if b < a then 1 else 0
/-- The first that is not 0. -/
def orL : List Int → Int
  | [] => 0
  | x :: l => if x = 0 then orL l else x
def cmpR (a b : Req) : Int := orL [cmpI a.c b.c, cmpI a.t b.t, cmpI a.k b.k, cmpI a.y b.y, cmpI a.v b.v, cmpI a.s b.s]

theorem cmpI_cases (a b : Int) : (cmpI a b = -1 ∧ a < b) ∨ (cmpI a b = 0 ∧ a = b) ∨ (cmpI a b = 1 ∧ b < a) := by
  unfold cmpI
  by_cases h : a < b
  · rw [if_pos h]; exact Or.inl ⟨rfl, h⟩
  · rw [if_neg h]
    by_cases g : b < a
    · rw [if_pos g]; exact Or.inr (Or.inr ⟨rfl, g⟩)
    · rw [if_neg g]; exact Or.inr (Or.inl ⟨rfl, by omega⟩)

/-- Lists of one length, by their first unlike numbers. -/
def cmpL (a b : List Int) : Int := orL (List.zipWith cmpI a b)
theorem cmpL_cons (x y : Int) (a b : List Int) : cmpL (x :: a) (y :: b) = if cmpI x y = 0 then cmpL a b else cmpI x y := rfl
def Req.l (r : Req) : List Int := [r.c, r.t, r.k, r.y, r.v, r.s]
theorem cmpR_l (a b : Req) : cmpR a b = cmpL a.l b.l := rfl

theorem cmpL_bd : ∀ (a b : List Int), cmpL a b = -1 ∨ cmpL a b = 0 ∨ cmpL a b = 1
  | [], _ => Or.inr (Or.inl rfl)
  | _ :: _, [] => Or.inr (Or.inl rfl)
  | x :: a, y :: b => by
    rw [cmpL_cons]
    rcases cmpI_cases x y with ⟨h, _⟩ | ⟨h, _⟩ | ⟨h, _⟩
    · rw [h]; simp
    · rw [h, if_pos rfl]; exact cmpL_bd a b
    · rw [h]; simp
theorem cmpL_zero : ∀ (a b : List Int), a.length = b.length → (cmpL a b = 0 ↔ a = b)
  | [], [], _ => by simp [cmpL, orL]
  | x :: a, y :: b, h => by
    rw [cmpL_cons]
    have ih := cmpL_zero a b (by simpa using h)
    rcases cmpI_cases x y with ⟨h, g⟩ | ⟨h, g⟩ | ⟨h, g⟩
    · rw [h]; simp; omega
    · rw [h, if_pos rfl, ih, g]; simp
    · rw [h]; simp; omega
theorem cmpL_neg : ∀ (a b : List Int), cmpL b a = -cmpL a b
  | [], [] => rfl
  | [], _ :: _ => rfl
  | _ :: _, [] => rfl
  | x :: a, y :: b => by
    rw [cmpL_cons, cmpL_cons]
    have ih := cmpL_neg a b
    rcases cmpI_cases x y with ⟨h, g⟩ | ⟨h, g⟩ | ⟨h, g⟩ <;> rcases cmpI_cases y x with ⟨h', g'⟩ | ⟨h', g'⟩ | ⟨h', g'⟩ <;> first | omega | (rw [h, h']; simp; try omega)
theorem cmpL_trans : ∀ (a b c : List Int), a.length = b.length → b.length = c.length → cmpL a b ≤ 0 → cmpL b c ≤ 0 → (cmpL a c ≤ 0 ∧ (cmpL a c = 0 → cmpL a b = 0 ∧ cmpL b c = 0))
  | [], [], [], _, _, _, _ => by simp [cmpL, orL]
  | x :: a, y :: b, z :: c, h1, h2, p, q => by
    have ih := cmpL_trans a b c (by simpa using h1) (by simpa using h2)
    rw [cmpL_cons] at p q ⊢
    rw [cmpL_cons, cmpL_cons]
    rcases cmpI_cases x y with ⟨h, g⟩ | ⟨h, g⟩ | ⟨h, g⟩ <;> rcases cmpI_cases y z with ⟨h', g'⟩ | ⟨h', g'⟩ | ⟨h', g'⟩ <;> rcases cmpI_cases x z with ⟨h'', g''⟩ | ⟨h'', g''⟩ | ⟨h'', g''⟩ <;>
      first
      | omega
      | (rw [h] at p; simp at p)
      | (rw [h'] at q; simp at q)
      | (rw [h] at p ⊢; rw [h'] at q ⊢; rw [h''] ; simp at p q ⊢; try exact ih p q)

theorem cmpR_bd (a b : Req) : cmpR a b = -1 ∨ cmpR a b = 0 ∨ cmpR a b = 1 := cmpL_bd a.l b.l
theorem cmpR_zero (a b : Req) : cmpR a b = 0 ↔ a = b := by
  rw [cmpR_l, cmpL_zero a.l b.l rfl, Req.eq_iff]
  simp [Req.l]
theorem cmpR_neg (a b : Req) : cmpR b a = -cmpR a b := cmpL_neg a.l b.l
theorem cmpR_self (a : Req) : cmpR a a = 0 := (cmpR_zero a a).2 rfl
theorem cmpR_trans {a b c : Req} (h : cmpR a b < 0) (g : cmpR b c < 0) : cmpR a c < 0 := by
  obtain ⟨h1, h2⟩ := cmpL_trans a.l b.l c.l rfl rfl (by rw [← cmpR_l]; omega) (by rw [← cmpR_l]; omega)
  rw [cmpR_l] at *
  rcases Int.lt_or_eq_of_le h1 with h3 | h3
  · exact h3
  · have := h2 h3; omega
end Psp
namespace Go.Proofs.Ytmbdailffhdonaa
open Go.RowKit
set_option linter.unusedVariables false

theorem cmpI_any (a b : Int) (w : World) : Calls Try.prog 43 #[.int .i64 a, .int .i64 b] w fun e w' => e = .returned (.int .i64 (Psp.cmpI a b)) ∧ w = w' := by
  rcases Psp.cmpI_cases a b with ⟨h, g⟩ | ⟨h, g⟩ | ⟨h, g⟩
  · rw [h]
    clear h
    go_enter Try.func43, Try.ntmps43
    go_wp2
    go_ret
    exact ⟨rfl, rfl⟩
  · rw [h]
    subst g
    clear h
    go_enter Try.func43, Try.ntmps43
    go_wp2
    go_ret
    exact ⟨rfl, rfl⟩
  · rw [h]
    have g2 : ¬ a < b := by omega
    clear h
    go_enter Try.func43, Try.ntmps43
    go_wp2
    go_ret
    exact ⟨rfl, rfl⟩

theorem or_any (l : List Int) (v : Value) (w : World) (hr : Rd w w.heap.size 1 v l.length (l.map iv)) :
    Calls Try.prog 42 #[v] w fun e w' => e = .returned (.int .i64 (Psp.orL l)) ∧ w = w' := by
  obtain ⟨hrl, A, c, rfl, hc1, hc2, hcell⟩ := hr
  obtain ⟨len, hlen⟩ : ∃ len, l.length = len := ⟨_, rfl⟩
  unfold maxLen at hc2
  rw [hlen] at hcell hc1 ⊢
  have Hlen := Lib.hid hlen
  have Hcell := Lib.hid hcell
  obtain ⟨R, hR⟩ : ∃ R, Psp.orL l = R := ⟨_, rfl⟩
  rw [hR]
  have HR := Lib.hid hR
  clear hlen hrl hcell hR
  go_enter Try.func42, Try.ntmps42
  go_wp2_with fail
  go_loop [8] (fun i => ∃ (k : Nat), i = .int .i64 (k : Int) ∧ k ≤ len ∧ Hid (Psp.orL (l.drop k) = R)) (fun i => len - (intOf i).toNat)
  case atStart => exact ⟨0, rfl, Nat.zero_le _, HR⟩
  case round =>
    obtain ⟨k, rfl, hk, hup⟩ := hrel
    by_cases hlt : k < len
    · obtain ⟨b, o, hAe, hb, hlies⟩ := Hcell.out (by omega)
      subst hAe
      have hx0 : k < l.length := by have := Hlen.out; omega
      have hcy := hlies.at_ (j := k) (by simpa using hx0)
      have hup' := hup.out
      rw [List.drop_eq_getElem_cons hx0, Psp.orL] at hup'
      obtain ⟨y, hy⟩ : ∃ y, l[k] = y := ⟨_, rfl⟩
      simp only [List.getElem_map, hy, iv] at hcy
      rw [hy] at hup'
      have Hup := Lib.hid hup'
      clear hup hup' hlies hy
      by_cases h0 : y = 0
      · subst h0
        go_wp2_with fail
        go_round
        case rel => exact ⟨k + 1, by go_num, by omega, Lib.hid (by have := Hup.out; rwa [if_pos rfl] at this)⟩
        case measure => simp [intOf]; omega
      · have d : (y != 0) = true := by simpa using h0
        have e := Hup.out
        rw [if_neg h0] at e
        subst e
        clear h0
        go_wp2_with fail
        go_ret
        exact ⟨rfl, rfl⟩
    · obtain rfl : k = len := by omega
      have h := hup.out
      rw [List.drop_eq_nil_of_le (by rw [Hlen.out]; exact Nat.le_refl _)] at h
      have h0 : R = 0 := h.symm
      subst h0
      clear hup h
      go_wp2_with fail
      go_ret
      exact ⟨rfl, rfl⟩

set_option maxRecDepth 100000 in
theorem compare_any (a b : Psp.Req) (w : World) :
    Calls Try.prog 36 #[.agg #[.int .i64 a.c, .int .i64 a.t, .int .i64 a.k, .int .i64 a.y, .int .i64 a.v, .int .i64 a.s], .agg #[.int .i64 b.c, .int .i64 b.t, .int .i64 b.k, .int .i64 b.y, .int .i64 b.v, .int .i64 b.s]] w
      fun e w' => e = .returned (.int .i64 (Psp.cmpR a b)) ∧ Below w.heap.size w w' := by
  obtain ⟨R, hR⟩ : ∃ R, Psp.cmpR a b = R := ⟨_, rfl⟩
  rw [hR]
  have HR := Lib.hid hR
  clear hR
  go_enter Try.func36, Try.ntmps36
  go_wp2_with fail
  refine wp_region_still_tail_drew 36 (by kernel_rfl) (by kernel_rfl) ?_
  simp only [List.take_succ_cons, List.take_zero, List.drop_succ_cons, List.drop_zero]
  repeat (first | still_step | still_call ((cmpI_any _ _ _).mono fun _ _ h => ⟨h.1, h.2.symm⟩))
  refine wpStill_nil ?_
  go_wp2_with fail
  have hz : ∀ A B : Obj, ((w.alloc A).alloc B).heap.size = w.heap.size + 1 + 1 := by intro A B; simp
  refine (or_any [Psp.cmpI a.c b.c, Psp.cmpI a.t b.t, Psp.cmpI a.k b.k, Psp.cmpI a.y b.y, Psp.cmpI a.v b.v, Psp.cmpI a.s b.s] _ _ (by
    have h := Rd.lits ((w.alloc (.cells #[.int .i64 a.c, .int .i64 a.t, .int .i64 a.k, .int .i64 a.y, .int .i64 a.v, .int .i64 a.s] 25)).alloc (.cells #[.int .i64 b.c, .int .i64 b.t, .int .i64 b.k, .int .i64 b.y, .int .i64 b.v, .int .i64 b.s] 25)) #[.int .i64 (Psp.cmpI a.c b.c), .int .i64 (Psp.cmpI a.t b.t), .int .i64 (Psp.cmpI a.k b.k), .int .i64 (Psp.cmpI a.y b.y), .int .i64 (Psp.cmpI a.v b.v), .int .i64 (Psp.cmpI a.s b.s)] 3 1 6 rfl (by simp [maxLen])
    rw [hz] at h
    exact h.more (by simp))).mono ?_
  rintro e w' ⟨rfl, rfl⟩
  rw [show Psp.orL [Psp.cmpI a.c b.c, Psp.cmpI a.t b.t, Psp.cmpI a.k b.k, Psp.cmpI a.y b.y, Psp.cmpI a.v b.v, Psp.cmpI a.s b.s] = R from HR.out]
  go_wp2_with fail
  go_ret
  exact ⟨rfl, ((((Below.refl _ _).alloc (Nat.le_refl _) _).alloc (by simp) _).alloc (by simp; omega) _).drew⟩
end Go.Proofs.Ytmbdailffhdonaa
