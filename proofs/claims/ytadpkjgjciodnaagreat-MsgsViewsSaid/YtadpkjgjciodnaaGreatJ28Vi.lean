/- Comparing requests: cmp.Compare, cmp.Or, reqs.Compare. Comparing requests: an order. No program in sight. -/
import Derived.Test.YtadpkjgjciodnaaGreatGgVi
import Derived.Test.YtadpkjgjciodnaaGreatGbVi
section
namespace Psp
def cmpI (a b : Int) : Int := if a < b then -1 else if b < a then 1 else 0
def orI : List Int → Int
  | [] => 0
  | x :: l => if x = 0 then orI l else x
def cmpR (a b : Req) : Int := orI [cmpI a.c b.c, cmpI a.t b.t, cmpI a.k b.k, cmpI a.y b.y, cmpI a.v b.v, cmpI a.s b.s]
set_option maxRecDepth 100000 in
theorem orI_hit : ∀ {l : List Int} {k : Nat} {x : Int}, (∀ j, j < k → l[j]? = some 0) → l[k]? = some x → x ≠ 0 → orI l = x
  | [], k, x, _, h, _ => by simp at h
  | y :: l, 0, x, _, h, hx => by
    simp at h; subst h; simp [orI, hx]
  | y :: l, k + 1, x, h0, h, hx => by
    have := h0 0 (by omega)
    simp at this; subst this
    simp only [orI, if_true]
    exact orI_hit (k := k) (fun j hj => by simpa using h0 (j + 1) (by omega)) (by simpa using h) hx
set_option maxRecDepth 100000 in
theorem orI_end : ∀ {l : List Int}, (∀ j, j < l.length → l[j]? = some 0) → orI l = 0
  | [], _ => rfl
  | y :: l, h => by
    have := h 0 (by simp)
    simp at this; subst this
    simp only [orI, if_true]
    exact orI_end (fun j hj => by simpa using h (j + 1) (by simpa using hj))
end Psp
namespace Go.Proofs.YtadpkjgjciodnaaGreat
open Go.RowKit
set_option linter.unusedVariables false

set_option maxRecDepth 100000 in
theorem nan_any (a : Int) (w : World) : Calls Tryz.prog 156 #[.int .i64 a] w fun e w' => e = .returned (.bool false) ∧ w' = w := by
  go_enter Tryz.func156, Tryz.ntmps156
  go_wp2
  go_ret
  exact ⟨rfl, rfl⟩
set_option maxRecDepth 100000 in
theorem cmp_any (a b : Int) (w : World) : Calls Tryz.prog 143 #[.int .i64 a, .int .i64 b] w fun e w' => e = .returned (.int .i64 (Psp.cmpI a b)) ∧ w' = w := by
  by_cases h1 : a < b
  case' pos =>
    have e1 : Psp.cmpI a b = -1 := by simp [Psp.cmpI, h1]
    have d1 : decide (a < b) = true := decide_eq_true h1
  case' neg =>
    have d1 : decide (a < b) = false := decide_eq_false h1
    by_cases h2 : b < a
    case' pos =>
      have e1 : Psp.cmpI a b = 1 := by simp [Psp.cmpI, h1, h2]
      have d2 : decide (b < a) = true := decide_eq_true h2
    case' neg =>
      have e1 : Psp.cmpI a b = 0 := by simp [Psp.cmpI, h1, h2]
      have d2 : decide (b < a) = false := decide_eq_false h2
  all_goals
    rw [e1]
    go_enter Tryz.func143, Tryz.ntmps143
    go_wp2_with fail
    refine (nan_any a w).mono ?_
    rintro e w' ⟨rfl, rfl⟩
    go_wp2_with fail
    refine (nan_any b _).mono ?_
    rintro e w' ⟨rfl, rfl⟩
    go_wp2_with fail
    go_ret
    exact ⟨rfl, rfl⟩

set_option maxRecDepth 100000 in
theorem or_any (b c n : Nat) (l : List Int) (w : World) (hl : l.length = n) (hn : n ≤ c) (hc : c ≤ maxLen) (hcell : ∀ j x, l[j]? = some x → w.cell? ⟨b, j, none⟩ = some (.int .i64 x)) :
    Calls Tryz.prog 142 #[.slice (some ⟨b, 0, none⟩) n c] w fun e w' => e = .returned (.int .i64 (Psp.orI l)) ∧ w' = w := by
  unfold maxLen at hc
  have Hl := Lib.hid hl
  have Hcell := Lib.hid hcell
  clear hl hcell
  go_enter Tryz.func142, Tryz.ntmps142
  go_wp2_with fail
  go_loopw [5, 8] (fun x i wr => ∃ k : Nat, i = .int .i64 (k : Int) ∧ k ≤ n ∧ Hid (∀ j, j < k → l[j]? = some 0) ∧ wr = w) (fun _ i _ => n - (intOf i).toNat)
  case atStart => exact ⟨0, rfl, Nat.zero_le _, Lib.hid (fun j hj => by omega), rfl⟩
  case round =>
    obtain ⟨k, rfl, hk, H0, rfl⟩ := hrel
    by_cases hlt : k < n
    · obtain ⟨x, hx⟩ : ∃ x, l[k]? = some x := ⟨l[k]'(by rw [Hl.out]; exact hlt), List.getElem?_eq_getElem (by rw [Hl.out]; exact hlt)⟩
      have c1 := Hcell.out k x hx
      have Hx := Lib.hid hx
      clear hx
      by_cases h0 : x = 0
      · subst h0
        go_wp2_with fail
        go_roundw
        case rel => exact ⟨k + 1, by go_num, by omega, Lib.hid (fun j hj => by
          by_cases hjk : j = k
          · subst hjk; exact Hx.out
          · exact H0.out j (by omega)), by first | rfl | trivial⟩
        case measure => simp [intOf]; omega
      · have hb : (x != 0) = true := by simpa using h0
        go_wp2_with fail
        go_ret
        exact ⟨by rw [Psp.orI_hit H0.out Hx.out h0]; rfl, rfl⟩
    · go_wp2_with fail
      go_ret
      have hkn : k = n := by omega
      exact ⟨by rw [Psp.orI_end (fun j hj => H0.out j (by rw [Hl.out] at hj; omega))]; rfl, rfl⟩

set_option maxRecDepth 100000 in
set_option maxHeartbeats 4000000 in
theorem compare_any (a b : Psp.Req) (w : World) :
    Calls Tryz.prog 103 #[.agg #[.int .i64 a.c, .int .i64 a.t, .int .i64 a.k, .int .i64 a.y, .int .i64 a.v, .int .i64 a.s], .agg #[.int .i64 b.c, .int .i64 b.t, .int .i64 b.k, .int .i64 b.y, .int .i64 b.v, .int .i64 b.s]] w fun e w' =>
      e = .returned (.int .i64 (Psp.cmpR a b)) ∧ Below w.heap.size w w' := by
  obtain ⟨W, hW⟩ : ∃ W, W = (w.alloc (.cells #[.int .i64 a.c, .int .i64 a.t, .int .i64 a.k, .int .i64 a.y, .int .i64 a.v, .int .i64 a.s] 58)).alloc (.cells #[.int .i64 b.c, .int .i64 b.t, .int .i64 b.k, .int .i64 b.y, .int .i64 b.v, .int .i64 b.s] 58) := ⟨_, rfl⟩
  have hB : Below w.heap.size w W := by rw [hW]; exact (alloc_below w _).trans ((alloc_below _ _).mono (by simp))
  have hr1 : W.heap[w.heap.size]? = some (.cells #[.int .i64 a.c, .int .i64 a.t, .int .i64 a.k, .int .i64 a.y, .int .i64 a.v, .int .i64 a.s] 58 (0, 0)) := by rw [hW]; exact ((alloc_below _ _).block w.heap.size (by simp)).trans (heap_alloc_new w _)
  have hr2 : W.heap[w.heap.size + 1]? = some (.cells #[.int .i64 b.c, .int .i64 b.t, .int .i64 b.k, .int .i64 b.y, .int .i64 b.v, .int .i64 b.s] 58 (0, 0)) := by
    rw [hW]; simpa using heap_alloc_new (w.alloc (.cells #[.int .i64 a.c, .int .i64 a.t, .int .i64 a.k, .int .i64 a.y, .int .i64 a.v, .int .i64 a.s] 58)) (.cells #[.int .i64 b.c, .int .i64 b.t, .int .i64 b.k, .int .i64 b.y, .int .i64 b.v, .int .i64 b.s] 58)
  obtain ⟨x0, x1, x2, x3, x4, x5, _⟩ := rst_cells (r := a) hr1
  obtain ⟨y0, y1, y2, y3, y4, y5, _⟩ := rst_cells (r := b) hr2
  have HW := Lib.hid hW
  have HB := Lib.hid hB
  clear hW hB hr1 hr2
  go_enter Tryz.func103, Tryz.ntmps103
  go_wp2_with fail
  rw [← HW.out]
  refine wp_region_still_tail_drew 36 (by kernel_rfl) (by kernel_rfl) ?_
  simp only [List.take_succ_cons, List.take_zero, List.drop_succ_cons, List.drop_zero]
  repeat (first | still_call (cmp_any _ _ _) | still_step)
  refine wpStill_nil ?_
  have hcell : ∀ j x, ([Psp.cmpI a.c b.c, Psp.cmpI a.t b.t, Psp.cmpI a.k b.k, Psp.cmpI a.y b.y, Psp.cmpI a.v b.v, Psp.cmpI a.s b.s] : List Int)[j]? = some x → (W.drew.alloc (.cells #[.int .i64 (Psp.cmpI a.c b.c), .int .i64 (Psp.cmpI a.t b.t), .int .i64 (Psp.cmpI a.k b.k), .int .i64 (Psp.cmpI a.y b.y), .int .i64 (Psp.cmpI a.v b.v), .int .i64 (Psp.cmpI a.s b.s)] 3)).cell? ⟨W.heap.size, j, none⟩ = some (.int .i64 x) := by
    intro j x hx
    rw [show W.heap.size = W.drew.heap.size from rfl, cell_of_row _ W.drew.heap.size j _ _ _ (heap_alloc_new W.drew _)]
    match j, hx with
    | 0, hx => simpa using hx
    | 1, hx => simpa using hx
    | 2, hx => simpa using hx
    | 3, hx => simpa using hx
    | 4, hx => simpa using hx
    | 5, hx => simpa using hx
  have Hcell := Lib.hid hcell
  clear hcell
  go_wp2_with fail
  refine (or_any W.heap.size 6 6 [Psp.cmpI a.c b.c, Psp.cmpI a.t b.t, Psp.cmpI a.k b.k, Psp.cmpI a.y b.y, Psp.cmpI a.v b.v, Psp.cmpI a.s b.s] _ rfl (Nat.le_refl _) (by unfold maxLen; omega) Hcell.out).mono ?_
  rintro e w' ⟨rfl, rfl⟩
  go_wp2_with fail
  go_ret
  exact ⟨rfl, HB.out.drew.alloc HB.out.size _⟩
end Go.Proofs.YtadpkjgjciodnaaGreat
end
section
namespace Psp
def lexI : List Int → List Int → Int
  | x :: xs, y :: ys => if x < y then -1 else if y < x then 1 else lexI xs ys
  | _, _ => 0
theorem orI_cons (z : Int) (l : List Int) : orI (z :: l) = if z = 0 then orI l else z := rfl
theorem orI_nil : orI [] = 0 := rfl
theorem orI_cmp (x y : Int) (l : List Int) : orI (cmpI x y :: l) = if x < y then -1 else if y < x then 1 else orI l := by
  rw [orI_cons]
  unfold cmpI
  by_cases h1 : x < y
  · simp [h1]
  · by_cases h2 : y < x <;> simp [h1, h2]
def nums (a : Req) : List Int := [a.c, a.t, a.k, a.y, a.v, a.s]
theorem cmpR_lex (a b : Req) : cmpR a b = lexI (nums a) (nums b) := by
  simp only [cmpR, nums, orI_cmp, orI_nil, lexI]
theorem lex_bd : ∀ l r : List Int, lexI l r = -1 ∨ lexI l r = 0 ∨ lexI l r = 1
  | [], _ => Or.inr (Or.inl (by simp [lexI]))
  | _ :: _, [] => Or.inr (Or.inl (by simp [lexI]))
  | x :: xs, y :: ys => by
    simp only [lexI]
    have := lex_bd xs ys
    split
    · exact Or.inl rfl
    · split
      · exact Or.inr (Or.inr rfl)
      · exact this
theorem lex_swap : ∀ l r : List Int, lexI r l = - lexI l r
  | [], [] => by simp [lexI]
  | [], _ :: _ => by simp [lexI]
  | _ :: _, [] => by simp [lexI]
  | x :: xs, y :: ys => by
    simp only [lexI]
    have := lex_swap xs ys
    by_cases h1 : x < y
    · rw [if_pos h1, if_neg (by omega), if_pos h1]; rfl
    · by_cases h2 : y < x
      · rw [if_pos h2, if_neg h1, if_pos h2]
      · rw [if_neg h2, if_neg h1, if_neg h1, if_neg h2, this]
theorem lex_zero : ∀ l r : List Int, l.length = r.length → lexI l r = 0 → l = r
  | [], [], _, _ => rfl
  | [], _ :: _, h, _ => by simp at h
  | _ :: _, [], h, _ => by simp at h
  | x :: xs, y :: ys, h, g => by
    simp only [lexI] at g
    by_cases h1 : x < y
    · rw [if_pos h1] at g; omega
    · rw [if_neg h1] at g
      by_cases h2 : y < x
      · rw [if_pos h2] at g; omega
      · rw [if_neg h2] at g
        rw [lex_zero xs ys (by simpa using h) g, show x = y by omega]
theorem lex_self : ∀ l : List Int, lexI l l = 0
  | [] => rfl
  | x :: xs => by simp only [lexI]; rw [if_neg (by omega), if_neg (by omega)]; exact lex_self xs
theorem lex_le : ∀ l m r : List Int, l.length = m.length → m.length = r.length → lexI l m ≤ 0 → lexI m r ≤ 0 → lexI l r ≤ 0
  | [], [], [], _, _, _, _ => by simp [lexI]
  | [], _ :: _, _, h, _, _, _ => by simp at h
  | _ :: _, [], _, h, _, _, _ => by simp at h
  | _, [], _ :: _, _, h, _, _ => by simp at h
  | _, _ :: _, [], _, h, _, _ => by simp at h
  | x :: xs, y :: ys, z :: zs, h, g, k1, k2 => by
    simp only [lexI] at k1 k2 ⊢
    by_cases a1 : x < y
    · by_cases b1 : y < z
      · rw [if_pos (by omega)]; omega
      · rw [if_neg b1] at k2
        by_cases b2 : z < y
        · rw [if_pos b2] at k2; omega
        · rw [if_pos (by omega)]; omega
    · rw [if_neg a1] at k1
      by_cases a2 : y < x
      · rw [if_pos a2] at k1; omega
      · rw [if_neg a2] at k1
        have hxy : x = y := by omega
        subst hxy
        by_cases b1 : x < z
        · rw [if_pos b1]; omega
        · rw [if_neg b1] at k2 ⊢
          by_cases b2 : z < x
          · rw [if_pos b2] at k2; omega
          · rw [if_neg b2] at k2 ⊢
            exact lex_le xs ys zs (by simpa using h) (by simpa using g) k1 k2
theorem nums_inj {a b : Req} (h : nums a = nums b) : a = b := by
  cases a; cases b
  simp only [nums, List.cons.injEq, and_true] at h
  obtain ⟨rfl, rfl, rfl, rfl, rfl, rfl⟩ := h
  rfl
theorem cmpR_bd (a b : Req) : cmpR a b = -1 ∨ cmpR a b = 0 ∨ cmpR a b = 1 := by rw [cmpR_lex]; exact lex_bd _ _
theorem cmpR_swap (a b : Req) : cmpR b a = - cmpR a b := by rw [cmpR_lex, cmpR_lex]; exact lex_swap _ _
theorem cmpR_zero {a b : Req} : cmpR a b = 0 ↔ a = b := ⟨fun h => nums_inj (lex_zero _ _ rfl (by rw [← cmpR_lex]; exact h)), fun h => by subst h; rw [cmpR_lex]; exact lex_self _⟩
theorem cmpR_le {a b c : Req} (h1 : cmpR a b ≤ 0) (h2 : cmpR b c ≤ 0) : cmpR a c ≤ 0 := by
  rw [cmpR_lex] at *
  exact lex_le _ (nums b) _ rfl rfl h1 h2
end Psp
end
