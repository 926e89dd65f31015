/- The reference: Compare. Printed by gen_rcq.py. -/
import Derived.Test.YtmbdailffhdonaaRft
namespace Psp
def lexI : List Int → List Int → Int
  | x :: xs, y :: ys => if x < y then -1 else if y < x then 1 else lexI xs ys
  | _, _ => 0
theorem orL_cons (z : Int) (l : List Int) : orL (z :: l) = if z = 0 then orL l else z := rfl
theorem orL_nil : orL [] = 0 := rfl
theorem orL_cmp (x y : Int) (l : List Int) : orL (cmpI x y :: l) = if x < y then -1 else if y < x then 1 else orL l := by
  rw [orL_cons]
  unfold cmpI
  by_cases h1 : x < y
  · simp [h1]
  · by_cases h2 : y < x <;> simp [h1, h2]
def nums (a : Req) : List Int := [a.c, a.t, a.k, a.y, a.v, a.s]
theorem cmpR_lex (a b : Req) : cmpR a b = lexI (nums a) (nums b) := by
  simp only [cmpR, nums, orL_cmp, orL_nil, lexI]
theorem lex_swap : ∀ l r : List Int, lexI r l = - lexI l r
  | [], [] => by simp [lexI]
  | [], _ :: _ => by simp [lexI]
  | _ :: _, [] => by simp [lexI]
  | x :: xs, y :: ys => by
    simp only [lexI]
    have := lex_swap xs ys
    by_cases h1 : x < y
    · rw [if_pos h1, if_neg (by omega), if_pos h1]; rfl
    · by_cases h2 : y < x
      · rw [if_pos h2, if_neg h1, if_pos h2]
      · rw [if_neg h2, if_neg h1, if_neg h1, if_neg h2, this]
theorem lex_self : ∀ l : List Int, lexI l l = 0
  | [] => rfl
  | x :: xs => by simp only [lexI]; rw [if_neg (by omega), if_neg (by omega)]; exact lex_self xs
theorem lex_lt : ∀ {l r : List Int} {k : Nat} {x y : Int}, (∀ j, j < k → l[j]? = r[j]?) → l[k]? = some x → r[k]? = some y → x < y → lexI l r = -1
  | [], _, k, x, _, _, h, _, _ => by simp at h
  | _ :: _, [], k, _, y, _, _, h, _ => by simp at h
  | a :: l, b :: r, 0, x, y, _, h1, h2, h => by
    simp at h1 h2; subst h1 h2
    simp only [lexI]; rw [if_pos h]
  | a :: l, b :: r, k + 1, x, y, h0, h1, h2, h => by
    have := h0 0 (by omega)
    simp at this; subst this
    simp only [lexI]; rw [if_neg (by omega), if_neg (by omega)]
    exact lex_lt (k := k) (fun j hj => by simpa using h0 (j + 1) (by omega)) (by simpa using h1) (by simpa using h2) h
theorem lex_gt {l r : List Int} {k : Nat} {x y : Int} (h0 : ∀ j, j < k → l[j]? = r[j]?) (h1 : l[k]? = some x) (h2 : r[k]? = some y) (h : y < x) : lexI l r = 1 := by
  rw [lex_swap r l, lex_lt (fun j hj => (h0 j hj).symm) h2 h1 h]; rfl
end Psp
namespace Go.Proofs.Ytmbdailffhdonaa
open Go.RowKit
set_option linter.unusedVariables false

theorem rc_arr {W w0 : World} {g : Nat} {r : Psp.Req} {T : TypeId} (h : W.heap[g]? = some (.cells #[.int .i64 r.c, .int .i64 r.t, .int .i64 r.k, .int .i64 r.y, .int .i64 r.v, .int .i64 r.s] T (0, 0))) : ∀ j x, (Psp.nums r)[j]? = some x → W.cell? ⟨g, j, none⟩ = some (.int .i64 x) := by
  intro j x hx
  rw [cell_of_row W g j _ _ _ h]
  match j, hx with
  | 0, hx => simpa [Psp.nums] using hx
  | 1, hx => simpa [Psp.nums] using hx
  | 2, hx => simpa [Psp.nums] using hx
  | 3, hx => simpa [Psp.nums] using hx
  | 4, hx => simpa [Psp.nums] using hx
  | 5, hx => simpa [Psp.nums] using hx

theorem rc_rows (w : World) (a b : Array Value) (T U : TypeId) (W : World) (h : W = (((w.alloc (.cells a T)).alloc (.cells b T)).alloc (.cells a U)).alloc (.cells b U)) :
    W.heap[w.heap.size + 1 + 1]? = some (.cells a U (0, 0)) ∧ W.heap[w.heap.size + 1 + 1 + 1]? = some (.cells b U (0, 0)) ∧ Below w.heap.size w W := by
  subst h
  have h1 := heap_alloc_new ((w.alloc (.cells a T)).alloc (.cells b T)) (.cells a U)
  have h2 := heap_alloc_new (((w.alloc (.cells a T)).alloc (.cells b T)).alloc (.cells a U)) (.cells b U)
  refine ⟨((alloc_below _ _).block (w.heap.size + 1 + 1) (by simp)).trans (by simpa using h1), by simpa using h2, ?_⟩
  exact (((alloc_below w _).trans ((alloc_below _ _).mono (by simp))).trans ((alloc_below _ _).mono (by simp; omega))).trans ((alloc_below _ _).mono (by simp; omega))

set_option maxRecDepth 100000 in
set_option maxHeartbeats 4000000 in
theorem rcompare_any (a b : Psp.Req) (w : World) :
    Calls Try.prog 39 #[.agg #[.int .i64 a.c, .int .i64 a.t, .int .i64 a.k, .int .i64 a.y, .int .i64 a.v, .int .i64 a.s], .agg #[.int .i64 b.c, .int .i64 b.t, .int .i64 b.k, .int .i64 b.y, .int .i64 b.v, .int .i64 b.s]] w fun e w' =>
      e = .returned (.int .i64 (Psp.cmpR a b)) ∧ Below w.heap.size w w' := by
  rw [Psp.cmpR_lex]
  obtain ⟨W, hW⟩ : ∃ W, W = (((w.alloc (.cells #[.int .i64 a.c, .int .i64 a.t, .int .i64 a.k, .int .i64 a.y, .int .i64 a.v, .int .i64 a.s] 25)).alloc (.cells #[.int .i64 b.c, .int .i64 b.t, .int .i64 b.k, .int .i64 b.y, .int .i64 b.v, .int .i64 b.s] 25)).alloc (.cells #[.int .i64 a.c, .int .i64 a.t, .int .i64 a.k, .int .i64 a.y, .int .i64 a.v, .int .i64 a.s] 79)).alloc (.cells #[.int .i64 b.c, .int .i64 b.t, .int .i64 b.k, .int .i64 b.y, .int .i64 b.v, .int .i64 b.s] 79) := ⟨_, rfl⟩
  obtain ⟨r1, r2, hB⟩ := rc_rows w _ _ _ _ W hW
  have HA := Lib.hid (rc_arr (w0 := w) (r := a) r1)
  have HBb := Lib.hid (rc_arr (w0 := w) (r := b) r2)
  have HW := Lib.hid hW
  have HB := Lib.hid hB
  have la : (Psp.nums a).length = 6 := rfl
  have lb : (Psp.nums b).length = 6 := rfl
  obtain ⟨xs, hxs⟩ : ∃ xs, xs = Psp.nums a := ⟨_, rfl⟩
  obtain ⟨ys, hys⟩ : ∃ ys, ys = Psp.nums b := ⟨_, rfl⟩
  rw [← hxs] at la HA
  rw [← hys] at lb HBb
  rw [← hxs, ← hys]
  have La := Lib.hid la
  have Lb := Lib.hid lb
  clear hW hB r1 r2 hxs hys la lb
  go_enter Try.func39, Try.ntmps39
  go_wp2_with fail
  rw [← HW.out]
  go_loopw [7] (fun i wr => ∃ k : Nat, i = .int .i64 (k : Int) ∧ k ≤ 6 ∧ Hid (∀ j, j < k → xs[j]? = ys[j]?) ∧ ∃ q, wr = W.drewN q) (fun i _ => 6 - (intOf i).toNat)
  case atStart => exact ⟨0, rfl, Nat.zero_le _, Lib.hid (fun j hj => by omega), 0, rfl⟩
  case round =>
    obtain ⟨k, rfl, hk, H0, q, rfl⟩ := hrel
    by_cases hlt : k < 6
    · obtain ⟨x, hx⟩ : ∃ x, xs[k]? = some x := ⟨xs[k]'(by rw [La.out]; exact hlt), List.getElem?_eq_getElem (by rw [La.out]; exact hlt)⟩
      obtain ⟨y, hy⟩ : ∃ y, ys[k]? = some y := ⟨ys[k]'(by rw [Lb.out]; exact hlt), List.getElem?_eq_getElem (by rw [Lb.out]; exact hlt)⟩
      have c1 := HA.out k x hx
      have c2 := HBb.out k y hy
      have Hx := Lib.hid hx
      have Hy := Lib.hid hy
      clear hx hy
      by_cases h1 : x < y
      · have d1 : decide (x < y) = true := decide_eq_true h1
        have Hr := Lib.hid (Psp.lex_lt H0.out Hx.out Hy.out h1)
        clear h1
        go_wp2_with fail
        go_quiet (fail)
        go_wp2_with fail
        go_ret
        exact ⟨by rw [Hr.out]; rfl, below_drewN (below_drewN HB.out _) _⟩
      · have d1 : decide (x < y) = false := decide_eq_false h1
        by_cases h2 : y < x
        · have d2 : decide (y < x) = true := decide_eq_true h2
          have Hr := Lib.hid (Psp.lex_gt H0.out Hx.out Hy.out h2)
          clear h1 h2
          go_wp2_with fail
          go_quiet (fail)
          go_wp2_with fail
          go_quiet (fail)
          go_wp2_with fail
          go_ret
          exact ⟨by rw [Hr.out]; rfl, below_drewN (below_drewN (below_drewN HB.out _) _) _⟩
        · have d2 : decide (y < x) = false := decide_eq_false h2
          have hxy : x = y := by omega
          have Hxy := Lib.hid hxy
          clear h1 h2 hxy
          go_wp2_with fail
          go_quiet (fail)
          go_wp2_with fail
          go_quiet (fail)
          go_wp2_with fail
          go_roundw
          case rel => exact ⟨k + 1, by go_num, by omega, Lib.hid (fun j hj => by
            by_cases hjk : j = k
            · subst hjk; rw [Hx.out, Hy.out, Hxy.out]
            · exact H0.out j (by omega)), _, rfl⟩
          case measure => simp [intOf]; omega
    · have hk6 : k = 6 := by omega
      subst hk6
      go_wp2_with fail
      go_ret
      have hxy : xs = ys := by
        apply List.ext_getElem?
        intro j
        by_cases hj : j < 6
        · exact H0.out j hj
        · rw [List.getElem?_eq_none (by rw [La.out]; omega), List.getElem?_eq_none (by rw [Lb.out]; omega)]
      exact ⟨by rw [hxy, Psp.lex_self]; rfl, below_drewN HB.out _⟩
end Go.Proofs.Ytmbdailffhdonaa
