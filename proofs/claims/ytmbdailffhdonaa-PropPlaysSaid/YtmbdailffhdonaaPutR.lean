/- Plain facts on tables: which requests stand in them behind a call of Put. -/
import Derived.Test.YtmbdailffhdonaaTab9
namespace Psp
def reqsOf (l : List Told) : List Req := l.map (·.r)
theorem isAt_mem {l : List Told} {r : Req} (h : isAt l r = true) : ∃ t ∈ l, t.r = r := by
  have hp := isAt_pos h
  rw [isAt_lt rfl hp] at h
  exact ⟨_, List.getElem_mem hp, by simpa using h⟩
theorem putAt_r (f : Int) (t : Told) (n c : Int) : (putAt f t n c).1.r = t.r := by unfold putAt; split <;> rfl
/-- What Put does, as the law sees it. -/
theorem put_R (f cl : Int) (l : List Told) (r : Req) (n c : Int) :
    ((putP f cl l r n c).1 = (false, false, 1) ∧ (putP f cl l r n c).2 = l ∧ ¬ (0 ≤ r.c ∧ r.c < cl ∧ 0 ≤ n ∧ n < nodes f)) ∨
    ((putP f cl l r n c).1 = (false, false, 3) ∧ (putP f cl l r n c).2 = l ∧ isAt l r = false ∧ 4 ≤ cntOf l r.c ∧ (0 ≤ r.c ∧ r.c < cl ∧ 0 ≤ n ∧ n < nodes f)) ∨
    (∃ rd, (putP f cl l r n c).1 = (false, rd, 0) ∧ reqsOf (putP f cl l r n c).2 = reqsOf l ∧ isAt l r = true ∧ (0 ≤ r.c ∧ r.c < cl ∧ 0 ≤ n ∧ n < nodes f)) ∨
    (∃ rd, (putP f cl l r n c).1 = (true, rd, 0) ∧ reqsOf (putP f cl l r n c).2 = (reqsOf l).take (pos l r) ++ r :: (reqsOf l).drop (pos l r) ∧ isAt l r = false ∧ cntOf l r.c < 4 ∧ (0 ≤ r.c ∧ r.c < cl ∧ 0 ≤ n ∧ n < nodes f)) := by
  unfold putP
  by_cases hok : 0 ≤ r.c ∧ r.c < cl ∧ 0 ≤ n ∧ n < nodes f
  · rw [if_pos hok]
    obtain ⟨t, h1, h2, h3⟩ := insT_at l r
    unfold putR
    cases ha : isAt l r with
    | true =>
      refine Or.inr (Or.inr (Or.inl ⟨(putAt f t n c).2, ?_⟩))
      rw [if_neg (by simp), h1]
      refine ⟨rfl, ?_, rfl, hok⟩
      have hi : insT l r = l := by unfold insT; rw [ha]; rfl
      show reqsOf ((insT l r).set (pos l r) (putAt f t n c).1) = reqsOf l
      rw [hi]
      unfold reqsOf
      rw [List.map_set, putAt_r]
      have h4 := h3 ha
      obtain ⟨h5, h6⟩ := List.getElem?_eq_some_iff.1 h4
      refine List.ext_getElem (by simp) fun j a b => ?_
      rw [List.getElem_set]
      split
      · rename_i e; subst e; rw [List.getElem_map, h6]
      · rfl
    | false =>
      by_cases hc : 4 ≤ cntOf l r.c
      · rw [if_pos (by simpa using hc)]
        exact Or.inr (Or.inl ⟨rfl, rfl, rfl, hc, hok⟩)
      · rw [if_neg (by simpa using hc), h1]
        refine Or.inr (Or.inr (Or.inr ⟨(putAt f t n c).2, rfl, ?_, rfl, by omega, hok⟩))
        have hi : insT l r = l.take (pos l r) ++ told0 r :: l.drop (pos l r) := by unfold insT; rw [ha]; rfl
        have ht := h2 ha
        have hp := pos_le l r
        show reqsOf ((insT l r).set (pos l r) (putAt f t n c).1) = _
        rw [hi, ht, List.set_append_right _ _ (by rw [List.length_take]; omega), List.length_take, show pos l r - min (pos l r) l.length = 0 by omega]
        unfold reqsOf
        rw [List.set_cons_zero, List.map_append, List.map_cons, putAt_r, List.map_take, List.map_drop]
        rfl
  · rw [if_neg hok]
    exact Or.inl ⟨rfl, rfl, hok⟩
def cntC (rs : List Req) (c : Int) : Nat := rs.countP (fun r => decide (r.c = c))
theorem cntOf_C (l : List Told) (c : Int) : cntOf l c = cntC (reqsOf l) c := by
  unfold cntOf cntC reqsOf
  rw [List.countP_map]; rfl
theorem cntC_ins (rs : List Req) (p : Nat) (r : Req) (c : Int) : cntC (rs.take p ++ r :: rs.drop p) c = cntC rs c + (if r.c = c then 1 else 0) := by
  unfold cntC
  rw [List.countP_append, List.countP_cons]
  have := List.countP_append (p := fun r : Req => decide (r.c = c)) (l₁ := rs.take p) (l₂ := rs.drop p)
  rw [List.take_append_drop] at this
  simp only [decide_eq_true_eq]
  omega
theorem mem_ins {rs : List Req} {p : Nat} {r x : Req} : x ∈ rs.take p ++ r :: rs.drop p ↔ x = r ∨ x ∈ rs := by
  have : x ∈ rs ↔ x ∈ rs.take p ∨ x ∈ rs.drop p := by rw [← List.mem_append, List.take_append_drop]
  rw [this, List.mem_append, List.mem_cons]
  constructor
  · rintro (h | h | h)
    · exact Or.inr (Or.inl h)
    · exact Or.inl h
    · exact Or.inr (Or.inr h)
  · rintro (h | h | h)
    · exact Or.inr (Or.inl h)
    · exact Or.inl h
    · exact Or.inr (Or.inr h)
theorem len_ins (rs : List Req) (p : Nat) (r : Req) : (rs.take p ++ r :: rs.drop p).length = rs.length + 1 := by
  rw [List.length_append, List.length_cons, List.length_take, List.length_drop]; omega
theorem put_len_le (f cl : Int) (l : List Told) (r : Req) (n c : Int) : (putP f cl l r n c).2.length ≤ l.length + 1 := by
  have hr : ∀ l : List Told, (reqsOf l).length = l.length := fun l => by unfold reqsOf; rw [List.length_map]
  rcases put_R f cl l r n c with ⟨_, h, _⟩ | ⟨_, h, _⟩ | ⟨_, _, h, _⟩ | ⟨_, _, h, _⟩
  · rw [h]; omega
  · rw [h]; omega
  · rw [← hr, h, hr]; omega
  · rw [← hr, h, len_ins, hr]; omega
/-- In a table that Put alone has made no client has more than four. -/
def Few (l : List Told) : Prop := ∀ c, cntC (reqsOf l) c ≤ 4
theorem Few.nil : Few [] := fun c => by simp [cntC, reqsOf]
theorem Few.put {f cl : Int} {l : List Told} (h : Few l) (r : Req) (n c : Int) : Few (putP f cl l r n c).2 := by
  intro d
  rcases put_R f cl l r n c with ⟨_, e, _⟩ | ⟨_, e, _⟩ | ⟨_, _, e, _⟩ | ⟨_, _, e, _, e2, _⟩
  · rw [e]; exact h d
  · rw [e]; exact h d
  · rw [e]; exact h d
  · rw [e, cntC_ins]
    rw [cntOf_C] at e2
    split
    · rename_i he; rw [he] at e2; omega
    · exact h d
theorem two_clients : ∀ (rs : List Req), (∀ r ∈ rs, 0 ≤ r.c ∧ r.c < 2) → rs.length = cntC rs 0 + cntC rs 1
  | [], _ => rfl
  | r :: rs, h => by
    have ih := two_clients rs fun x hx => h x (by simp [hx])
    have h0 := h r (by simp)
    unfold cntC at ih ⊢
    rw [List.countP_cons, List.countP_cons, List.length_cons, ih]
    by_cases e : r.c = 0
    · have e1 : ¬ r.c = 1 := by omega
      simp [e]; omega
    · have e1 : r.c = 1 := by omega
      simp [e1]; omega
end Psp
