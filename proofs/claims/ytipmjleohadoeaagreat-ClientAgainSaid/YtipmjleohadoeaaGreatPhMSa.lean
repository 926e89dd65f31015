/- A region that draws its order, step by step, with a class of worlds that holds until its reads are done: reads taken ahead; branches where two may come. -/
import Derived.Test.YtipmjleohadoeaaGreatPhXSa
namespace Go.Proofs.YtipmjleohadoeaaGreat
open Go.RowKit
set_option linter.unusedVariables false
set_option linter.unusedSimpArgs false

section
variable {P : Program} {ops : Array Oper} {md : Region.Mode} {Q : Exit → Act → World → Prop} {S : World → Prop} {M : List Nat}

/-- As wpAny; and behind each of M the world is one of S. -/
def wpAnyM (P : Program) (md : Region.Mode) (ops : Array Oper) (Q : Exit → Act → World → Prop) (S : World → Prop) (M : List Nat) : Nat → Array Bool → Act → World → Prop
  | 0, listed, a, w => Region.ready md ops listed = [] ∧ Q .normal a w
  | fuel + 1, listed, a, w =>
    (Region.ready md ops listed = [] → Q .normal a w) ∧
    ∀ i ∈ Region.ready md ops listed, wpOp P ops Q i (fun a' w' => (i ∈ M → S w') ∧ wpAnyM P md ops Q S M fuel (listed.setIfInBounds i true) a' w') a w

theorem wpAnyM.any : ∀ (fuel : Nat) (listed : Array Bool) (a : Act) (w : World), wpAnyM P md ops Q S M fuel listed a w → wpAny P md ops Q fuel listed a w
  | 0, _, _, _, h => h
  | fuel + 1, listed, a, w, h => ⟨h.1, fun i hi => wpOp_mono (fun a' w' h' => wpAnyM.any fuel _ a' w' h'.2) (h.2 i hi)⟩

theorem wpAnyM_pre' {D : List Nat} {i : Nat} {oi : Oper} {v : Value} (hi : ops[i]? = some oi) (hE : earlierB md ops = true) (hsel : ∀ (j : Nat) (o : Oper) cs b, ops[j]? = some o → o.op ≠ .select cs b)
    (hQ : ∀ c a w, Q (.panic c) (a.put oi.dst v) w → Q (.panic c) a w) (hw : ∀ j, j < ops.size → j ∉ M → j ∉ D → j ∈ waitD md D i ops.toList 0 []) :
    ∀ (fuel : Nat) (listed : Array Bool) (a : Act) (w : World), closedD md ops D listed →
      (∀ j oj, ops[j]? = some oj → j ≠ i → listed.getD j true = false → (∀ e ∈ oj.after, Region.binds md e = true → e.on ≠ i) → oi.apart ops oj = true) →
      listed.getD i true = false → YieldsIf P ops S oi v a → S w →
      wpAnyM P md ops Q S M fuel (listed.setIfInBounds i true) (a.put oi.dst v) w → wpAnyM P md ops Q S M (fuel + 1) listed a w := by
  intro fuel
  have hisz : i < ops.size := (Array.getElem?_eq_some_iff.1 hi).1
  induction fuel with
  | zero =>
    intro listed a w hcl _ hr hy hS H
    refine ⟨fun h => absurd h (some_ready hE i i (Nat.le_refl _) hisz hr), fun j hj => ?_⟩
    by_cases hji : j = i
    · subst hji; exact hy.wpOp hi hS ⟨fun _ => hS, H⟩
    · have := ready_mono (i := i) hj hji
      rw [H.1] at this
      cases this
  | succ fuel ih =>
    intro listed a w hcl hfree hr hy hS H
    refine ⟨fun h => absurd h (some_ready hE i i (Nat.le_refl _) hisz hr), fun j hj => ?_⟩
    by_cases hji : j = i
    · subst hji; exact hy.wpOp hi hS ⟨fun _ => hS, H⟩
    · have h1 := H.2 j (ready_mono hj hji)
      obtain ⟨hjun, oj, hoj, hall⟩ := mem_ready.1 hj
      have hfalse : listed.getD i false = false := by
        cases hx : listed.getD i false with
        | false => rfl
        | true =>
          rcases Nat.lt_or_ge i listed.size with h' | h'
          · simp [h'] at hr hx; rw [hr] at hx; cases hx
          · simp [Array.getElem?_eq_none h'] at hx
      have hjM : j ∈ M := by
        by_cases hm : j ∈ M
        · exact hm
        · exfalso
          have hjD : j ∉ D := fun hD => by have := hcl.1 j hD; rw [hjun] at this; cases this
          have h2 := waitD.not hcl hfalse ops.toList 0 [] (fun k => by simp) (fun k hk => by cases hk) j (hw j (Array.getElem?_eq_some_iff.1 hoj).1 hm hjD)
          rcases h2.2 with h3 | h3
          · exact hji h3
          · exact h3 hj
      have hnot : ∀ e ∈ oj.after, Region.binds md e = true → e.on ≠ i := fun e he hb heq => by
        have h1 := hall e he hb
        rw [heq, hfalse] at h1
        cases h1
      have h2 := wpOp_putIf hoj (hfree j oj hoj hji hjun hnot) (fun cs b => hsel i oi cs b hi) (fun cs b => hsel j oj cs b hoj) hQ hy h1
      have hfree' : ∀ k ok, ops[k]? = some ok → k ≠ i → (listed.setIfInBounds j true).getD k true = false →
          (∀ e ∈ ok.after, Region.binds md e = true → e.on ≠ i) → oi.apart ops ok = true := fun k ok hk hki hun hno => by
        refine hfree k ok hk hki ?_ hno
        by_cases hjk : j = k
        · subst hjk; exact hjun
        · rw [getD_set_ne true hjk] at hun; exact hun
      refine wpOp_mono (fun a' w' h3 => ⟨fun _ => h3.2.1 hjM, ih (listed.setIfInBounds j true) a' w' (hcl.set hj) hfree' (by rw [getD_set_ne true hji]; exact hr) h3.1 (h3.2.1 hjM) ?_⟩) h2
      rw [Array.setIfInBounds_comm _ _ hji]
      exact h3.2.2

/-- A read, taken ahead of its time: all but M, D (which are listed) wait for it. -/
def readMB (md : Region.Mode) (l : List Oper) (M D : List Nat) (listed : Array Bool) (i : Nat) : Bool :=
  Region.noSelect l.toArray && earlierB md l.toArray && (match l[i]? with | some o => readB o | none => false) && !listed.getD i true && Region.free md l.toArray listed i &&
  ((let acc := waitD md D i l 0 []; (List.range l.length).all fun j => M.contains j || (D.contains j || acc.contains j)) &&
  (D.all (fun j => listed.getD j true) && (List.range l.length).all fun j => match l[j]? with | some o => D.contains j || !listed.getD j false || o.after.all (fun e => !Region.binds md e || listed.getD e.on false) | none => true))
theorem wpAnyM_read {l : List Oper} (D : List Nat) (i : Nat) {fuel : Nat} {listed : Array Bool} {a : Act} {w : World} (hB : readMB md l M D listed i = true)
    (hQ : ∀ c d v a w, Q (.panic c) (Act.put a d v) w → Q (.panic c) a w) (hS : S w)
    (h : wpQuiet P l.toArray S (fun a' => wpAnyM P md l.toArray Q S M fuel (listed.setIfInBounds i true) a' w) (l[i]?).toList a) : wpAnyM P md l.toArray Q S M (fuel + 1) listed a w := by
  simp only [readMB, Bool.and_eq_true, Bool.not_eq_true'] at hB
  obtain ⟨⟨⟨⟨⟨hs, hE⟩, ho⟩, hl⟩, hf⟩, hw, hc1, hc2⟩ := hB
  cases hli : l[i]? with
  | none => rw [hli] at ho; cases ho
  | some o =>
    rw [hli] at ho h
    have hoi : l.toArray[i]? = some o := by simpa using hli
    obtain ⟨v, hy, hK⟩ := yields_of_quiet (i := i) (o := o) (by simpa using ho) h
    refine wpAnyM_pre' (D := D) hoi hE (Region.noSelect_spec hs) (fun c a w => hQ c _ _ a w) (fun j hj hM hD => ?_) fuel listed a w ⟨fun j hj => List.all_eq_true.1 hc1 j hj, fun j oj hjD hj hl e he hb => ?_⟩ (Region.free_spec hoi hf) hl hy hS hK
    · have h1 := List.all_eq_true.1 hw j (List.mem_range.2 (by simpa using hj))
      rw [Bool.or_eq_true, Bool.or_eq_true] at h1
      rcases h1 with h1 | h1 | h1
      · exact absurd (by simpa using h1) hM
      · exact absurd (by simpa using h1) hD
      · simpa using h1
    · have hjl : j < l.length := by simpa using (Array.getElem?_eq_some_iff.1 hj).1
      have h1 := List.all_eq_true.1 hc2 j (List.mem_range.2 hjl)
      have hlj : l[j]? = some oj := by simpa using hj
      rw [hlj] at h1
      simp only [Bool.or_eq_true, Bool.not_eq_true'] at h1
      rcases h1 with (h1 | h1) | h1
      · exact absurd (by simpa using h1) hjD
      · rw [hl] at h1; cases h1
      · have h2 := Array.all_eq_true_iff_forall_mem.1 h1 e he
        rw [hb] at h2
        simpa using h2

theorem wpOp_of_list {listed : Array Bool} {l : List Oper} {j : Nat} {K : Act → World → Prop} {a : Act} {w : World} (hr' : j ∈ Region.ready md l.toArray listed) (h : wpList P l.toArray (thenN K) (l[j]?).toList a w) : wpOp P l.toArray Q j K a w := by
  obtain ⟨_, o, hoi, _⟩ := mem_ready.1 hr'
  have hol : l[j]? = some o := by simpa using hoi
  rw [hol] at h
  have h' : wpList P l.toArray (thenN K) [o] a w := h
  have h2 : wpOp P l.toArray noQ j K a w := by
    unfold wpOp
    simp only [hoi]
    unfold wpList at h'
    split
    · rename_i hwt
      rw [if_pos hwt] at h'
      rcases h' with h' | ⟨_, _, _, h'⟩
      · exact .inl (wp_thenN (Oper.wp_mono (fun a w h => h) h'))
      · exact absurd h' id
    · rename_i hwt
      rw [if_neg hwt] at h'
      exact h'
  exact wpOp_noQ (fun _ _ h => h) h2
/-- One that alone may come. -/
theorem wpAnyM_one {l : List Oper} (i : Nat) {fuel : Nat} {listed : Array Bool} {a : Act} {w : World} (hr : decide (Region.ready md l.toArray listed = [i]) = true)
    (h : wpList P l.toArray (thenN fun a' w' => (i ∈ M → S w') ∧ wpAnyM P md l.toArray Q S M fuel (listed.setIfInBounds i true) a' w') (l[i]?).toList a w) : wpAnyM P md l.toArray Q S M (fuel + 1) listed a w := by
  have hr := of_decide_eq_true hr
  refine ⟨by rw [hr]; simp, fun j hj => ?_⟩
  have hji : j = i := by rw [hr] at hj; simpa using hj
  subst hji
  exact wpOp_of_list hj h
/-- Two may come. -/
theorem wpAnyM_two {l : List Oper} (i k : Nat) {fuel : Nat} {listed : Array Bool} {a : Act} {w : World} (hr : decide (Region.ready md l.toArray listed = [i, k]) = true)
    (h1 : wpList P l.toArray (thenN fun a' w' => (i ∈ M → S w') ∧ wpAnyM P md l.toArray Q S M fuel (listed.setIfInBounds i true) a' w') (l[i]?).toList a w)
    (h2 : wpList P l.toArray (thenN fun a' w' => (k ∈ M → S w') ∧ wpAnyM P md l.toArray Q S M fuel (listed.setIfInBounds k true) a' w') (l[k]?).toList a w) : wpAnyM P md l.toArray Q S M (fuel + 1) listed a w := by
  have hr := of_decide_eq_true hr
  refine ⟨by rw [hr]; simp, fun j hj => ?_⟩
  have hji : j = i ∨ j = k := by rw [hr] at hj; simpa using hj
  rcases hji with hji | hji
  · subst hji; exact wpOp_of_list hj h1
  · subst hji; exact wpOp_of_list hj h2
theorem wp_region_M {id : Nat} {a : Act} {w : World} {l : List Oper} (S : World → Prop) (M : List Nat) (n : Nat) (hn : l.length = n) (hm : P.follows .mixedOrders = true) (h : wpAnyM P .any l.toArray Q S M n (Array.replicate n false) a w.drew) : (Code.region id l.toArray true).wp P Q a w :=
  wp_region_steps n hn hm (wpAnyM.any _ _ _ _ h)
end
end Go.Proofs.YtipmjleohadoeaaGreat
