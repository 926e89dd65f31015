/- A region that draws its order: operations that read may be taken ahead of those that call or make memory, which come one behind the other; a law over a list that names them in order. -/
import Derived.Test.YtmbdailffhdonaaMix
import Derived.OrdersHeld
namespace Go.Proofs.Ytmbdailffhdonaa
open Go.RowKit
set_option linter.unusedVariables false
set_option linter.unusedSimpArgs false

section
variable {P : Program} {ops : Array Oper} {md : Region.Mode} {S : World → Prop}

/-- Ends in the normal way, with K. -/
def thenN (K : Act → World → Prop) : Exit → Act → World → Prop
  | .normal, a, w => K a w
  | _, _, _ => False
def noQ : Exit → Act → World → Prop := fun _ _ _ => False

theorem wp_noQ {o : Oper} {a : Act} {w : World} {K : Act → World → Prop} {Q : Exit → Act → World → Prop} (h : o.wp P a w K noQ) : o.wp P a w K Q := by
  unfold Oper.wp at *
  generalize (execOp a.eval o).run P w = r at *
  cases r with
  | ok n w' =>
    cases n <;> simp only [Oper.upon] at h ⊢ <;>
      first
        | exact h
        | exact Calls.mono h (fun e w'' he => by
            cases e with
            | returned v => exact he
            | panicked c => exact absurd he id
            | outgrown => exact absurd he (by rintro ⟨_, _, h⟩; exact h))
  | halt x w' => cases x <;> simp only [Oper.upon] at h ⊢ <;> first | exact absurd h id | exact h
theorem wp_thenN {o : Oper} {a : Act} {w : World} {K K2 : Act → World → Prop} (h : o.wp P a w K (thenN K2)) : o.wp P a w K noQ := by
  unfold Oper.wp at *
  generalize (execOp a.eval o).run P w = r at *
  cases r with
  | ok n w' =>
    cases n <;> simp only [Oper.upon] at h ⊢ <;>
      first
        | exact h
        | exact Calls.mono h (fun e w'' he => by
            cases e with
            | returned v => exact he
            | panicked c => exact absurd he id
            | outgrown => exact absurd he (by rintro ⟨_, _, h⟩; exact h))
  | halt x w' => cases x <;> simp only [Oper.upon] at h ⊢ <;> first | exact absurd h id | exact h
theorem wpOp_noQ {i : Nat} {a : Act} {w : World} {K K' : Act → World → Prop} {Q : Exit → Act → World → Prop} (hK : ∀ a w, K a w → K' a w) (h : wpOp P ops noQ i K a w) : wpOp P ops Q i K' a w := by
  refine wpOp_mono hK ?_
  unfold wpOp at *
  split
  · rename_i ho; simp only [ho] at h; exact h
  · rename_i o ho
    simp only [ho] at h
    split
    · rename_i hw
      simp only [hw, if_true] at h
      rcases h with h | ⟨_, _, _, h⟩
      · exact .inl (wp_noQ h)
      · exact absurd h id
    · rename_i hw; simp only [hw] at h; exact h

/-- Whatever order those of the list take; S holds behind each of them; L behind all. -/
def phAny (P : Program) (md : Region.Mode) (ops : Array Oper) (S : World → Prop) (fl : List Nat) (L : Array Bool → Act → World → Prop) : Nat → Array Bool → Act → World → Prop
  | 0, listed, a, w => L listed a w
  | f + 1, listed, a, w => Region.ready md ops listed ≠ [] ∧ ∀ i ∈ Region.ready md ops listed, i ∈ fl ∧ wpOp P ops noQ i (fun a' w' => S w' ∧ phAny P md ops S fl L f (listed.setIfInBounds i true) a' w') a w

theorem phAny.any {g : Nat} {fl : List Nat} {L : Array Bool → Act → World → Prop} {Q : Exit → Act → World → Prop} (hL : ∀ listed a w, L listed a w → wpAny P md ops Q g listed a w) :
    ∀ (f : Nat) (listed : Array Bool) (a : Act) (w : World), phAny P md ops S fl L f listed a w → wpAny P md ops Q (f + g) listed a w
  | 0, listed, a, w, h => by rw [Nat.zero_add]; exact hL _ _ _ h
  | f + 1, listed, a, w, h => by
    rw [show f + 1 + g = (f + g) + 1 by omega]
    exact ⟨fun h0 => absurd h0 h.1, fun i hi => wpOp_noQ (fun a' w' h' => phAny.any hL f _ a' w' h'.2) (h.2 i hi).2⟩

/-- What a listed one waits for is listed. -/
def closedL (md : Region.Mode) (ops : Array Oper) (listed : Array Bool) : Prop := ∀ j oj, ops[j]? = some oj → listed.getD j false = true → ∀ e ∈ oj.after, Region.binds md e = true → listed.getD e.on false = true
theorem closedL.set {listed : Array Bool} {i : Nat} (h : closedL md ops listed) (hi : i ∈ Region.ready md ops listed) : closedL md ops (listed.setIfInBounds i true) := by
  intro j oj hj hl e he hb
  obtain ⟨_, oi, hoi, hall⟩ := mem_ready.1 hi
  by_cases hij : i = j
  · subst hij
    obtain rfl := Option.some.inj (hj.symm.trans hoi)
    exact getD_set_true (hall e he hb)
  · rw [getD_set_ne false hij] at hl
    exact getD_set_true (h j oj hj hl e he hb)
theorem closedL.start (n : Nat) : closedL md ops (Array.replicate n false) := fun j oj _ hl => by rw [getD_replicate_false] at hl; cases hl
/-- r, and those that wait for it, perhaps by way of others: the operations in the order of the text. -/
def waitAcc (md : Region.Mode) (r : Nat) : List Oper → Nat → List Nat → List Nat
  | [], _, acc => acc
  | o :: t, j, acc => waitAcc md r t (j + 1) (if j == r || o.after.any (fun e => Region.binds md e && acc.contains e.on) then j :: acc else acc)
/-- Neither listed nor, but for r, to be listed now. -/
def notNow (md : Region.Mode) (ops : Array Oper) (listed : Array Bool) (r k : Nat) : Prop := listed.getD k false = false ∧ (k = r ∨ k ∉ Region.ready md ops listed)
theorem waitAcc.not {listed : Array Bool} {r : Nat} (h : closedL md ops listed) (hr : listed.getD r false = false) : ∀ (t : List Oper) (j : Nat) (acc : List Nat), (∀ i, t[i]? = ops[j + i]?) →
    (∀ k ∈ acc, notNow md ops listed r k) → ∀ k ∈ waitAcc md r t j acc, notNow md ops listed r k
  | [], _, _, _, hacc => hacc
  | o :: t, j, acc, ht, hacc => by
    refine waitAcc.not h hr t (j + 1) _ (fun i => by have := ht (i + 1); simpa [Nat.add_assoc, Nat.add_comm 1 i] using this) ?_
    split
    · rename_i hc
      intro k hk
      rcases List.mem_cons.1 hk with hk | hk
      · subst hk
        have hoj : ops[k]? = some o := by simpa using (ht 0).symm
        rw [Bool.or_eq_true] at hc
        rcases hc with hc | hc
        · have : k = r := by simpa using hc
          subst this
          exact ⟨hr, .inl rfl⟩
        · obtain ⟨e, he, hb⟩ := Array.any_eq_true'.1 hc
          rw [Bool.and_eq_true] at hb
          have h2 := (hacc e.on (by simpa using hb.2)).1
          refine ⟨?_, .inr fun hrd => ?_⟩
          · cases hl : listed.getD k false with
            | false => rfl
            | true => have := h k o hoj hl e he hb.1; rw [h2] at this; cases this
          · obtain ⟨_, o', ho', hall⟩ := mem_ready.1 hrd
            obtain rfl := Option.some.inj (ho'.symm.trans hoj)
            have := hall e he hb.1
            rw [h2] at this; cases this
      · exact hacc k hk
    · exact hacc

theorem phAny.first {i : Nat} {oi : Oper} {v : Value} {fl : List Nat} {L : Array Bool → Act → World → Prop} (hi : ops[i]? = some oi) (hsel : ∀ (j : Nat) (o : Oper) cs b, ops[j]? = some o → o.op ≠ .select cs b)
    (hfl : i ∈ fl) (hw : ∀ j, j < ops.size → j ∉ fl → j ∈ waitAcc md i ops.toList 0 [])
    (hdone : ∀ listed a w, L listed a w → ∀ j ∈ Region.ready md ops listed, j ∉ fl) :
    ∀ (f : Nat) (listed : Array Bool) (a : Act) (w : World), closedL md ops listed →
      (∀ j oj, ops[j]? = some oj → j ≠ i → listed.getD j true = false → (∀ e ∈ oj.after, Region.binds md e = true → e.on ≠ i) → oi.apart ops oj = true) →
      i ∈ Region.ready md ops listed → YieldsIf P ops S oi v a → S w →
      phAny P md ops S fl L f (listed.setIfInBounds i true) (a.put oi.dst v) w → phAny P md ops S fl L (f + 1) listed a w := by
  intro f
  induction f with
  | zero =>
    intro listed a w hcl _ hr hy hS H
    have hun := (mem_ready.1 hr).1
    refine ⟨fun h => (by rw [h] at hr; cases hr), fun j hj => ?_⟩
    have hjf : j ∈ fl := by
      by_cases h : j ∈ fl
      · exact h
      · obtain ⟨_, oj, hoj, hall⟩ := mem_ready.1 hj
        rcases (waitAcc.not hcl (getD_both hun) ops.toList 0 [] (by simp) (fun k hk => by cases hk) j (hw j (Array.getElem?_eq_some_iff.1 hoj).1 h)).2 with h2 | h2
        · subst h2; exact hfl
        · exact absurd hj h2
    refine ⟨hjf, ?_⟩
    by_cases hji : j = i
    · subst hji; exact hy.wpOp hi hS ⟨hS, H⟩
    · exact absurd hjf (hdone _ _ _ H j (ready_mono hj hji))
  | succ f ih =>
    intro listed a w hcl hfree hr hy hS H
    have hun := (mem_ready.1 hr).1
    refine ⟨fun h => (by rw [h] at hr; cases hr), fun j hj => ?_⟩
    obtain ⟨hjun, oj, hoj, hall⟩ := mem_ready.1 hj
    have hjf : j ∈ fl := by
      by_cases h : j ∈ fl
      · exact h
      · rcases (waitAcc.not hcl (getD_both hun) ops.toList 0 [] (by simp) (fun k hk => by cases hk) j (hw j (Array.getElem?_eq_some_iff.1 hoj).1 h)).2 with h2 | h2
        · subst h2; exact hfl
        · exact absurd hj h2
    refine ⟨hjf, ?_⟩
    by_cases hji : j = i
    · subst hji; exact hy.wpOp hi hS ⟨hS, H⟩
    · have h1 := (H.2 j (ready_mono hj hji)).2
      have hnot : ∀ e ∈ oj.after, Region.binds md e = true → e.on ≠ i := fun e he hb heq => by
        have h1 := hall e he hb
        rw [heq, getD_both hun] at h1
        cases h1
      have h2 := wpOp_putIf hoj (hfree j oj hoj hji hjun hnot) (fun cs b => hsel i oi cs b hi) (fun cs b => hsel j oj cs b hoj) (fun _ _ _ h => h) hy h1
      have hfree' : ∀ k ok, ops[k]? = some ok → k ≠ i → (listed.setIfInBounds j true).getD k true = false →
          (∀ e ∈ ok.after, Region.binds md e = true → e.on ≠ i) → oi.apart ops ok = true := fun k ok hk hki hun hno => by
        refine hfree k ok hk hki ?_ hno
        by_cases hjk : j = k
        · subst hjk; exact hjun
        · rw [getD_set_ne true hjk] at hun; exact hun
      refine wpOp_mono (fun a' w' h3 => ⟨h3.2.1, ih (listed.setIfInBounds j true) a' w' (hcl.set hj) hfree' (ready_mono hr (Ne.symm hji)) h3.1 h3.2.1 ?_⟩) h2
      rw [Array.setIfInBounds_comm _ _ hji]
      exact h3.2.2

/-- An operation that enters no function. -/
def readB (o : Oper) : Bool := match o.op with
  | .move _ | .assign _ | .pick _ _ _ | .load _ _ | .fieldAddr _ _ _ | .field _ _ _ | .indexAddr _ _ _ | .index _ _ _ | .binOp _ _ _ _ _ | .unOp _ _ _ | .extract _ _ | .build _ _ | .nilCheck _ | .slice _ _ _ _ _ => true
  | .call c => (match c.callee with | .builtin .len => true | _ => false)
  | _ => false

theorem and_next {α : Type} {r : Result α} (g : α → Value) : (∃ v w', (r.andThen fun a w' => Sem.run P (pure (Next.value (g a))) w') = .ok (.value v) w') ∨ ∃ x w', (r.andThen fun a w' => Sem.run P (pure (Next.value (g a))) w') = .halt x w' := by
  cases r with
  | ok x w2 => exact .inl ⟨g x, w2, by rw [Result.andThen_ok, Sem.run_pure]⟩
  | halt x w2 => exact .inr ⟨x, w2, rfl⟩
theorem nv_bind {α : Type} {r : Result α} {g : α → World → Result Next} (h : ∀ a w, (∃ v w', g a w = .ok (.value v) w') ∨ ∃ x w', g a w = .halt x w') : (∃ v w', r.andThen g = .ok (.value v) w') ∨ ∃ x w', r.andThen g = .halt x w' := by
  cases r with
  | ok x w2 => exact h x w2
  | halt x w2 => exact .inr ⟨x, w2, rfl⟩
theorem nil_next {o : Oper} {ρ : Operand → Value} {w : World} {x : Operand} (he : o.op = .nilCheck x) : (∃ v w', (execOp ρ o).run P w = .ok (.value v) w') ∨ ∃ x w', (execOp ρ o).run P w = .halt x w' := by
  unfold execOp
  rw [he]
  dsimp only
  split
  · exact .inr ⟨_, _, rfl⟩
  · exact .inr ⟨_, _, rfl⟩
  · exact .inr ⟨_, _, rfl⟩
  · split
    · exact .inr ⟨_, _, rfl⟩
    · simp only [Sem.run_bind]
      refine nv_bind fun a w => nv_bind fun b w => ?_
      split
      · simp only [Sem.run_bind]
        exact .inr ⟨_, _, rfl⟩
      · exact .inl ⟨_, _, Sem.run_pure _ _ _⟩
    · exact .inl ⟨_, _, Sem.run_pure _ _ _⟩
  · exact .inl ⟨_, _, Sem.run_pure _ _ _⟩
theorem len_next {o : Oper} {ρ : Operand → Value} {w : World} {c : Call} (he : o.op = .call c) (hc : c.callee = .builtin .len) : (∃ v w', (execOp ρ o).run P w = .ok (.value v) w') ∨ ∃ x w', (execOp ρ o).run P w = .halt x w' := by
  unfold execOp
  rw [he]
  dsimp only
  unfold resolve
  rw [hc]
  dsimp only
  simp only [Sem.run_bind, Sem.run_pure, Result.andThen_ok]
  unfold invoke
  dsimp only
  unfold builtin
  dsimp only
  simp only [Sem.run_bind]
  cases (Sem.run P (Builtin.len_ c.argTypes o.type (c.args.map ρ)) w) with
  | ok x w2 => exact .inl ⟨_, _, by rw [Result.andThen_ok, Sem.run_pure]⟩
  | halt x w2 => exact .inr ⟨x, w2, rfl⟩
theorem read_next {o : Oper} {ρ : Operand → Value} {w : World} (ho : readB o = true) : (∃ v w', (execOp ρ o).run P w = .ok (.value v) w') ∨ ∃ x w', (execOp ρ o).run P w = .halt x w' := by
  unfold readB at ho
  split at ho
  all_goals first
    | (exfalso; cases ho; done)
    | skip
  all_goals
    rename_i he
    first
      | exact nil_next he
      | (split at ho
         · rename_i hc; exact len_next he hc
         · cases ho)
      | skip
  all_goals
    rename_i he
    unfold execOp
    rw [he]
    first
      | exact .inl ⟨_, _, Sem.run_pure _ _ _⟩
      | exact .inl ⟨_, _, by rw [Sem.run_pure]⟩
      | (simp only [Sem.run_bind]; exact and_next fun a => a)
      | (simp only [Sem.run_bind]; exact and_next fun a => if a = true then _ else _)

theorem yields_of_quiet {i : Nat} {o : Oper} {a : Act} {K : Act → Prop} (ho : readB o = true) (h : wpQuiet P ops S K [o] a) : ∃ v, YieldsIf P ops S o v a ∧ K (a.put o.dst v) := by
  unfold wpQuiet at h
  by_cases hw : Region.wanted o (yielded ops a.tmps) = true
  · rw [if_pos hw] at h
    obtain ⟨v, h1, h2⟩ := h
    by_cases hS : ∃ w, S w
    · refine ⟨v, .inl ⟨hw, fun w hSw => ?_⟩, h2⟩
      have h3 := h1 w hSw
      unfold Oper.quietAt at h3
      cases hr : (execOp a.eval o).run P w with
      | ok n w' =>
        rw [hr] at h3
        cases n <;> simp only [Oper.quietUpon] at h3
        case value u => rw [h3.1, h3.2]
        case skip => rcases read_next (P := P) (ρ := a.eval) (w := w) ho with ⟨v', w'', h⟩ | ⟨x, w'', h⟩ <;> (rw [hr] at h; cases h)
        case enter f args => rcases read_next (P := P) (ρ := a.eval) (w := w) ho with ⟨v', w'', h⟩ | ⟨x, w'', h⟩ <;> (rw [hr] at h; cases h)
      | halt x w' => rw [hr] at h3; simp only [Oper.quietUpon] at h3
    · exact ⟨v, .inl ⟨hw, fun w hSw => absurd ⟨w, hSw⟩ hS⟩, h2⟩
  · rw [if_neg hw] at h
    exact ⟨undef, .inr ⟨by simpa using hw, rfl⟩, h⟩

/-- The walk: (true, i): operation i reads; (false, i): it comes now. E behind all. -/
def phW (P : Program) (l : List Oper) (W : World) (E : Act → World → Prop) : List (Bool × Nat) → Act → World → Prop
  | [], a, w => E a w
  | (true, i) :: t, a, w => wpQuiet P l.toArray (fun w' => ∃ p : Later W, w' = p.W) (fun a' => phW P l W E t a' w) (l[i]?).toList a
  | (false, i) :: t, a, w => wpList P l.toArray (thenN fun a' w' => (∃ p : Later W, w' = p.W) ∧ phW P l W E t a' w') (l[i]?).toList a w
def phB (md : Region.Mode) (l : List Oper) (fin : Array Bool → Bool) : List (Bool × Nat) → Array Bool → Bool
  | [], listed => fin listed
  | (true, i) :: t, listed => (match l[i]? with | some o => readB o | none => false) && (Region.ready md l.toArray listed).contains i && Region.free md l.toArray listed i && phB md l fin t (listed.setIfInBounds i true)
  | (false, i) :: t, listed => decide (Region.ready md l.toArray listed = [i]) && phB md l fin t (listed.setIfInBounds i true)
/-- All but those of the list wait for each of its operations that read. -/
def waitB (md : Region.Mode) (ops : Array Oper) (sch : List (Bool × Nat)) : Bool :=
  sch.all fun p => !p.1 || (let acc := waitAcc md p.2 ops.toList 0 []; (List.range ops.size).all fun j => (sch.map (·.2)).contains j || acc.contains j)

theorem phAny.walk {l : List Oper} {W : World} {E : Act → World → Prop} {fin : Array Bool → Bool} {fl : List Nat} (hsel : Region.noSelect l.toArray = true)
    (hfin : ∀ listed, fin listed = true → ∀ j ∈ Region.ready md l.toArray listed, j ∉ fl)
    :
    ∀ (t : List (Bool × Nat)) (listed : Array Bool) (a : Act) (w : World), (∀ p ∈ t, p.2 ∈ fl ∧ (p.1 = true → ∀ j, j < l.toArray.size → j ∉ fl → j ∈ waitAcc md p.2 l.toArray.toList 0 [])) → closedL md l.toArray listed →
      phB md l fin t listed = true → (∃ p : Later W, w = p.W) → phW P l W E t a w →
      phAny P md l.toArray (fun w' => ∃ p : Later W, w' = p.W) fl (fun listed a w => fin listed = true ∧ E a w) t.length listed a w
  | [], listed, a, w, _, _, hB, _, h => ⟨by simpa [phB] using hB, h⟩
  | (true, i) :: t, listed, a, w, hp, hcl, hB, hS, h => by
    simp only [phB, Bool.and_eq_true] at hB
    obtain ⟨⟨⟨ho, hr⟩, hf⟩, hB'⟩ := hB
    have hr' : i ∈ Region.ready md l.toArray listed := by simpa using hr
    obtain ⟨_, o, hoi, _⟩ := mem_ready.1 hr'
    have hol : l[i]? = some o := by simpa using hoi
    rw [hol] at ho
    have h' : wpQuiet P l.toArray (fun w' => ∃ p : Later W, w' = p.W) (fun a' => phW P l W E t a' w) [o] a := by
      have := h
      unfold phW at this
      rw [hol] at this
      exact this
    obtain ⟨v, hy, hK⟩ := yields_of_quiet (i := i) (by simpa using ho) h'
    obtain ⟨h1, h2⟩ := hp (true, i) List.mem_cons_self
    exact phAny.first hoi (Region.noSelect_spec hsel) h1 (h2 rfl) (fun listed a w hL => hfin listed hL.1) _ _ _ _ hcl (Region.free_spec hoi hf) hr' hy hS
      (phAny.walk hsel hfin t _ _ _ (fun p hpt => hp p (by simp [hpt])) (hcl.set hr') hB' hS hK)
  | (false, i) :: t, listed, a, w, hp, hcl, hB, hS, h => by
    simp only [phB, Bool.and_eq_true, decide_eq_true_eq] at hB
    refine ⟨by rw [hB.1]; simp, fun j hj => ?_⟩
    rw [hB.1] at hj
    have hji : j = i := by simpa using hj
    subst hji
    refine ⟨(hp (false, j) List.mem_cons_self).1, ?_⟩
    have hr' : j ∈ Region.ready md l.toArray listed := by rw [hB.1]; simp
    obtain ⟨_, o, hoi, _⟩ := mem_ready.1 hr'
    have hol : l[j]? = some o := by simpa using hoi
    have h' : wpList P l.toArray (thenN fun a' w' => (∃ p : Later W, w' = p.W) ∧ phW P l W E t a' w') [o] a w := by
      have := h
      unfold phW at this
      rw [hol] at this
      exact this
    have h2 : wpOp P l.toArray noQ j (fun a' w' => (∃ p : Later W, w' = p.W) ∧ phW P l W E t a' w') a w := by
      unfold wpOp
      simp only [hoi]
      unfold wpList at h'
      split
      · rename_i hwt
        rw [if_pos hwt] at h'
        rcases h' with h' | ⟨_, _, _, h'⟩
        · exact .inl (wp_thenN (Oper.wp_mono (fun a w h => h) h'))
        · exact absurd h' id
      · rename_i hwt
        rw [if_neg hwt] at h'
        exact h'
    exact wpOp_mono (fun a' w' h3 => ⟨h3.1, phAny.walk hsel hfin t _ _ _ (fun p hpt => hp p (by simp [hpt])) (hcl.set hr') hB.2 h3.1 h3.2⟩) h2

theorem phaseList {md : Region.Mode} {sch : List (Bool × Nat)} {ops : Array Oper} (h : waitB md ops sch = true) :
    ∀ p ∈ sch, p.2 ∈ sch.map (·.2) ∧ (p.1 = true → ∀ j, j < ops.size → j ∉ sch.map (·.2) → j ∈ waitAcc md p.2 ops.toList 0 []) := by
  intro p hp
  refine ⟨List.mem_map_of_mem hp, fun hp1 j hjs hj => ?_⟩
  have h1 := List.all_eq_true.1 h p hp
  rw [hp1, Bool.not_true, Bool.false_or] at h1
  have h2 := List.all_eq_true.1 h1 j (List.mem_range.2 hjs)
  rw [Bool.or_eq_true] at h2
  rcases h2 with h2 | h2
  · exact absurd (by simpa using h2) hj
  · simpa using h2

/-- All of the text's last operations come one behind the other. -/
def tailB (md : Region.Mode) (l : List Oper) (sch : List (Bool × Nat)) (listed : Array Bool) : Bool :=
  Region.seqB md l.toArray (l.length - sch.length) sch.length listed && (sch.map (·.2)).all fun j => decide (j < sch.length)
def phaseB (md : Region.Mode) (l : List Oper) (sch : List (Bool × Nat)) : Bool :=
  Region.noSelect l.toArray && decide (sch.length ≤ l.length) && waitB md l.toArray sch && phB md l (tailB md l sch) sch (Array.replicate l.length false)

/-- Those of the list, then the others in the order of the text. -/
theorem wp_region_phases {id : Nat} {Q : Exit → Act → World → Prop} {a : Act} {w : World} {l : List Oper} (sch : List (Bool × Nat)) (hm : P.follows .mixedOrders = true) (hB : phaseB .any l sch = true)
    (h : phW P l w.drew (fun a' w' => wpList P l.toArray Q (l.drop sch.length) a' w') sch a w.drew) : (Code.region id l.toArray true).wp P Q a w := by
  simp only [phaseB, Bool.and_eq_true, decide_eq_true_eq] at hB
  obtain ⟨⟨⟨hsel, hle⟩, hw⟩, hP⟩ := hB
  have H := phAny.walk (md := .any) (fin := tailB .any l sch) (fl := sch.map (·.2)) hsel (fun listed hf j hj => by
      simp only [tailB, Bool.and_eq_true] at hf
      intro hm
      have h1 := seqB_ready hf.1 j hj
      have h2 := of_decide_eq_true (List.all_eq_true.1 hf.2 j hm)
      omega) sch _ a w.drew (phaseList hw) (closedL.start _) hP ⟨⟨w.drew, Below.refl _ _⟩, rfl⟩ h
  refine wp_region_any hm ?_
  have hsz : l.toArray.size = l.length := by simp
  have := phAny.any (Q := Q) (g := l.length - sch.length) (fun listed a' w' hL => by
    have h1 := hL.1
    simp only [tailB, Bool.and_eq_true] at h1
    have hdl : (l.drop sch.length).length = l.length - sch.length := by simp
    have := wpAny_of_seq (md := .any) (Q' := Q) (l.drop sch.length) sch.length listed a' w' (fun j => by simp [List.getElem?_drop]) (by rw [hdl]; exact h1.1) hL.2
    rwa [hdl] at this) _ _ _ _ H
  rw [show sch.length + (l.length - sch.length) = l.toArray.size by rw [hsz]; omega, ← hsz] at this
  exact this

/-- The last operations: m forced ones, then such as read or call, in any order. -/
def tailQ (md : Region.Mode) (l : List Oper) (sch : List (Bool × Nat)) (m : Nat) (listed : Array Bool) : Bool :=
  seqLex md l.toArray (l.length - (sch.length + m)) m sch.length listed && (sch.map (·.2)).all fun j => decide (j < sch.length)
def phaseQ (md : Region.Mode) (l : List Oper) (sch : List (Bool × Nat)) (m : Nat) : Bool :=
  Region.noSelect l.toArray && decide (0 < m ∧ sch.length + m ≤ l.length) && waitB md l.toArray sch && phB md l (tailQ md l sch m) sch (Array.replicate l.length false)

theorem wp_region_phases_quiet {id : Nat} {Q : Exit → Act → World → Prop} {a : Act} {w : World} {l : List Oper} (sch : List (Bool × Nat)) (m : Nat) (hm : P.follows .mixedOrders = true) (hB : phaseQ .any l sch m = true)
    (h : phW P l w.drew (fun a1 w1 => wpList P l.toArray (thenQ (fun a2 w2 => wpQuiet P l.toArray (fun w' => ∃ p : Later w2, w' = p.W) (fun a3 => ∀ w3, (∃ p : Later w2, w3 = p.W) → Q .normal a3 w3) (l.drop (sch.length + m)) a2) Q) ((l.drop sch.length).take m) a1 w1) sch a w.drew) :
    (Code.region id l.toArray true).wp P Q a w := by
  simp only [phaseQ, Bool.and_eq_true, decide_eq_true_eq] at hB
  obtain ⟨⟨⟨hsel, hm0, hle⟩, hw⟩, hP⟩ := hB
  have H := phAny.walk (md := .any) (fin := tailQ .any l sch m) (fl := sch.map (·.2)) hsel (fun listed hf j hj => by
      simp only [tailQ, Bool.and_eq_true] at hf
      intro hm
      have h1 := seqLex_ready hm0 hf.1 j hj
      have h2 := of_decide_eq_true (List.all_eq_true.1 hf.2 j hm)
      omega) sch _ a w.drew (phaseList hw) (closedL.start _) hP ⟨⟨w.drew, Below.refl _ _⟩, rfl⟩ h
  refine wp_region_any hm ?_
  have hsz : l.toArray.size = l.length := by simp
  have hml : ((l.drop sch.length).take m).length = m := by simp; omega
  have hgl : (l.drop (sch.length + m)).length = l.length - (sch.length + m) := by simp
  have := phAny.any (Q := Q) (g := m + (l.length - (sch.length + m))) (fun listed a' w' hL => by
    have h1 := hL.1
    simp only [tailQ, Bool.and_eq_true] at h1
    have := any_seqLex (md := .any) (ops := l.toArray) (g := l.length - (sch.length + m)) (Q := Q) ((l.drop sch.length).take m) sch.length listed a' w' (fun j hj => by
        rw [hml] at hj
        simp [List.getElem?_take, List.getElem?_drop, hj]) (by rw [hml]; exact h1.1)
      (fun l1 a1 w1 h1 h2 => by
        rw [hml] at h1
        have h3 := wpAnyQ_lex (C := fun w' => ∃ p : Later w1, w' = p.W) (md := .any) hsel (l.drop (sch.length + m)) (sch.length + m) l1 a1 (fun j => by simp [List.getElem?_drop]) (by rw [hgl]; exact h1) h2
        rw [hgl] at h3
        exact wpAny_of_quiet (Q := fun a3 => ∀ w3, (∃ p : Later w1, w3 = p.W) → Q .normal a3 w3) (fun _ w3 hw3 h => h w3 hw3) _ _ _ _ ⟨⟨w1, Below.refl _ _⟩, rfl⟩ h3)
      hL.2
    rwa [hml] at this) _ _ _ _ H
  rw [show sch.length + (m + (l.length - (sch.length + m))) = l.toArray.size by rw [hsz]; omega, ← hsz] at this
  exact this
end
end Go.Proofs.Ytmbdailffhdonaa
