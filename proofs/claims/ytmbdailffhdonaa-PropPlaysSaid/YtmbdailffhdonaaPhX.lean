/- A region that draws its order, step by step: operations that want no world taken ahead of their time; a stretch by the law of phases; those that alone may come. -/
import Derived.Test.YtmbdailffhdonaaPhase
namespace Go.Proofs.Ytmbdailffhdonaa
open Go.RowKit
set_option linter.unusedVariables false
set_option linter.unusedSimpArgs false

section
variable {P : Program} {ops : Array Oper} {md : Region.Mode} {Q : Exit → Act → World → Prop}

/-- Any world. -/
structure AnyW where
  W : World
instance : Nonempty AnyW := ⟨⟨default⟩⟩

/-- Each waits for earlier ones alone. -/
def earlierB (md : Region.Mode) (ops : Array Oper) : Bool := (List.range ops.size).all fun j => match ops[j]? with
  | some o => o.after.all fun e => !Region.binds md e || decide (e.on < j)
  | none => true

theorem some_ready {listed : Array Bool} (hB : earlierB md ops = true) : ∀ (n i : Nat), i ≤ n → i < ops.size → listed.getD i true = false → Region.ready md ops listed ≠ []
  | n, i, hin, hi, hl => by
    intro h0
    by_cases hr : i ∈ Region.ready md ops listed
    · rw [h0] at hr; cases hr
    · obtain ⟨o, ho⟩ : ∃ o, ops[i]? = some o := ⟨ops[i], Array.getElem?_eq_getElem hi⟩
      have hex : ∃ e ∈ o.after, Region.binds md e = true ∧ listed.getD e.on false ≠ true := by
        by_cases hx : ∃ e ∈ o.after, Region.binds md e = true ∧ listed.getD e.on false ≠ true
        · exact hx
        · exfalso
          apply hr
          refine mem_ready.2 ⟨hl, o, ho, fun e he hb => ?_⟩
          by_cases h1 : listed.getD e.on false = true
          · exact h1
          · exact absurd ⟨e, he, hb, h1⟩ hx
      obtain ⟨e, he, hb, hne⟩ := hex
      have hj := List.all_eq_true.1 hB i (List.mem_range.2 hi)
      rw [ho] at hj
      have hlt : e.on < i := by
        have h1 := Array.all_eq_true_iff_forall_mem.1 hj e he
        rw [hb] at h1
        simpa using h1
      have hsz : i < listed.size := by
        by_cases h : i < listed.size
        · exact h
        · rw [Array.getD_eq_getD_getElem?, Array.getElem?_eq_none (by omega)] at hl
          cases hl
      have hlf : listed.getD e.on true = false := by
        have h2 : e.on < listed.size := by omega
        rw [Array.getD_eq_getD_getElem?, Array.getElem?_eq_getElem h2] at hne ⊢
        simpa using hne
      cases n with
      | zero => omega
      | succ n => exact some_ready hB n e.on (by omega) (by omega) hlf h0

theorem wpAny_pre' {i : Nat} {oi : Oper} {v : Value} (hi : ops[i]? = some oi) (hE : earlierB md ops = true) (hsel : ∀ (j : Nat) (o : Oper) cs b, ops[j]? = some o → o.op ≠ .select cs b)
    (hQ : ∀ c a w, Q (.panic c) (a.put oi.dst v) w → Q (.panic c) a w) :
    ∀ (fuel : Nat) (listed : Array Bool) (a : Act) (w : World),
      (∀ j oj, ops[j]? = some oj → j ≠ i → listed.getD j true = false → (∀ e ∈ oj.after, Region.binds md e = true → e.on ≠ i) → oi.apart ops oj = true) →
      listed.getD i true = false → Yields P ops oi v a →
      wpAny P md ops Q fuel (listed.setIfInBounds i true) (a.put oi.dst v) w → wpAny P md ops Q (fuel + 1) listed a w := by
  intro fuel
  have hisz : i < ops.size := (Array.getElem?_eq_some_iff.1 hi).1
  induction fuel with
  | zero =>
    intro listed a w _ hr hy H
    refine ⟨fun h => absurd h (some_ready hE i i (Nat.le_refl _) hisz hr), fun j hj => ?_⟩
    by_cases hji : j = i
    · subst hji; exact hy.wpOp hi H
    · have := ready_mono (i := i) hj hji
      rw [H.1] at this
      cases this
  | succ fuel ih =>
    intro listed a w hfree hr hy H
    refine ⟨fun h => absurd h (some_ready hE i i (Nat.le_refl _) hisz hr), fun j hj => ?_⟩
    by_cases hji : j = i
    · subst hji; exact hy.wpOp hi H
    · have h1 := H.2 j (ready_mono hj hji)
      obtain ⟨hjun, oj, hoj, hall⟩ := mem_ready.1 hj
      have hnot : ∀ e ∈ oj.after, Region.binds md e = true → e.on ≠ i := fun e he hb heq => by
        have h1 := hall e he hb
        rw [heq] at h1
        rcases Nat.lt_or_ge i listed.size with h' | h'
        · simp [h'] at hr h1; rw [hr] at h1; cases h1
        · simp [Array.getElem?_eq_none h'] at h1
      have h2 := wpOp_put hoj (hfree j oj hoj hji hjun hnot) (fun cs b => hsel i oi cs b hi) (fun cs b => hsel j oj cs b hoj) hQ hy h1
      have hfree' : ∀ k ok, ops[k]? = some ok → k ≠ i → (listed.setIfInBounds j true).getD k true = false →
          (∀ e ∈ ok.after, Region.binds md e = true → e.on ≠ i) → oi.apart ops ok = true := fun k ok hk hki hun hno => by
        refine hfree k ok hk hki ?_ hno
        by_cases hjk : j = k
        · subst hjk; exact hjun
        · rw [getD_set_ne true hjk] at hun; exact hun
      refine wpOp_mono (fun a' w' h3 => ih (listed.setIfInBounds j true) a' w' hfree' (by rw [getD_set_ne true hji]; exact hr) h3.1 ?_) h2
      rw [Array.setIfInBounds_comm _ _ hji]
      exact h3.2

/-- An operation that wants no world, taken ahead of its time. -/
def preB (md : Region.Mode) (l : List Oper) (listed : Array Bool) (i : Nat) : Bool :=
  Region.noSelect l.toArray && earlierB md l.toArray && (match l[i]? with | some o => readB o | none => false) && !listed.getD i true && Region.free md l.toArray listed i
theorem wpAny_pre {l : List Oper} (i : Nat) {fuel : Nat} {listed : Array Bool} {a : Act} {w : World} (hB : preB md l listed i = true)
    (hQ : ∀ c d v a w, Q (.panic c) (Act.put a d v) w → Q (.panic c) a w)
    (h : wpQuiet P l.toArray (fun w' => ∃ p : AnyW, w' = p.W) (fun a' => wpAny P md l.toArray Q fuel (listed.setIfInBounds i true) a' w) (l[i]?).toList a) : wpAny P md l.toArray Q (fuel + 1) listed a w := by
  unfold preB at hB
  simp only [Bool.and_eq_true, Bool.not_eq_true'] at hB
  obtain ⟨⟨⟨⟨hs, hE⟩, ho⟩, hl⟩, hf⟩ := hB
  cases hli : l[i]? with
  | none => rw [hli] at ho; cases ho
  | some o =>
    rw [hli] at ho h
    have hoi : l.toArray[i]? = some o := by simpa using hli
    obtain ⟨v, hy, hK⟩ := yields_of_quiet (i := i) (o := o) (by simpa using ho) h
    have hy' : Yields P l.toArray o v a := by
      rcases hy with ⟨h1, h2⟩ | h1
      · exact .inl ⟨h1, fun w => h2 w ⟨⟨w⟩, rfl⟩⟩
      · exact .inr h1
    exact wpAny_pre' hoi hE (Region.noSelect_spec hs) (fun c a w => hQ c _ _ a w) fuel listed a w (Region.free_spec hoi hf) hl hy' hK

/-- What a listed one waits for is listed, but for those of D, which are all listed. -/
def closedD (md : Region.Mode) (ops : Array Oper) (D : List Nat) (listed : Array Bool) : Prop := (∀ j ∈ D, listed.getD j true = true) ∧ ∀ j oj, j ∉ D → ops[j]? = some oj → listed.getD j false = true → ∀ e ∈ oj.after, Region.binds md e = true → listed.getD e.on false = true
theorem closedD.set {D : List Nat} {listed : Array Bool} {i : Nat} (h : closedD md ops D listed) (hi : i ∈ Region.ready md ops listed) : closedD md ops D (listed.setIfInBounds i true) := by
  refine ⟨fun j hj => ?_, ?_⟩
  · by_cases hij : i = j
    · subst hij
      have := (mem_ready.1 hi).1
      rw [h.1 i hj] at this; cases this
    · rw [getD_set_ne true hij]; exact h.1 j hj
  · intro j oj hjD hj hl e he hb
    obtain ⟨_, oi, hoi, hall⟩ := mem_ready.1 hi
    by_cases hij : i = j
    · subst hij
      obtain rfl := Option.some.inj (hj.symm.trans hoi)
      exact getD_set_true (hall e he hb)
    · rw [getD_set_ne false hij] at hl
      exact getD_set_true (h.2 j oj hjD hj hl e he hb)
/-- r, and those that wait for it, perhaps by way of others, but for those of D. -/
def waitD (md : Region.Mode) (D : List Nat) (r : Nat) : List Oper → Nat → List Nat → List Nat
  | [], _, acc => acc
  | o :: t, j, acc => waitD md D r t (j + 1) (if j == r || (!D.contains j && o.after.any (fun e => Region.binds md e && acc.contains e.on)) then j :: acc else acc)
theorem waitD.not {D : List Nat} {listed : Array Bool} {r : Nat} (h : closedD md ops D listed) (hr : listed.getD r false = false) : ∀ (t : List Oper) (j : Nat) (acc : List Nat), (∀ i, t[i]? = ops[j + i]?) →
    (∀ k ∈ acc, notNow md ops listed r k) → ∀ k ∈ waitD md D r t j acc, notNow md ops listed r k
  | [], _, _, _, hacc => hacc
  | o :: t, j, acc, ht, hacc => by
    refine waitD.not h hr t (j + 1) _ (fun i => by have := ht (i + 1); simpa [Nat.add_assoc, Nat.add_comm 1 i] using this) ?_
    split
    · rename_i hc
      intro k hk
      rcases List.mem_cons.1 hk with hk | hk
      · subst hk
        have hoj : ops[k]? = some o := by simpa using (ht 0).symm
        rw [Bool.or_eq_true] at hc
        rcases hc with hc | hc
        · have : k = r := by simpa using hc
          subst this
          exact ⟨hr, .inl rfl⟩
        · rw [Bool.and_eq_true] at hc
          have hkD : k ∉ D := by simpa using hc.1
          obtain ⟨e, he, hb⟩ := Array.any_eq_true'.1 hc.2
          rw [Bool.and_eq_true] at hb
          have h2 := (hacc e.on (by simpa using hb.2)).1
          refine ⟨?_, .inr fun hrd => ?_⟩
          · cases hl : listed.getD k false with
            | false => rfl
            | true => have := h.2 k o hkD hoj hl e he hb.1; rw [h2] at this; cases this
          · obtain ⟨_, o', ho', hall⟩ := mem_ready.1 hrd
            obtain rfl := Option.some.inj (ho'.symm.trans hoj)
            have := hall e he hb.1
            rw [h2] at this; cases this
      · exact hacc k hk
    · exact hacc

theorem phAny.firstD {S : World → Prop} {D : List Nat} {i : Nat} {oi : Oper} {v : Value} {fl : List Nat} {L : Array Bool → Act → World → Prop} (hi : ops[i]? = some oi) (hsel : ∀ (j : Nat) (o : Oper) cs b, ops[j]? = some o → o.op ≠ .select cs b)
    (hfl : i ∈ fl) (hw : ∀ j, j < ops.size → j ∉ fl → j ∉ D → j ∈ waitD md D i ops.toList 0 [])
    (hdone : ∀ listed a w, L listed a w → ∀ j ∈ Region.ready md ops listed, j ∉ fl) :
    ∀ (f : Nat) (listed : Array Bool) (a : Act) (w : World), closedD md ops D listed →
      (∀ j oj, ops[j]? = some oj → j ≠ i → listed.getD j true = false → (∀ e ∈ oj.after, Region.binds md e = true → e.on ≠ i) → oi.apart ops oj = true) →
      i ∈ Region.ready md ops listed → YieldsIf P ops S oi v a → S w →
      phAny P md ops S fl L f (listed.setIfInBounds i true) (a.put oi.dst v) w → phAny P md ops S fl L (f + 1) listed a w := by
  intro f
  induction f with
  | zero =>
    intro listed a w hcl _ hr hy hS H
    have hun := (mem_ready.1 hr).1
    refine ⟨fun h => (by rw [h] at hr; cases hr), fun j hj => ?_⟩
    have hjf : j ∈ fl := by
      by_cases h : j ∈ fl
      · exact h
      · obtain ⟨_, oj, hoj, hall⟩ := mem_ready.1 hj
        rcases (waitD.not hcl (getD_both hun) ops.toList 0 [] (by simp) (fun k hk => by cases hk) j (hw j (Array.getElem?_eq_some_iff.1 hoj).1 h (fun hD => by have := hcl.1 j hD; rw [(mem_ready.1 hj).1] at this; cases this))).2 with h2 | h2
        · subst h2; exact hfl
        · exact absurd hj h2
    refine ⟨hjf, ?_⟩
    by_cases hji : j = i
    · subst hji; exact hy.wpOp hi hS ⟨hS, H⟩
    · exact absurd hjf (hdone _ _ _ H j (ready_mono hj hji))
  | succ f ih =>
    intro listed a w hcl hfree hr hy hS H
    have hun := (mem_ready.1 hr).1
    refine ⟨fun h => (by rw [h] at hr; cases hr), fun j hj => ?_⟩
    obtain ⟨hjun, oj, hoj, hall⟩ := mem_ready.1 hj
    have hjf : j ∈ fl := by
      by_cases h : j ∈ fl
      · exact h
      · rcases (waitD.not hcl (getD_both hun) ops.toList 0 [] (by simp) (fun k hk => by cases hk) j (hw j (Array.getElem?_eq_some_iff.1 hoj).1 h (fun hD => by have := hcl.1 j hD; rw [(mem_ready.1 hj).1] at this; cases this))).2 with h2 | h2
        · subst h2; exact hfl
        · exact absurd hj h2
    refine ⟨hjf, ?_⟩
    by_cases hji : j = i
    · subst hji; exact hy.wpOp hi hS ⟨hS, H⟩
    · have h1 := (H.2 j (ready_mono hj hji)).2
      have hnot : ∀ e ∈ oj.after, Region.binds md e = true → e.on ≠ i := fun e he hb heq => by
        have h1 := hall e he hb
        rw [heq, getD_both hun] at h1
        cases h1
      have h2 := wpOp_putIf hoj (hfree j oj hoj hji hjun hnot) (fun cs b => hsel i oi cs b hi) (fun cs b => hsel j oj cs b hoj) (fun _ _ _ h => h) hy h1
      have hfree' : ∀ k ok, ops[k]? = some ok → k ≠ i → (listed.setIfInBounds j true).getD k true = false →
          (∀ e ∈ ok.after, Region.binds md e = true → e.on ≠ i) → oi.apart ops ok = true := fun k ok hk hki hun hno => by
        refine hfree k ok hk hki ?_ hno
        by_cases hjk : j = k
        · subst hjk; exact hjun
        · rw [getD_set_ne true hjk] at hun; exact hun
      refine wpOp_mono (fun a' w' h3 => ⟨h3.2.1, ih (listed.setIfInBounds j true) a' w' (hcl.set hj) hfree' (ready_mono hr (Ne.symm hji)) h3.1 h3.2.1 ?_⟩) h2
      rw [Array.setIfInBounds_comm _ _ hji]
      exact h3.2.2

theorem phAny.walkD {D : List Nat} {l : List Oper} {W : World} {E : Act → World → Prop} {fin : Array Bool → Bool} {fl : List Nat} (hsel : Region.noSelect l.toArray = true)
    (hfin : ∀ listed, fin listed = true → ∀ j ∈ Region.ready md l.toArray listed, j ∉ fl)
    :
    ∀ (t : List (Bool × Nat)) (listed : Array Bool) (a : Act) (w : World), (∀ p ∈ t, p.2 ∈ fl ∧ (p.1 = true → ∀ j, j < l.toArray.size → j ∉ fl → j ∉ D → j ∈ waitD md D p.2 l.toArray.toList 0 [])) → closedD md l.toArray D listed →
      phB md l fin t listed = true → (∃ p : Later W, w = p.W) → phW P l W E t a w →
      phAny P md l.toArray (fun w' => ∃ p : Later W, w' = p.W) fl (fun listed a w => fin listed = true ∧ E a w) t.length listed a w
  | [], listed, a, w, _, _, hB, _, h => ⟨by simpa [phB] using hB, h⟩
  | (true, i) :: t, listed, a, w, hp, hcl, hB, hS, h => by
    simp only [phB, Bool.and_eq_true] at hB
    obtain ⟨⟨⟨ho, hr⟩, hf⟩, hB'⟩ := hB
    have hr' : i ∈ Region.ready md l.toArray listed := by simpa using hr
    obtain ⟨_, o, hoi, _⟩ := mem_ready.1 hr'
    have hol : l[i]? = some o := by simpa using hoi
    rw [hol] at ho
    have h' : wpQuiet P l.toArray (fun w' => ∃ p : Later W, w' = p.W) (fun a' => phW P l W E t a' w) [o] a := by
      have := h
      unfold phW at this
      rw [hol] at this
      exact this
    obtain ⟨v, hy, hK⟩ := yields_of_quiet (i := i) (by simpa using ho) h'
    obtain ⟨h1, h2⟩ := hp (true, i) List.mem_cons_self
    exact phAny.firstD hoi (Region.noSelect_spec hsel) h1 (h2 rfl) (fun listed a w hL => hfin listed hL.1) _ _ _ _ hcl (Region.free_spec hoi hf) hr' hy hS
      (phAny.walkD hsel hfin t _ _ _ (fun p hpt => hp p (by simp [hpt])) (hcl.set hr') hB' hS hK)
  | (false, i) :: t, listed, a, w, hp, hcl, hB, hS, h => by
    simp only [phB, Bool.and_eq_true, decide_eq_true_eq] at hB
    refine ⟨by rw [hB.1]; simp, fun j hj => ?_⟩
    rw [hB.1] at hj
    have hji : j = i := by simpa using hj
    subst hji
    refine ⟨(hp (false, j) List.mem_cons_self).1, ?_⟩
    have hr' : j ∈ Region.ready md l.toArray listed := by rw [hB.1]; simp
    obtain ⟨_, o, hoi, _⟩ := mem_ready.1 hr'
    have hol : l[j]? = some o := by simpa using hoi
    have h' : wpList P l.toArray (thenN fun a' w' => (∃ p : Later W, w' = p.W) ∧ phW P l W E t a' w') [o] a w := by
      have := h
      unfold phW at this
      rw [hol] at this
      exact this
    have h2 : wpOp P l.toArray noQ j (fun a' w' => (∃ p : Later W, w' = p.W) ∧ phW P l W E t a' w') a w := by
      unfold wpOp
      simp only [hoi]
      unfold wpList at h'
      split
      · rename_i hwt
        rw [if_pos hwt] at h'
        rcases h' with h' | ⟨_, _, _, h'⟩
        · exact .inl (wp_thenN (Oper.wp_mono (fun a w h => h) h'))
        · exact absurd h' id
      · rename_i hwt
        rw [if_neg hwt] at h'
        exact h'
    exact wpOp_mono (fun a' w' h3 => ⟨h3.1, phAny.walkD hsel hfin t _ _ _ (fun p hpt => hp p (by simp [hpt])) (hcl.set hr') hB.2 h3.1 h3.2⟩) h2


/-- A stretch by the law of phases. -/
def waitDB (md : Region.Mode) (ops : Array Oper) (D : List Nat) (sch : List (Bool × Nat)) : Bool :=
  sch.all fun p => !p.1 || (let acc := waitD md D p.2 ops.toList 0 []; (List.range ops.size).all fun j => (sch.map (·.2)).contains j || (D.contains j || acc.contains j))
def doneL (sch : List (Bool × Nat)) (listed : Array Bool) : Array Bool := sch.foldl (fun x p => x.setIfInBounds p.2 true) listed
def stageB (md : Region.Mode) (l : List Oper) (D : List Nat) (listed : Array Bool) (sch : List (Bool × Nat)) : Bool :=
  Region.noSelect l.toArray && waitDB md l.toArray D sch && (Region.ready md l.toArray (doneL sch listed)).all (fun j => !(sch.map (·.2)).contains j) && phB md l (fun x => decide (x = doneL sch listed)) sch listed &&
  (D.all (fun j => listed.getD j true) && (List.range l.length).all fun j => match l[j]? with | some o => D.contains j || !listed.getD j false || o.after.all (fun e => !Region.binds md e || listed.getD e.on false) | none => true)
theorem wpAny_stage {l : List Oper} (D : List Nat) (sch : List (Bool × Nat)) (g : Nat) {listed : Array Bool} {a : Act} {w : World} (hB : stageB md l D listed sch = true)
    (h : phW P l w (fun a' w' => wpAny P md l.toArray Q g (doneL sch listed) a' w') sch a w) : wpAny P md l.toArray Q (sch.length + g) listed a w := by
  simp only [stageB, Bool.and_eq_true] at hB
  obtain ⟨⟨⟨⟨hsel, hw⟩, hr⟩, hP⟩, hc1, hc2⟩ := hB
  refine phAny.any (S := fun w' => ∃ p : Later w, w' = p.W) (fl := sch.map (·.2)) (L := fun listed' a' w' => decide (listed' = doneL sch listed) = true ∧ wpAny P md l.toArray Q g (doneL sch listed) a' w') (fun listed' a' w' hL => by
    have h1 := of_decide_eq_true hL.1
    subst h1
    exact hL.2) _ _ _ _ ?_
  refine phAny.walkD (D := D) (fin := fun x => decide (x = doneL sch listed)) hsel (fun listed' hf j hj => ?_) sch listed a w (fun p hp => ⟨List.mem_map_of_mem hp, fun hp1 j hjs hj hjD => ?_⟩) ⟨fun j hj => ?_, fun j oj hjD hj hl e he hb => ?_⟩ hP ⟨⟨w, Below.refl _ _⟩, rfl⟩ h
  · have h1 := of_decide_eq_true hf
    subst h1
    have h2 := List.all_eq_true.1 hr j hj
    intro hm
    simp [List.contains_iff_mem] at h2
    obtain ⟨⟨b, k⟩, hp, rfl⟩ := List.mem_map.1 hm
    cases b
    · exact h2.1 hp
    · exact h2.2 hp
  · have h1 := List.all_eq_true.1 hw p hp
    rw [hp1, Bool.not_true, Bool.false_or] at h1
    have h2 := List.all_eq_true.1 h1 j (List.mem_range.2 hjs)
    rw [Bool.or_eq_true, Bool.or_eq_true] at h2
    rcases h2 with h2 | h2 | h2
    · exact absurd (by simpa [List.contains_iff_mem] using h2) (by simpa using hj)
    · exact absurd (by simpa using h2) hjD
    · simpa using h2
  · exact List.all_eq_true.1 hc1 j hj
  · have hjl : j < l.length := by simpa using (Array.getElem?_eq_some_iff.1 hj).1
    have h1 := List.all_eq_true.1 hc2 j (List.mem_range.2 hjl)
    have hlj : l[j]? = some oj := by simpa using hj
    rw [hlj] at h1
    simp only [Bool.or_eq_true, Bool.not_eq_true'] at h1
    rcases h1 with (h1 | h1) | h1
    · exact absurd (by simpa using h1) hjD
    · rw [hl] at h1; cases h1
    · have h2 := Array.all_eq_true_iff_forall_mem.1 h1 e he
      rw [hb] at h2
      simpa using h2

/-- One that alone may come. -/
theorem wpAny_one {l : List Oper} (i : Nat) {fuel : Nat} {listed : Array Bool} {a : Act} {w : World} (hr : decide (Region.ready md l.toArray listed = [i]) = true)
    (h : wpList P l.toArray (thenN fun a' w' => wpAny P md l.toArray Q fuel (listed.setIfInBounds i true) a' w') (l[i]?).toList a w) : wpAny P md l.toArray Q (fuel + 1) listed a w := by
  have hr := of_decide_eq_true hr
  refine ⟨by rw [hr]; simp, fun j hj => ?_⟩
  rw [hr] at hj
  have hji : j = i := by simpa using hj
  subst hji
  have hr' : j ∈ Region.ready md l.toArray listed := by rw [hr]; simp
  obtain ⟨_, o, hoi, _⟩ := mem_ready.1 hr'
  have hol : l[j]? = some o := by simpa using hoi
  rw [hol] at h
  have h' : wpList P l.toArray (thenN fun a' w' => wpAny P md l.toArray Q fuel (listed.setIfInBounds j true) a' w') [o] a w := h
  have h2 : wpOp P l.toArray noQ j (fun a' w' => wpAny P md l.toArray Q fuel (listed.setIfInBounds j true) a' w') a w := by
    unfold wpOp
    simp only [hoi]
    unfold wpList at h'
    split
    · rename_i hwt
      rw [if_pos hwt] at h'
      rcases h' with h' | ⟨_, _, _, h'⟩
      · exact .inl (wp_thenN (Oper.wp_mono (fun a w h => h) h'))
      · exact absurd h' id
    · rename_i hwt
      rw [if_neg hwt] at h'
      exact h'
  exact wpOp_noQ (fun _ _ h => h) h2
theorem wpAny_end {l : List Oper} {fuel : Nat} {listed : Array Bool} {a : Act} {w : World} (hr : decide (Region.ready md l.toArray listed = []) = true) (h : Q .normal a w) : wpAny P md l.toArray Q fuel listed a w := wpAny_done (of_decide_eq_true hr) h fuel
theorem wp_region_steps {id : Nat} {a : Act} {w : World} {l : List Oper} (n : Nat) (hn : l.length = n) (hm : P.follows .mixedOrders = true) (h : wpAny P .any l.toArray Q n (Array.replicate n false) a w.drew) : (Code.region id l.toArray true).wp P Q a w := by
  subst hn
  refine wp_region_any hm ?_
  have hsz : l.toArray.size = l.length := by simp
  rw [hsz]
  exact h
end
end Go.Proofs.Ytmbdailffhdonaa
