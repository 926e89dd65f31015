/- A region that draws its order, step by step: operations that want no world taken ahead of their time; a stretch by the law of phases; those that alone may come. -/
import Derived.Test.YtipmjleohadoeaaGreatPhaseSa
namespace Go.Proofs.YtipmjleohadoeaaGreat
open Go.RowKit
set_option linter.unusedVariables false
set_option linter.unusedSimpArgs false

section
variable {P : Program} {ops : Array Oper} {md : Region.Mode} {Q : Exit → Act → World → Prop}

/-- Any world. -/
structure AnyW where
  W : World
instance : Nonempty AnyW := ⟨⟨default⟩⟩

/-- Each waits for earlier ones alone. -/
def earlierB (md : Region.Mode) (ops : Array Oper) : Bool := (List.range ops.size).all fun j => match ops[j]? with
  | some o => o.after.all fun e => !Region.binds md e || decide (e.on < j)
  | none => true

theorem some_ready {listed : Array Bool} (hB : earlierB md ops = true) : ∀ (n i : Nat), i ≤ n → i < ops.size → listed.getD i true = false → Region.ready md ops listed ≠ []
  | n, i, hin, hi, hl => by
    intro h0
    by_cases hr : i ∈ Region.ready md ops listed
    · rw [h0] at hr; cases hr
    · obtain ⟨o, ho⟩ : ∃ o, ops[i]? = some o := ⟨ops[i], Array.getElem?_eq_getElem hi⟩
      have hex : ∃ e ∈ o.after, Region.binds md e = true ∧ listed.getD e.on false ≠ true := by
        by_cases hx : ∃ e ∈ o.after, Region.binds md e = true ∧ listed.getD e.on false ≠ true
        · exact hx
        · exfalso
          apply hr
          refine mem_ready.2 ⟨hl, o, ho, fun e he hb => ?_⟩
          by_cases h1 : listed.getD e.on false = true
          · exact h1
          · exact absurd ⟨e, he, hb, h1⟩ hx
      obtain ⟨e, he, hb, hne⟩ := hex
      have hj := List.all_eq_true.1 hB i (List.mem_range.2 hi)
      rw [ho] at hj
      have hlt : e.on < i := by
        have h1 := Array.all_eq_true_iff_forall_mem.1 hj e he
        rw [hb] at h1
        simpa using h1
      have hsz : i < listed.size := by
        by_cases h : i < listed.size
        · exact h
        · rw [Array.getD_eq_getD_getElem?, Array.getElem?_eq_none (by omega)] at hl
          cases hl
      have hlf : listed.getD e.on true = false := by
        have h2 : e.on < listed.size := by omega
        rw [Array.getD_eq_getD_getElem?, Array.getElem?_eq_getElem h2] at hne ⊢
        simpa using hne
      cases n with
      | zero => omega
      | succ n => exact some_ready hB n e.on (by omega) (by omega) hlf h0

/-- What a listed one waits for is listed, but for those of D, which are all listed. -/
def closedD (md : Region.Mode) (ops : Array Oper) (D : List Nat) (listed : Array Bool) : Prop := (∀ j ∈ D, listed.getD j true = true) ∧ ∀ j oj, j ∉ D → ops[j]? = some oj → listed.getD j false = true → ∀ e ∈ oj.after, Region.binds md e = true → listed.getD e.on false = true
theorem closedD.set {D : List Nat} {listed : Array Bool} {i : Nat} (h : closedD md ops D listed) (hi : i ∈ Region.ready md ops listed) : closedD md ops D (listed.setIfInBounds i true) := by
  refine ⟨fun j hj => ?_, ?_⟩
  · by_cases hij : i = j
    · subst hij
      have := (mem_ready.1 hi).1
      rw [h.1 i hj] at this; cases this
    · rw [getD_set_ne true hij]; exact h.1 j hj
  · intro j oj hjD hj hl e he hb
    obtain ⟨_, oi, hoi, hall⟩ := mem_ready.1 hi
    by_cases hij : i = j
    · subst hij
      obtain rfl := Option.some.inj (hj.symm.trans hoi)
      exact getD_set_true (hall e he hb)
    · rw [getD_set_ne false hij] at hl
      exact getD_set_true (h.2 j oj hjD hj hl e he hb)
/-- r, and those that wait for it, perhaps by way of others, but for those of D. -/
def waitD (md : Region.Mode) (D : List Nat) (r : Nat) : List Oper → Nat → List Nat → List Nat
  | [], _, acc => acc
  | o :: t, j, acc => waitD md D r t (j + 1) (if j == r || (!D.contains j && o.after.any (fun e => Region.binds md e && acc.contains e.on)) then j :: acc else acc)
theorem waitD.not {D : List Nat} {listed : Array Bool} {r : Nat} (h : closedD md ops D listed) (hr : listed.getD r false = false) : ∀ (t : List Oper) (j : Nat) (acc : List Nat), (∀ i, t[i]? = ops[j + i]?) →
    (∀ k ∈ acc, notNow md ops listed r k) → ∀ k ∈ waitD md D r t j acc, notNow md ops listed r k
  | [], _, _, _, hacc => hacc
  | o :: t, j, acc, ht, hacc => by
    refine waitD.not h hr t (j + 1) _ (fun i => by have := ht (i + 1); simpa [Nat.add_assoc, Nat.add_comm 1 i] using this) ?_
    split
    · rename_i hc
      intro k hk
      rcases List.mem_cons.1 hk with hk | hk
      · subst hk
        have hoj : ops[k]? = some o := by simpa using (ht 0).symm
        rw [Bool.or_eq_true] at hc
        rcases hc with hc | hc
        · have : k = r := by simpa using hc
          subst this
          exact ⟨hr, .inl rfl⟩
        · rw [Bool.and_eq_true] at hc
          have hkD : k ∉ D := by simpa using hc.1
          obtain ⟨e, he, hb⟩ := Array.any_eq_true'.1 hc.2
          rw [Bool.and_eq_true] at hb
          have h2 := (hacc e.on (by simpa using hb.2)).1
          refine ⟨?_, .inr fun hrd => ?_⟩
          · cases hl : listed.getD k false with
            | false => rfl
            | true => have := h.2 k o hkD hoj hl e he hb.1; rw [h2] at this; cases this
          · obtain ⟨_, o', ho', hall⟩ := mem_ready.1 hrd
            obtain rfl := Option.some.inj (ho'.symm.trans hoj)
            have := hall e he hb.1
            rw [h2] at this; cases this
      · exact hacc k hk
    · exact hacc

theorem wp_region_steps {id : Nat} {a : Act} {w : World} {l : List Oper} (n : Nat) (hn : l.length = n) (hm : P.follows .mixedOrders = true) (h : wpAny P .any l.toArray Q n (Array.replicate n false) a w.drew) : (Code.region id l.toArray true).wp P Q a w := by
  subst hn
  refine wp_region_any hm ?_
  have hsz : l.toArray.size = l.length := by simp
  rw [hsz]
  exact h
end
end Go.Proofs.YtipmjleohadoeaaGreat
