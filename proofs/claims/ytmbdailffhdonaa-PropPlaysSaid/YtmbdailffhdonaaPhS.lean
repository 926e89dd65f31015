/- The law of phases over another class of worlds: what is changed lies in a set of blocks. -/
import Derived.Test.YtmbdailffhdonaaPhase
import Derived.Test.YtmbdailffhdonaaFoot
namespace Go.Proofs.Ytmbdailffhdonaa
open Go.RowKit
set_option linter.unusedVariables false
set_option linter.unusedSimpArgs false

/-- A world that has come of w: but for the blocks of T what was there is as it was. -/
structure LaterF (w : World) (T : Nat → Prop) where
  W : World
  h : Fp T w W
instance (w : World) (T : Nat → Prop) : Nonempty (LaterF w T) := ⟨⟨w, Fp.refl _ _⟩⟩
theorem laterF_cell {w : World} {T : Nat → Prop} {b o : Nat} {v : Value} (h : w.cell? ⟨b, o, none⟩ = some v) (hT : ¬ T b) : ∀ p : LaterF w T, p.W.cell? ⟨b, o, none⟩ = some v :=
  fun p => by
    have hb := p.h.block b (World.block_lt_of_cell? w ⟨b, o, none⟩ h) hT
    unfold World.cell? at h ⊢
    simp only at h ⊢
    rw [hb]; exact h

section
variable {P : Program} {ops : Array Oper} {md : Region.Mode}

def phS (P : Program) (l : List Oper) (S : World → Prop) (E : Act → World → Prop) : List (Bool × Nat) → Act → World → Prop
  | [], a, w => E a w
  | (true, i) :: t, a, w => wpQuiet P l.toArray S (fun a' => phS P l S E t a' w) (l[i]?).toList a
  | (false, i) :: t, a, w => wpList P l.toArray (thenN fun a' w' => S w' ∧ phS P l S E t a' w') (l[i]?).toList a w

theorem phAny.walkS {l : List Oper} {S : World → Prop} {E : Act → World → Prop} {fin : Array Bool → Bool} {fl : List Nat} (hsel : Region.noSelect l.toArray = true)
    (hfin : ∀ listed, fin listed = true → ∀ j ∈ Region.ready md l.toArray listed, j ∉ fl)
    :
    ∀ (t : List (Bool × Nat)) (listed : Array Bool) (a : Act) (w : World), (∀ p ∈ t, p.2 ∈ fl ∧ (p.1 = true → ∀ j, j < l.toArray.size → j ∉ fl → j ∈ waitAcc md p.2 l.toArray.toList 0 [])) → closedL md l.toArray listed →
      phB md l fin t listed = true → S w → phS P l S E t a w →
      phAny P md l.toArray S fl (fun listed a w => fin listed = true ∧ E a w) t.length listed a w
  | [], listed, a, w, _, _, hB, _, h => ⟨by simpa [phB] using hB, h⟩
  | (true, i) :: t, listed, a, w, hp, hcl, hB, hS, h => by
    simp only [phB, Bool.and_eq_true] at hB
    obtain ⟨⟨⟨ho, hr⟩, hf⟩, hB'⟩ := hB
    have hr' : i ∈ Region.ready md l.toArray listed := by simpa using hr
    obtain ⟨_, o, hoi, _⟩ := mem_ready.1 hr'
    have hol : l[i]? = some o := by simpa using hoi
    rw [hol] at ho
    have h' : wpQuiet P l.toArray S (fun a' => phS P l S E t a' w) [o] a := by
      have := h
      unfold phS at this
      rw [hol] at this
      exact this
    obtain ⟨v, hy, hK⟩ := yields_of_quiet (i := i) (by simpa using ho) h'
    obtain ⟨h1, h2⟩ := hp (true, i) List.mem_cons_self
    exact phAny.first hoi (Region.noSelect_spec hsel) h1 (h2 rfl) (fun listed a w hL => hfin listed hL.1) _ _ _ _ hcl (Region.free_spec hoi hf) hr' hy hS
      (phAny.walkS hsel hfin t _ _ _ (fun p hpt => hp p (by simp [hpt])) (hcl.set hr') hB' hS hK)
  | (false, i) :: t, listed, a, w, hp, hcl, hB, hS, h => by
    simp only [phB, Bool.and_eq_true, decide_eq_true_eq] at hB
    refine ⟨by rw [hB.1]; simp, fun j hj => ?_⟩
    rw [hB.1] at hj
    have hji : j = i := by simpa using hj
    subst hji
    refine ⟨(hp (false, j) List.mem_cons_self).1, ?_⟩
    have hr' : j ∈ Region.ready md l.toArray listed := by rw [hB.1]; simp
    obtain ⟨_, o, hoi, _⟩ := mem_ready.1 hr'
    have hol : l[j]? = some o := by simpa using hoi
    have h' : wpList P l.toArray (thenN fun a' w' => S w' ∧ phS P l S E t a' w') [o] a w := by
      have := h
      unfold phS at this
      rw [hol] at this
      exact this
    have h2 : wpOp P l.toArray noQ j (fun a' w' => S w' ∧ phS P l S E t a' w') a w := by
      unfold wpOp
      simp only [hoi]
      unfold wpList at h'
      split
      · rename_i hwt
        rw [if_pos hwt] at h'
        rcases h' with h' | ⟨_, _, _, h'⟩
        · exact .inl (wp_thenN (Oper.wp_mono (fun a w h => h) h'))
        · exact absurd h' id
      · rename_i hwt
        rw [if_neg hwt] at h'
        exact h'
    exact wpOp_mono (fun a' w' h3 => ⟨h3.1, phAny.walkS hsel hfin t _ _ _ (fun p hpt => hp p (by simp [hpt])) (hcl.set hr') hB.2 h3.1 h3.2⟩) h2


/-- Those of the list, then the others in the order of the text: S holds behind each of the list. -/
theorem wp_region_phasesS {id : Nat} {Q : Exit → Act → World → Prop} {a : Act} {w : World} {l : List Oper} (S : World → Prop) (sch : List (Bool × Nat)) (hm : P.follows .mixedOrders = true) (hB : phaseB .any l sch = true)
    (hS : S w.drew) (h : phS P l S (fun a' w' => wpList P l.toArray Q (l.drop sch.length) a' w') sch a w.drew) : (Code.region id l.toArray true).wp P Q a w := by
  simp only [phaseB, Bool.and_eq_true, decide_eq_true_eq] at hB
  obtain ⟨⟨⟨hsel, hle⟩, hw⟩, hP⟩ := hB
  have H := phAny.walkS (md := .any) (fin := tailB .any l sch) (fl := sch.map (·.2)) hsel (fun listed hf j hj => by
      simp only [tailB, Bool.and_eq_true] at hf
      intro hm
      have h1 := seqB_ready hf.1 j hj
      have h2 := of_decide_eq_true (List.all_eq_true.1 hf.2 j hm)
      omega) sch _ a w.drew (phaseList hw) (closedL.start _) hP hS h
  refine wp_region_any hm ?_
  have hsz : l.toArray.size = l.length := by simp
  have := phAny.any (Q := Q) (g := l.length - sch.length) (fun listed a' w' hL => by
    have h1 := hL.1
    simp only [tailB, Bool.and_eq_true] at h1
    have hdl : (l.drop sch.length).length = l.length - sch.length := by simp
    have := wpAny_of_seq (md := .any) (Q' := Q) (l.drop sch.length) sch.length listed a' w' (fun j => by simp [List.getElem?_drop]) (by rw [hdl]; exact h1.1) hL.2
    rwa [hdl] at this) _ _ _ _ H
  rw [show sch.length + (l.length - sch.length) = l.toArray.size by rw [hsz]; omega, ← hsz] at this
  exact this


theorem wp_region_phasesF {id : Nat} {Q : Exit → Act → World → Prop} {a : Act} {w : World} {l : List Oper} (T : Nat → Prop) (sch : List (Bool × Nat)) (hm : P.follows .mixedOrders = true) (hB : phaseB .any l sch = true)
    (h : phS P l (fun w' => ∃ p : LaterF w.drew T, w' = p.W) (fun a' w' => wpList P l.toArray Q (l.drop sch.length) a' w') sch a w.drew) : (Code.region id l.toArray true).wp P Q a w :=
  wp_region_phasesS _ sch hm hB ⟨⟨w.drew, Fp.refl _ _⟩, rfl⟩ h
end
end Go.Proofs.Ytmbdailffhdonaa
