/- A region that draws its order: first operations that read, or call what makes memory of its own (in any order), then forced ones, then again such as read or call. -/
import Derived.Test.YtmbdailffhdonaaLater
import Derived.StillTail
namespace Go.Proofs.Ytmbdailffhdonaa
open Go.RowKit
set_option linter.unusedVariables false
set_option linter.unusedSimpArgs false

section
variable {P : Program} {ops : Array Oper} {md : Region.Mode} {C : World → Prop}

/-- What is asked behind some operations: K where they end in the normal way. -/
def thenQ (K : Act → World → Prop) (Q : Exit → Act → World → Prop) : Exit → Act → World → Prop
  | .normal, a, w => K a w
  | .panic c, a, w => Q (.panic c) a w
  | x, a, w => Q x a w

/-- Every operation of the head is waited for within the head or by the first one behind it; each later one waits for one behind the head. -/
def headB (md : Region.Mode) (ops : Array Oper) (n : Nat) : Bool :=
  Region.sinkB md ops n && (List.range ops.size).all fun t => decide (t ≤ n) || (List.range t).any fun j => decide (n ≤ j) && Region.waitsFor md ops t j

theorem head_bar {n : Nat} (hB : headB md ops n = true) {listed : Array Bool} (inv : HeadInv md ops n listed) :
    ∀ (d i : Nat), n - i ≤ d → i < n → listed.getD i true = false → ∀ t, n ≤ t → t ∉ Region.ready md ops listed := by
  unfold headB at hB
  rw [Bool.and_eq_true] at hB
  obtain ⟨hs, hc⟩ := hB
  intro d
  induction d with
  | zero => intro i h1 h2; omega
  | succ d ih =>
    intro i hd hi hun t ht hr
    obtain ⟨_, ot, hot, hall⟩ := mem_ready.1 hr
    have htl : t < ops.size := (Array.getElem?_eq_some_iff.1 hot).1
    by_cases htn : t = n
    · subst htn
      obtain ⟨j, hj, hj2⟩ := List.any_eq_true.1 (List.all_eq_true.1 hs i (List.mem_range.2 hi))
      rw [Bool.and_eq_true, decide_eq_true_eq] at hj2
      obtain ⟨oj, hoj, e, he, hb, hon⟩ := Region.waitsFor_spec hj2.2
      have hjt := List.mem_range.1 hj
      by_cases hjt2 : j = t
      · subst hjt2
        obtain rfl := Option.some.inj (hoj.symm.trans hot)
        have := hall e he hb
        rw [hon, getD_both hun] at this
        cases this
      · have hju : listed.getD j false = false := by
          cases hl : listed.getD j false with
          | false => rfl
          | true =>
            have := inv.closed j oj hoj hl e he hb
            rw [hon, getD_both hun] at this
            cases this
        exact ih j (by omega) (by omega) (getD_in (by rw [inv.size]; omega) hju) t (Nat.le_refl _) hr
    · have h1 := List.all_eq_true.1 hc t (List.mem_range.2 htl)
      rw [Bool.or_eq_true, decide_eq_true_eq] at h1
      rcases h1 with h1 | h1
      · omega
      · obtain ⟨j, hj, hj2⟩ := List.any_eq_true.1 h1
        rw [Bool.and_eq_true, decide_eq_true_eq] at hj2
        obtain ⟨oj, hoj, e, he, hb, hon⟩ := Region.waitsFor_spec hj2.2
        obtain rfl := Option.some.inj (hoj.symm.trans hot)
        have hjl := List.mem_range.1 hj
        have := hall e he hb
        rw [hon, getD_both (inv.tail j hj2.1 (by omega))] at this
        cases this

/-- Whatever order the head takes; L behind it. -/
def headAny (P : Program) (md : Region.Mode) (ops : Array Oper) (C : World → Prop) (n : Nat) (L : Array Bool → Act → Prop) : Nat → Array Bool → Act → Prop
  | 0, listed, a => L listed a
  | f + 1, listed, a => Region.ready md ops listed ≠ [] ∧ ∀ i ∈ Region.ready md ops listed, i < n ∧ qOp P ops C i (headAny P md ops C n L f (listed.setIfInBounds i true)) a

theorem headAny.any {n g : Nat} {L : Array Bool → Act → Prop} {Q : Exit → Act → World → Prop} (hL : ∀ listed a w, C w → L listed a → wpAny P md ops Q g listed a w) :
    ∀ (f : Nat) (listed : Array Bool) (a : Act) (w : World), C w → headAny P md ops C n L f listed a → wpAny P md ops Q (f + g) listed a w
  | 0, listed, a, w, hw, h => by rw [Nat.zero_add]; exact hL _ _ _ hw h
  | f + 1, listed, a, w, hw, h => by
    rw [show f + 1 + g = (f + g) + 1 by omega]
    exact ⟨fun h0 => absurd h0 h.1, fun i hi => wpOp_of_qOp hw (fun a' w' hw' h' => headAny.any hL f _ a' w' hw' h') (h.2 i hi).2⟩

theorem headAny.first {n i : Nat} {oi : Oper} {v : Value} {L : Array Bool → Act → Prop} (hi : ops[i]? = some oi) (hsel : ∀ (j : Nat) (o : Oper) cs b, ops[j]? = some o → o.op ≠ .select cs b)
    (hB : headB md ops n = true) (hin : i < n) (hdone : ∀ listed a, L listed a → ∀ j ∈ Region.ready md ops listed, n ≤ j) :
    ∀ (f : Nat) (listed : Array Bool) (a : Act), HeadInv md ops n listed →
      (∀ j oj, ops[j]? = some oj → j ≠ i → listed.getD j true = false → (∀ e ∈ oj.after, Region.binds md e = true → e.on ≠ i) → oi.apart ops oj = true) →
      i ∈ Region.ready md ops listed → YieldsIn P ops C oi v a →
      headAny P md ops C n L f (listed.setIfInBounds i true) (a.put oi.dst v) → headAny P md ops C n L (f + 1) listed a := by
  intro f
  induction f with
  | zero =>
    intro listed a inv _ hr hy H
    have hun := (mem_ready.1 hr).1
    refine ⟨fun h => (by rw [h] at hr; cases hr), fun j hj => ?_⟩
    have hjn : j < n := by
      rcases Nat.lt_or_ge j n with h | h
      · exact h
      · exact absurd hj (head_bar hB inv _ i (Nat.le_refl _) hin hun j h)
    refine ⟨hjn, ?_⟩
    by_cases hji : j = i
    · subst hji; exact hy.qOp hi H
    · have := hdone _ _ H j (ready_mono hj hji)
      omega
  | succ f ih =>
    intro listed a inv hfree hr hy H
    have hun := (mem_ready.1 hr).1
    refine ⟨fun h => (by rw [h] at hr; cases hr), fun j hj => ?_⟩
    have hjn : j < n := by
      rcases Nat.lt_or_ge j n with h | h
      · exact h
      · exact absurd hj (head_bar hB inv _ i (Nat.le_refl _) hin hun j h)
    refine ⟨hjn, ?_⟩
    by_cases hji : j = i
    · subst hji; exact hy.qOp hi H
    · have h1 := (H.2 j (ready_mono hj hji)).2
      obtain ⟨hjun, oj, hoj, hall⟩ := mem_ready.1 hj
      have hnot : ∀ e ∈ oj.after, Region.binds md e = true → e.on ≠ i := fun e he hb heq => by
        have h1 := hall e he hb
        rw [heq, getD_both hun] at h1
        cases h1
      have h2 := qOp_put hoj (hfree j oj hoj hji hjun hnot) (fun cs b => hsel i oi cs b hi) (fun cs b => hsel j oj cs b hoj) hy h1
      have hfree' : ∀ k ok, ops[k]? = some ok → k ≠ i → (listed.setIfInBounds j true).getD k true = false →
          (∀ e ∈ ok.after, Region.binds md e = true → e.on ≠ i) → oi.apart ops ok = true := fun k ok hk hki hun hno => by
        refine hfree k ok hk hki ?_ hno
        by_cases hjk : j = k
        · subst hjk; exact hjun
        · rw [getD_set_ne true hjk] at hun; exact hun
      refine qOp_mono (fun a' h3 => ih (listed.setIfInBounds j true) a' (inv.set hj hjn) hfree' (ready_mono hr (Ne.symm hji)) h3.1 ?_) h2
      rw [Array.setIfInBounds_comm _ _ hji]
      exact h3.2

/-- From k on m forced ones, then g in the order of the text, each free. -/
def seqLex (md : Region.Mode) (ops : Array Oper) (g : Nat) : Nat → Nat → Array Bool → Bool
  | 0, k, listed => Region.lexFrom md ops g k listed
  | m + 1, k, listed => decide (Region.ready md ops listed = [k]) && seqLex md ops g m (k + 1) (listed.setIfInBounds k true)
def headLex (md : Region.Mode) (ops : Array Oper) (m g : Nat) : Nat → Nat → Array Bool → Bool
  | 0, k, listed => seqLex md ops g m k listed
  | f + 1, k, listed => (Region.ready md ops listed).contains k && Region.free md ops listed k && headLex md ops m g f (k + 1) (listed.setIfInBounds k true)
def mixB (md : Region.Mode) (ops : Array Oper) (n m : Nat) : Bool :=
  Region.noSelect ops && decide (0 < m ∧ n + m ≤ ops.size) && headB md ops n && headLex md ops m (ops.size - (n + m)) n 0 (Array.replicate ops.size false)

theorem seqLex_ready {m g k : Nat} {listed : Array Bool} (hm : 0 < m) (h : seqLex md ops g m k listed = true) : ∀ j ∈ Region.ready md ops listed, k ≤ j := by
  cases m with
  | zero => omega
  | succ m =>
    intro j hj
    simp only [seqLex, Bool.and_eq_true, decide_eq_true_eq] at h
    rw [h.1] at hj
    have : j = k := by simpa using hj
    omega

theorem headAny.lex {n m g : Nat} {Lq : Act → Prop} (hsel : Region.noSelect ops = true) (hB : headB md ops n = true) (hm : 0 < m) :
    ∀ (l : List Oper) (k : Nat) (listed : Array Bool) (a : Act), (∀ j, j < l.length → l[j]? = ops[k + j]?) → k + l.length = n → HeadInv md ops n listed →
    headLex md ops m g l.length k listed = true → wpQuiet P ops C Lq l a →
    headAny P md ops C n (fun listed' a' => seqLex md ops g m n listed' = true ∧ Lq a') l.length listed a
  | [], k, listed, a, _, hk, _, hX, h => by
    have : k = n := by simpa using hk
    subst this
    exact ⟨by simpa [headLex] using hX, h⟩
  | o :: l, k, listed, a, hl, hk, inv, hX, h => by
    have h0 : ops[k]? = some o := by simpa using (hl 0 (by simp)).symm
    simp only [List.length_cons, headLex, Bool.and_eq_true] at hX
    obtain ⟨⟨hr, hf⟩, hX'⟩ := hX
    have hkn : k < n := by simp only [List.length_cons] at hk; omega
    have hr' : k ∈ Region.ready md ops listed := by simpa using hr
    have hst : qOp P ops C k (wpQuiet P ops C Lq l) a := by unfold qOp; simp only [h0]; exact h
    obtain ⟨v, hy, hK⟩ := yieldsIn_of_qOp h0 hst
    exact headAny.first h0 (Region.noSelect_spec hsel) hB hkn (fun listed' a' hL => seqLex_ready hm hL.1) l.length listed a inv (Region.free_spec h0 hf) hr' hy
      (headAny.lex hsel hB hm l (k + 1) _ _ (fun j hj => by have := hl (j + 1) (by simp; omega); simpa [Nat.add_assoc, Nat.add_comm 1 j] using this) (by simp only [List.length_cons] at hk; omega) (inv.set hr' hkn) hX' hK)

theorem wp_thenQ {o : Oper} {a : Act} {w : World} {K K2 : Act → World → Prop} {Q : Exit → Act → World → Prop} (h : o.wp P a w K (thenQ K2 Q)) : o.wp P a w K Q := by
  unfold Oper.wp at *
  generalize (execOp a.eval o).run P w = r at *
  cases r with
  | ok n w' =>
    cases n <;> simp only [Oper.upon] at h ⊢ <;>
      first
        | exact h
        | exact Calls.mono h (fun e w'' he => by cases e <;> exact he)
  | halt x w' => cases x <;> simp only [Oper.upon] at h ⊢ <;> exact h

theorem any_seqLex {g : Nat} {K : Act → World → Prop} {Q : Exit → Act → World → Prop} : ∀ (l : List Oper) (k : Nat) (listed : Array Bool) (a : Act) (w : World), (∀ j, j < l.length → l[j]? = ops[k + j]?) →
    seqLex md ops g l.length k listed = true → (∀ listed a w, Region.lexFrom md ops g (k + l.length) listed = true → K a w → wpAny P md ops Q g listed a w) →
    wpList P ops (thenQ K Q) l a w → wpAny P md ops Q (l.length + g) listed a w
  | [], k, listed, a, w, _, hB, hK, h => by
    simp only [List.length_nil, Nat.zero_add, Nat.add_zero] at *
    exact hK _ _ _ (by simpa [seqLex] using hB) h
  | o :: l, k, listed, a, w, hl, hB, hK, h => by
    have h0 : ops[k]? = some o := by simpa using (hl 0 (by simp)).symm
    simp only [List.length_cons, seqLex, Bool.and_eq_true, decide_eq_true_eq] at hB
    rw [List.length_cons, show l.length + 1 + g = (l.length + g) + 1 by omega]
    refine ⟨fun h1 => (by rw [hB.1] at h1; cases h1), fun i hi => ?_⟩
    rw [hB.1] at hi
    have hik : i = k := by simpa using hi
    subst hik
    have hw : wpOp P ops Q i (wpList P ops (thenQ K Q) l) a w := by
      unfold wpOp
      simp only [h0]
      unfold wpList at h
      split
      · rename_i hwt
        rw [if_pos hwt] at h
        exact h.imp wp_thenQ fun ⟨h1, a', w', h2⟩ => ⟨h1, a', w', h2⟩
      · rename_i hwt
        rw [if_neg hwt] at h
        exact h
    exact wpOp_mono (fun a' w' h' => any_seqLex l (i + 1) _ a' w' (fun j hj => by have := hl (j + 1) (by simp; omega); simpa [Nat.add_assoc, Nat.add_comm 1 j] using this) hB.2
      (fun l1 a1 w1 h1 h2 => hK l1 a1 w1 (by rw [List.length_cons, show i + (l.length + 1) = i + 1 + l.length by omega]; exact h1) h2) h') hw

/-- n that read or call, m forced ones, then again such as read or call. -/
theorem wp_region_mix {id : Nat} {Q : Exit → Act → World → Prop} {a : Act} {w : World} {l : List Oper} (n m : Nat) (hm : P.follows .mixedOrders = true) (hB : mixB .any l.toArray n m = true)
    (h : wpQuiet P l.toArray (fun w' => ∃ p : Later w, w' = p.W) (fun a1 => ∀ w1, (∃ p : Later w, w1 = p.W) →
      wpList P l.toArray (thenQ (fun a2 w2 => wpQuiet P l.toArray (fun w' => ∃ p : Later w2, w' = p.W) (fun a3 => ∀ w3, (∃ p : Later w2, w3 = p.W) → Q .normal a3 w3) (l.drop (n + m)) a2) Q) ((l.drop n).take m) a1 w1) (l.take n) a) :
    (Code.region id l.toArray true).wp P Q a w := by
  simp only [mixB, Bool.and_eq_true, decide_eq_true_eq] at hB
  obtain ⟨⟨⟨hsel, hm0, hnm⟩, hH⟩, hX⟩ := hB
  have hsz : l.toArray.size = l.length := by simp
  rw [hsz] at hnm
  have htl : (l.take n).length = n := by simp; omega
  have hml : ((l.drop n).take m).length = m := by simp; omega
  have hgl : (l.drop (n + m)).length = l.toArray.size - (n + m) := by simp
  have inv0 : HeadInv .any l.toArray n (Array.replicate l.toArray.size false) :=
    ⟨by simp, fun j oj _ hl => (by rw [getD_replicate_false] at hl; cases hl), fun t _ ht => getD_in (by simpa using ht) (getD_replicate_false _ _)⟩
  have H := headAny.lex (md := .any) (g := l.toArray.size - (n + m)) hsel hH hm0 (l.take n) 0 _ a (fun j hj => by
    have hj' : j < n := by rw [htl] at hj; exact hj
    simp [hj']) (by simpa using htl) inv0 (by rw [htl]; exact hX) h
  refine wp_region_any hm ?_
  have := headAny.any (Q := Q) (g := m + (l.toArray.size - (n + m))) (fun listed a' w' hw' hL => by
    have := any_seqLex (md := .any) (ops := l.toArray) (g := l.toArray.size - (n + m)) (Q := Q) ((l.drop n).take m) n listed a' w' (fun j hj => by
        rw [hml] at hj
        simp [List.getElem?_take, List.getElem?_drop, hj]) (by rw [hml]; exact hL.1)
      (fun l1 a1 w1 h1 h2 => by
        rw [hml] at h1
        have h3 := wpAnyQ_lex (C := fun w' => ∃ p : Later w1, w' = p.W) (md := .any) hsel (l.drop (n + m)) (n + m) l1 a1 (fun j => by simp [List.getElem?_drop]) (by rw [hgl]; exact h1) h2
        rw [hgl] at h3
        exact wpAny_of_quiet (Q := fun a3 => ∀ w3, (∃ p : Later w1, w3 = p.W) → Q .normal a3 w3) (fun _ w3 hw3 h => h w3 hw3) _ _ _ _ ⟨⟨w1, Below.refl _ _⟩, rfl⟩ h3)
      (hL.2 w' hw')
    rwa [hml] at this) _ _ _ _ ⟨⟨w.drew, (Below.refl _ _).drew⟩, rfl⟩ H
  rw [htl, show n + (m + (l.toArray.size - (n + m))) = l.toArray.size by rw [hsz]; omega] at this
  exact this
end
end Go.Proofs.Ytmbdailffhdonaa
