/- Laws on rows of many-celled elements: copy, stores of many cells; the walk of Table.Clone. -/
import Derived.Test.YtmbdailffhdonaaTab4
namespace Go.Proofs.Ytmbdailffhdonaa
open Go.RowKit
set_option linter.unusedVariables false

/-! ### Many cells put into a list -/
def setL : List Value → Nat → List Value → List Value
  | xs, _, [] => xs
  | xs, o, v :: vs => setL (xs.set o v) (o + 1) vs
theorem setL_is : ∀ (vs xs : List Value) (o : Nat), o + vs.length ≤ xs.length → setL xs o vs = xs.take o ++ (vs ++ xs.drop (o + vs.length))
  | [], xs, o, _ => by simp [setL]
  | v :: vs, xs, o, h => by
    rw [setL, setL_is vs (xs.set o v) (o + 1) (by simp at h ⊢; omega)]
    have h1 : o < xs.length := by simp at h; omega
    rw [List.take_set, List.take_succ_eq_append_getElem h1, List.set_append_right _ _ (by simp; omega), List.drop_set_of_lt (by omega)]
    have : o - (List.take o xs).length = 0 := by simp; omega
    rw [this]
    simp [Nat.add_assoc, Nat.add_comm 1]
theorem flat_take (l : List Psp.Told) (k : Nat) : (l.flatMap tc).take (k * 21) = (l.take k).flatMap tc := by
  induction l generalizing k with
  | nil => simp
  | cons t l ih =>
    cases k with
    | zero => simp
    | succ k =>
      rw [List.flatMap_cons, List.take_succ_cons, List.flatMap_cons, List.take_append, tc_len, ← ih k, List.take_of_length_le (by rw [tc_len]; omega)]
      congr 2
      omega
theorem flat_drop (l : List Psp.Told) (k : Nat) : (l.flatMap tc).drop (k * 21) = (l.drop k).flatMap tc := by
  induction l generalizing k with
  | nil => simp
  | cons t l ih =>
    cases k with
    | zero => simp
    | succ k =>
      rw [List.flatMap_cons, List.drop_succ_cons, List.drop_append, tc_len, ← ih k, List.drop_of_length_le (by rw [tc_len]; omega)]
      rw [List.nil_append]
      congr 1
      omega
theorem flat_tc_len (l : List Psp.Told) : (l.flatMap tc).length = l.length * 21 := flat_len tc_len l
theorem setL_told (l : List Psp.Told) (k : Nat) (ts : List Psp.Told) (h : k + ts.length ≤ l.length) : setL (l.flatMap tc) (k * 21) (ts.flatMap tc) = (l.take k ++ (ts ++ l.drop (k + ts.length))).flatMap tc := by
  rw [setL_is _ _ _ (by rw [flat_tc_len, flat_tc_len]; omega), flat_take, flat_tc_len, show k * 21 + ts.length * 21 = (k + ts.length) * 21 by omega, flat_drop, List.flatMap_append, List.flatMap_append]
theorem set_told (l : List Psp.Told) (k j : Nat) (t t' : Psp.Told) (u : Value) (hk : l[k]? = some t) (hj : j < 21) (h : (tc t).set j u = tc t') : (l.flatMap tc).set (k * 21 + j) u = (l.set k t').flatMap tc := by
  induction l generalizing k with
  | nil => simp at hk
  | cons a l ih =>
    cases k with
    | zero =>
      simp at hk; subst hk
      rw [Nat.zero_mul, Nat.zero_add, List.set_cons_zero, List.flatMap_cons, List.flatMap_cons, List.set_append_left _ _ (by rw [tc_len]; exact hj), h]
    | succ k =>
      rw [List.set_cons_succ, List.flatMap_cons, List.flatMap_cons, List.set_append_right _ _ (by rw [tc_len]; omega), tc_len, ← ih k (by simpa using hk)]
      congr 2
      omega

theorem own_setCells {base : Nat} {e : TypeId} {size g n cap : Nat} : ∀ (vs : List Value) (o : Nat) {w : World} {xs : List Value}, w.ownsRow base e size (.slice (some ⟨g, 0, none⟩) n cap) n xs → (w.setCells g o vs).ownsRow base e size (.slice (some ⟨g, 0, none⟩) n cap) n (setL xs o vs)
  | [], _, _, _, h => h
  | v :: vs, o, w, xs, h => own_setCells vs (o + 1) (h.stored o v).1

/-! ### copy -/
theorem run_copy_many {P : Program} (w : World) (dT sT ty elem : TypeId) (sz : Nat) (dp sp : Option Addr) (dLen dCap sLen sCap g off : Nat) (cs : List Value)
    (hu : P.underlying dT = some (.slice elem)) (hs : (P.info? elem).map (·.size) = some sz) (hz : 0 < sz) (hn : cs.length = Nat.min sLen dLen * sz)
    (hpos : 0 < cs.length → dp = some ⟨g, off, none⟩ ∧ ∃ ad, sp = some ad ∧ ∀ j v, cs[j]? = some v → w.cell? (ad.add j) = some v)
    (ht : w.there g off cs.length) (h1 : ∀ v ∈ cs, v.oneCell' = true) :
    (Builtin.copy_ #[dT, sT] ty #[.slice dp dLen dCap, .slice sp sLen sCap]).run P w = .ok (goInt (Nat.min sLen dLen)) (w.setCells g off cs) := by
  cases hq : P.info? elem with
  | none => simp [hq] at hs
  | some i =>
    have hi : i.size = sz := by simpa [hq] using hs
    by_cases h0 : cs.length = 0
    · obtain rfl : cs = [] := List.eq_nil_of_length_eq_zero h0
      have hm : Nat.min sLen dLen = 0 := by
        rcases Nat.eq_zero_or_pos (Nat.min sLen dLen) with h | h
        · exact h
        · have := Nat.mul_pos h hz; simp at hn; omega
      have hl : ∀ (x : Addr), (loadCells x 0).run P w = .ok #[] w := fun x => by simpa using run_loadCells_list (P := P) w x [] (by simp)
      cases dp <;> cases sp <;> simp [Builtin.copy_, run_underlying hu, Builtin.lenOf, Builtin.firstCells, sizeOf, typeInfo, hq, hm, storeCells, hl, World.setCells]
    · obtain ⟨rfl, ad, rfl, hsrc⟩ := hpos (by omega)
      have hl := run_loadCells_list (P := P) w ad cs hsrc
      have hst := run_storeCells_cells (P := P) g off cs 0 w (fun j hj => by simpa using (ht j hj).1) (fun j hj => by simpa using (ht j hj).2) h1
      rw [hn] at hl
      simp only [Nat.add_zero] at hst
      simp [Builtin.copy_, run_underlying hu, Builtin.lenOf, Builtin.firstCells, sizeOf, typeInfo, hq, hi, hl, hst]
theorem list_copy {P : Program} {ops : Array Oper} {Q : Exit → Act → World → Prop} {a : Act} {w : World} {o : Oper} {rest : List Oper} (hw : Region.wanted o (yielded ops a.tmps) = true) (d s : Operand) (dT sT : TypeId)
    (ho : o.op = .call { callee := .builtin .copy, args := #[d, s], argTypes := #[dT, sT] }) (elem : TypeId) (sz : Nat) (hu : P.underlying dT = some (.slice elem)) (hs : (P.info? elem).map (·.size) = some sz) (hz : 0 < sz)
    (dp sp : Option Addr) (dLen dCap sLen sCap g off : Nat) (cs : List Value) (hd : a.eval d = .slice dp dLen dCap) (hss : a.eval s = .slice sp sLen sCap) (hn : cs.length = Nat.min sLen dLen * sz)
    (hpos : 0 < cs.length → dp = some ⟨g, off, none⟩ ∧ ∃ ad, sp = some ad ∧ ∀ j v, cs[j]? = some v → w.cell? (ad.add j) = some v)
    (ht : w.there g off cs.length) (h1 : ∀ v ∈ cs, v.oneCell' = true)
    (h : wpList P ops Q rest (a.put o.dst (goInt (Nat.min sLen dLen))) (w.setCells g off cs)) : wpList P ops Q (o :: rest) a w := by
  refine BigFrame.wpList_want hw fun K hK => ?_
  have hrun := run_copy_many (P := P) w dT sT o.type elem sz dp sp dLen dCap sLen sCap g off cs hu hs hz hn hpos ht h1
  unfold Oper.wp
  simp [execOp, ho, resolve, invoke, builtin, hd, hss, hrun, Result.andThen]
  exact hK _ _ h

end Go.Proofs.Ytmbdailffhdonaa
