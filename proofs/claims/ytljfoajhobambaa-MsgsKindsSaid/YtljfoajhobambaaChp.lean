/- The plain law of MsgsChanged: a quorum's votes to leave a view, made so, turned. -/
import Derived.Test.YtljfoajhobambaaVts
import Derived.Test.YtljfoajhobambaaGg
namespace Go.Proofs.Ytljfoajhobambaa
open Go.RowKit
set_option linter.unusedVariables false
set_option linter.unusedSimpArgs false

theorem ch_ok {n v : Int} (h1 : 0 ≤ n) (h2 : n ≤ 1000) (h3 : 0 ≤ v) (h4 : v ≤ 1000) : Psp.okB (chM n v) = true := by
  have k6 : Psp.okN 6 = true := (Psp.okN_iff _).2 ⟨by omega, by omega⟩
  have kn : Psp.okN n = true := (Psp.okN_iff _).2 ⟨by omega, by omega⟩
  have kv : Psp.okN v = true := (Psp.okN_iff _).2 ⟨by omega, by omega⟩
  have k0 : Psp.okN 0 = true := (Psp.okN_iff _).2 ⟨by omega, by omega⟩
  have ks : Psp.okS 0 = true := (Psp.okS_iff _).2 ⟨by omega, by omega⟩
  have hok : Psp.okM (chM n v) = true := by
    unfold Psp.okM chM
    simp only [k6, kn, kv, k0, ks, Bool.true_and]
    rfl
  unfold Psp.okB
  rw [hok, Bool.true_and, decide_eq_true_eq]
  unfold Psp.encM chM Psp.encL
  simp only [List.length_append, List.flatMap_nil, List.length_nil]
  have := (Psp.encN_len k6).2
  have := (Psp.encN_len kn).2
  have := (Psp.encN_len kv).2
  have := (Psp.encN_len k0).2
  have := (Psp.encS_len 0).2
  have h0 : (Psp.encN ((0 : Nat) : Int)).length ≤ 6 := (Psp.encN_len k0).2
  omega
theorem ch_key {n n' v v' : Int} (h : kM (chM n v) = kM (chM n' v')) : n = n' ∧ Psp.encM (chM n v) = Psp.encM (chM n' v') := by
  unfold kM at h
  injection h with h1 h2
  exact ⟨h1, h2⟩

theorem kI_lt {f s : Int} (hf : 1 ≤ f ∧ f ≤ 4) {i j : Nat} (h : i < j) : kI f s i < kI f s j := by
  have e1 : Psp.nodes f = 3 * f + 1 := by unfold Psp.nodes; rw [if_pos hf]
  have e2 : Psp.quorum f = 2 * f + 1 := by unfold Psp.quorum; rw [if_pos hf]
  unfold kI
  rw [e1, e2]
  split <;> split <;> omega
theorem kI_bd {f s : Int} (hf : 1 ≤ f ∧ f ≤ 4) {i : Nat} (h : (i : Int) < 2 * f + 1) : 0 ≤ kI f s i ∧ kI f s i < 3 * f + 1 := by
  have e1 : Psp.nodes f = 3 * f + 1 := by unfold Psp.nodes; rw [if_pos hf]
  have e2 : Psp.quorum f = 2 * f + 1 := by unfold Psp.quorum; rw [if_pos hf]
  unfold kI
  rw [e1, e2]
  split <;> omega

/-- The keys that are sealed. -/
def chK (f s view : Int) (i : Nat) : List Key := (List.range i).map fun j => kM (chM (kI f s j) view)
def chL (f s : Int) (i : Nat) : List Psp.Vote := (List.range i).map fun j => ⟨kI f s j, (j : Int) + 1⟩
theorem chK_get {f s view : Int} {i j : Nat} (h : j < i) : (chK f s view i)[j]? = some (kM (chM (kI f s j) view)) := by
  unfold chK; rw [List.getElem?_map, List.getElem?_range h]; rfl
theorem chK_mem {f s view : Int} (hf : 1 ≤ f ∧ f ≤ 4) {i : Nat} : kM (chM (kI f s i) view) ∉ chK f s view i := by
  unfold chK
  intro h
  obtain ⟨j, hj, he⟩ := List.mem_map.1 h
  have h1 := List.mem_range.1 hj
  have h2 := (ch_key he).1
  have h3 := kI_lt (s := s) hf h1
  omega
theorem chK_nodup {f s view : Int} (hf : 1 ≤ f ∧ f ≤ 4) : ∀ i, (chK f s view i).Nodup
  | 0 => List.nodup_nil
  | i + 1 => by
    have h := chK_nodup (s := s) (view := view) hf i
    unfold chK at h ⊢
    rw [List.range_succ, List.map_append, List.nodup_append]
    refine ⟨h, by simp, fun a ha b hb => ?_⟩
    rw [List.map_cons, List.map_nil, List.mem_singleton] at hb
    subst hb
    intro he
    subst he
    exact chK_mem hf ha
theorem vts_is {f s view : Int} (hf : 1 ≤ f ∧ f ≤ 4) (hv : 0 ≤ view ∧ view ≤ 1000) : ∀ i : Nat, (i : Int) ≤ 2 * f + 1 → vts f s (fun k => chM k view) [] i = (chL f s i, chK f s view i)
  | 0, _ => rfl
  | i + 1, h => by
    have ih := vts_is (s := s) hf hv i (by omega)
    have hb := kI_bd (s := s) hf (i := i) (by omega)
    have hok := ch_ok hb.1 (by omega) hv.1 hv.2
    have hn := chK_mem (s := s) (view := view) hf (i := i)
    have hlen : (chK f s view i).length = i := by unfold chK; simp
    show (_ ++ [_], _) = _
    rw [ih]
    simp only
    have e1 : sealM (chK f s view i) (chM (kI f s i) view) = (i : Int) + 1 := by
      unfold sealM sealN
      rw [hok, if_pos rfl, if_neg hn, hlen]
    have e2 : sealK (chK f s view i) (chM (kI f s i) view) = chK f s view i ++ [kM (chM (kI f s i) view)] := by
      unfold sealK sealL
      rw [hok, if_pos rfl, if_neg hn]
    rw [e1, e2]
    unfold chL chK
    rw [List.range_succ, List.map_append, List.map_append]
    rfl

/-- A vote's seal, of that many. -/
theorem ch_sealed {f s view : Int} (hf : 1 ≤ f ∧ f ≤ 4) {q j : Nat} (hj : j < q) (m : Psp.Msg) : sealedB (chK f s view q) m ((j : Int) + 1) = (Psp.okB m && decide (kM (chM (kI f s j) view) = kM m)) := by
  unfold sealedB chkB
  rw [chk_at (chK_nodup hf q) (chK_get hj)]
theorem ch_sealed_out {f s view : Int} {q : Nat} {x : Int} (hx : x < 1 ∨ (q : Int) < x) (m : Psp.Msg) : sealedB (chK f s view q) m x = false := by
  unfold sealedB chkB
  have hlen : (chK f s view q).length = q := by unfold chK; simp
  rw [chk_out (by rw [hlen]; exact hx), Bool.and_false]

theorem upTo_range {f s N : Int} (hf : 1 ≤ f ∧ f ≤ 4) : ∀ (n k : Nat) (p : Int), (∀ j, j < k + n → kI f s j < N) → p < kI f s k → (n = 0 ∨ True) → Psp.upTo N p ((List.range' k n).map (kI f s)) = true
  | 0, _, _, _, _, _ => rfl
  | n + 1, k, p, h, hp, _ => by
    rw [List.range'_succ, List.map_cons]
    unfold Psp.upTo
    have h1 := h k (by omega)
    have h2 := upTo_range (s := s) hf n (k + 1) (kI f s k) (fun j hj => h j (by omega)) (kI_lt hf (by omega)) (Or.inr trivial)
    rw [if_neg (by omega)]
    exact h2

theorem may_of {f : Int} (hf : 1 ≤ f ∧ f ≤ 4) : Psp.may f = true := by unfold Psp.may; simp; omega
theorem chL_len (f s : Int) (q : Nat) : (chL f s q).length = q := by unfold chL; simp
theorem chL_get {f s : Int} {q j : Nat} (h : j < q) : (chL f s q)[j]'(by rw [chL_len]; exact h) = ⟨kI f s j, (j : Int) + 1⟩ := by unfold chL; simp
theorem ch_yes {f s view : Int} (hf : 1 ≤ f ∧ f ≤ 4) (hv : 0 ≤ view ∧ view ≤ 11) {q : Nat} (hq : (q : Int) = 2 * f + 1) : changedB (chK f s view q) view (chL f s q) f = true := by
  unfold changedB
  have e2 : Psp.quorum f = 2 * f + 1 := by unfold Psp.quorum; rw [if_pos hf]
  have e1 : Psp.nodes f = 3 * f + 1 := by unfold Psp.nodes; rw [if_pos hf]
  have h1 : Psp.win view 0 11 = true := (Psp.win_iff _ _ _).2 ⟨by omega, by omega⟩
  have h2 : Psp.rising ((chL f s q).map (·.n)) f = true := by
    unfold Psp.rising
    rw [may_of hf, Bool.true_and, List.length_map, chL_len, e2, e1, decide_eq_true hq, Bool.true_and]
    have hm : (chL f s q).map (·.n) = (List.range' 0 q).map (kI f s) := by unfold chL; rw [List.map_map, List.range_eq_range']; rfl
    rw [hm]
    exact upTo_range hf q 0 (-1) (fun j hj => (kI_bd hf (by omega)).2) (by have := (kI_bd (s := s) hf (i := 0) (by omega)).1; omega) (Or.inr trivial)
  have h3 : ((chL f s q).all fun v => sealedB (chK f s view q) (chM v.n view) v.s) = true := by
    rw [List.all_eq_true]
    intro x hx
    unfold chL at hx
    obtain ⟨j, hj, rfl⟩ := List.mem_map.1 hx
    have hjq := List.mem_range.1 hj
    have hb := kI_bd (s := s) hf (i := j) (by omega)
    rw [ch_sealed hf hjq, ch_ok hb.1 (by omega) hv.1 (by omega), decide_eq_true rfl]
    rfl
  rw [h1, h2, h3]
  rfl
theorem ch_all_no {f s view : Int} {K : List Key} {v : Int} {l : List Psp.Vote} (x : Psp.Vote) (hx : x ∈ l) (h : sealedB K (chM x.n v) x.s = false) : changedB K v l f = false := by
  unfold changedB
  have : (l.all fun y => sealedB K (chM y.n v) y.s) = false := List.all_eq_false.2 ⟨x, hx, by simp [h]⟩
  rw [this, Bool.and_false, Bool.and_false]
theorem ch_other {f s view v : Int} (hf : 1 ≤ f ∧ f ≤ 4) (hv : 0 ≤ view ∧ view ≤ 11) (hne : v ≠ view) {q : Nat} (hq : (q : Int) = 2 * f + 1) : changedB (chK f s view q) v (chL f s q) f = false := by
  have h0 : 0 < q := by omega
  refine ch_all_no (s := s) (view := view) (⟨kI f s 0, ((0 : Nat) : Int) + 1⟩ : Psp.Vote) (by unfold chL; exact List.mem_map.2 ⟨0, List.mem_range.2 h0, rfl⟩) ?_
  show sealedB _ (chM (kI f s 0) v) _ = false
  rw [ch_sealed hf h0]
  cases hok : Psp.okB (chM (kI f s 0) v) with
  | false => rfl
  | true =>
    have hb := kI_bd (s := s) hf (i := 0) (by omega)
    rw [Bool.true_and, decide_eq_false_iff_not]
    intro he
    have h1 := Psp.encM_inj (ch_ok hb.1 (by omega) hv.1 (by omega)) hok (ch_key he).2
    unfold chM at h1
    injection h1 with _ _ h1
    exact hne h1.symm
theorem ch_seal {f s view : Int} (hf : 1 ≤ f ∧ f ≤ 4) {q i : Nat} (hi : i < q) {l : List Psp.Vote} (hm : (⟨kI f s i, (i : Int) + 1 + 1⟩ : Psp.Vote) ∈ l) : changedB (chK f s view q) view l f = false := by
  refine ch_all_no (s := s) (view := view) _ hm ?_
  show sealedB _ (chM (kI f s i) view) ((i : Int) + 1 + 1) = false
  by_cases h : i + 1 < q
  · have e : ((i : Int) + 1 + 1) = ((i + 1 : Nat) : Int) + 1 := by omega
    rw [e, ch_sealed hf h, Bool.and_eq_false_iff, decide_eq_false_iff_not]
    right
    intro he
    have h1 := (ch_key he).1
    have h2 := kI_lt (s := s) hf (show i < i + 1 by omega)
    omega
  · exact ch_sealed_out (Or.inr (by omega)) _
theorem ch_node {f s view : Int} (hf : 1 ≤ f ∧ f ≤ 4) {q i : Nat} (hi : i < q) {l : List Psp.Vote} (hm : (⟨kI f s i + 1, (i : Int) + 1⟩ : Psp.Vote) ∈ l) : changedB (chK f s view q) view l f = false := by
  refine ch_all_no (s := s) (view := view) _ hm ?_
  show sealedB _ (chM (kI f s i + 1) view) _ = false
  rw [ch_sealed hf hi, Bool.and_eq_false_iff, decide_eq_false_iff_not]
  right
  intro he
  have h1 := (ch_key he).1
  omega
theorem ch_more {f : Int} {K : List Key} {v : Int} {l : List Psp.Vote} (hf : 1 ≤ f ∧ f ≤ 4) (hl : (l.length : Int) ≠ 2 * f + 1) : changedB K v l f = false := by
  unfold changedB Psp.rising
  have e2 : Psp.quorum f = 2 * f + 1 := by unfold Psp.quorum; rw [if_pos hf]
  rw [List.length_map, e2, decide_eq_false hl]
  simp
end Go.Proofs.Ytljfoajhobambaa
