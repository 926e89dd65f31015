/- A client that is told replies, in plain words: the laws of chapter 22. -/
import Derived.Test.YtipmjleohadoeaaGreatClnCwk
namespace Go.Proofs.YtipmjleohadoeaaGreat
open Go.RowKit
set_option linter.unusedVariables false
set_option linter.unusedSimpArgs false

theorem hears_rep {s : CS} {id n i q r : Int} : s.hears id (repM n i q r) = (decide (i = id) && (decide (q = s.last.t) && !(s.ans.any fun a => a.1 == n))) := rfl
theorem heard_rep {s : CS} {c : Cf} {n i q r : Int} : s.heard c (repM n i q r) = if Psp.weak c.f ≤ s.same r then { s with ans := s.ans ++ [(n, r)], acc := s.acc ++ [(s.last, r)], waits := false } else { s with ans := s.ans ++ [(n, r)] } := rfl
theorem told {c : Cf} {id : Int} {K : List Key} {s : CS} {n i q r : Int} (hf : 1 ≤ c.f ∧ c.f ≤ 4) (hcl : c.cl ≤ 4) (hn : 0 ≤ n ∧ n ≤ 3 * c.f) (hi : 0 ≤ i ∧ i < c.cl) (hq : 1 ≤ q ∧ q ≤ 1048576) (hr : -100000 ≤ r ∧ r ≤ 100000) (hK : K.length < 1000000) :
    takeS c id (sealK K (repM n i q r)) s (envB K (repM n i q r)) = if (s.waits && s.hears id (repM n i q r)) = true then (true, s.heard c (repM n i q r)) else (false, s) := by
  unfold takeS
  rw [(rep_open hf hn hi hcl hq hr hK).2]
  cases s.waits with
  | false => rfl
  | true =>
    dsimp only
    rw [if_pos rfl, Bool.true_and]
theorem weak_is {f : Int} (hf : 1 ≤ f ∧ f ≤ 4) : Psp.weak f = f + 1 := by unfold Psp.weak; rw [if_pos hf]
/-- Unlike numbers below f are at most f. -/
theorem pigeon : ∀ (f : Nat) (l : List Int), l.Nodup → (∀ x ∈ l, 0 ≤ x ∧ x < (f : Int)) → l.length ≤ f
  | 0, l, _, h => by
    cases l with
    | nil => exact Nat.le_refl _
    | cons x l => have := h x List.mem_cons_self; omega
  | f + 1, l, hd, h => by
    have h1 := pigeon f (l.erase (f : Int)) (hd.erase _) fun x hx => by
      have h2 := (hd.mem_erase_iff).1 hx
      have h3 := h x h2.2
      have h4 := h2.1
      omega
    have h5 := List.length_erase (a := (f : Int)) (l := l)
    split at h5 <;> omega
/-! ### ClientWeak -/
structure Wk1 (s : CS) (r : Psp.Req) (f res : Int) : Prop where
  w : s.waits = true
  is : s.issued = [r]
  ac : s.acc = []
  nd : (s.ans.map (·.1)).Nodup
  lo : ∀ a ∈ s.ans, (0 ≤ a.1 ∧ a.1 < f) ∧ a.2 = res + 1
theorem any_no {l : List (Int × Int)} {n : Int} (h : (l.any fun a => a.1 == n) = false) : n ∉ l.map (·.1) := by
  intro hm
  obtain ⟨a, ha, he⟩ := List.mem_map.1 hm
  rw [List.any_eq_false] at h
  exact h a ha (by simpa using he)
theorem Wk1.step {s : CS} {r : Psp.Req} {f res n id q : Int} {c : Cf} (h : Wk1 s r f res) (hf : 1 ≤ f ∧ f ≤ 4) (hcf : c.f = f) (hn : 0 ≤ n ∧ n < f) :
    Wk1 (if (s.waits && s.hears id (repM n id q (res + 1))) = true then s.heard c (repM n id q (res + 1)) else s) r f res := by
  split
  · rename_i hh
    rw [h.w, Bool.true_and, hears_rep, Bool.and_eq_true, Bool.and_eq_true, Bool.not_eq_true'] at hh
    have hno := any_no hh.2.2
    have hl : (s.ans.map (·.1)).length + 1 ≤ f.toNat := by
      have := pigeon f.toNat (s.ans.map (·.1) ++ [n]) (by
        rw [List.nodup_append]
        refine ⟨h.nd, by simp, fun a ha b hb => ?_⟩
        rw [List.mem_singleton.1 hb]
        rintro rfl
        exact hno ha) (fun x hx => by
        rcases List.mem_append.1 hx with hx | hx
        · obtain ⟨a, ha, rfl⟩ := List.mem_map.1 hx
          have := (h.lo a ha).1
          omega
        · rw [List.mem_singleton.1 hx]; omega)
      rw [List.length_append] at this
      exact this
    rw [List.length_map] at hl
    have hs : ¬ Psp.weak c.f ≤ s.same (res + 1) := by
      rw [hcf, weak_is hf]
      have : (s.ans.countP fun a => a.2 == res + 1) ≤ s.ans.length := List.countP_le_length
      unfold CS.same
      omega
    rw [heard_rep, if_neg hs]
    refine ⟨h.w, h.is, h.ac, ?_, fun a ha => ?_⟩
    · show ((s.ans ++ [(n, res + 1)]).map (·.1)).Nodup
      rw [List.map_append, List.nodup_append]
      refine ⟨h.nd, by simp, fun a ha b hb => ?_⟩
      rw [show b = n by simpa using hb]
      rintro rfl
      exact hno ha
    · rcases List.mem_append.1 ha with ha | ha
      · exact h.lo a ha
      · rw [List.mem_singleton.1 ha]; exact ⟨hn, rfl⟩
  · exact h
theorem last_of {s : CS} {is0 : List Psp.Req} {r : Psp.Req} (h : s.issued = is0 ++ [r]) : s.last = r := by
  unfold CS.last
  rw [h]
  simp
/-- Told the same by one node behind the other. -/
structure Wk2 (s : CS) (is0 : List Psp.Req) (r : Psp.Req) (ac0 : List (Psp.Req × Int)) (f bs res : Int) (i : Nat) : Prop where
  w : s.waits = decide ((i : Int) ≤ f)
  is : s.issued = is0 ++ [r]
  lo : ∀ a ∈ s.ans, a.1 < bs + (i : Int)
  re : (s.ans.countP fun a => a.2 == res) = i
  ac : s.acc = if (i : Int) ≤ f then ac0 else ac0 ++ [(r, res)]
section
variable {s : CS} {is0 : List Psp.Req} {r : Psp.Req} {ac0 : List (Psp.Req × Int)} {f bs res id : Int} {i : Nat} {c : Cf}
theorem Wk1.two (h : Wk1 s r f res) (hf : 1 ≤ f) : Wk2 s [] r [] f f res 0 :=
  ⟨by rw [h.w]; exact (decide_eq_true (by omega)).symm, h.is, fun a ha => by have := (h.lo a ha).1; omega, by
    rw [List.countP_eq_zero]
    intro a ha
    have := (h.lo a ha).2
    simp
    omega, by rw [h.ac]; exact (if_pos (by omega)).symm⟩
theorem Wk2.start (hw : s.waits = true) (hi : s.issued = is0 ++ [r]) (ha : s.ans = []) (hc : s.acc = ac0) (hf : 1 ≤ f) : Wk2 s is0 r ac0 f bs res 0 :=
  ⟨by rw [hw]; exact (decide_eq_true (by omega)).symm, hi, fun a h => by (rw [ha] at h; cases h), by rw [ha]; rfl, by rw [hc]; exact (if_pos (by omega)).symm⟩
theorem Wk2.hears (h : Wk2 s is0 r ac0 f bs res i) (hi : (i : Int) ≤ f) : (s.waits && s.hears id (repM (bs + (i : Int)) id r.t res)) = true := by
  rw [h.w, decide_eq_true hi, Bool.true_and, hears_rep, decide_eq_true rfl, Bool.true_and, last_of h.is, decide_eq_true rfl, Bool.true_and, Bool.not_eq_true', List.any_eq_false]
  intro a ha
  have := h.lo a ha
  simp
  omega
theorem Wk2.step (h : Wk2 s is0 r ac0 f bs res i) (hf : 1 ≤ f ∧ f ≤ 4) (hcf : c.f = f) (hi : (i : Int) ≤ f) : Wk2 (s.heard c (repM (bs + (i : Int)) id r.t res)) is0 r ac0 f bs res (i + 1) := by
  have hac := h.ac
  rw [if_pos hi] at hac
  have hw := h.w
  rw [decide_eq_true hi] at hw
  have hsm : s.same res = 1 + (i : Int) := by unfold CS.same; rw [h.re]
  have hlo : ∀ a ∈ s.ans ++ [(bs + (i : Int), res)], a.1 < bs + ((i + 1 : Nat) : Int) := fun a ha => by
    rcases List.mem_append.1 ha with ha | ha
    · have := h.lo a ha; omega
    · rw [List.mem_singleton.1 ha]; show bs + (i : Int) < _; omega
  have hre : ((s.ans ++ [(bs + (i : Int), res)]).countP fun a => a.2 == res) = i + 1 := by rw [List.countP_append, h.re]; simp
  rw [heard_rep, hcf, weak_is hf, hsm]
  by_cases hfi : f + 1 ≤ 1 + (i : Int)
  · rw [if_pos hfi]
    exact ⟨(decide_eq_false (by omega)).symm, h.is, hlo, hre, by rw [if_neg (by omega)]; show s.acc ++ [(s.last, res)] = _; rw [hac, last_of h.is]⟩
  · rw [if_neg hfi]
    exact ⟨by show s.waits = _; rw [hw]; exact (decide_eq_true (by omega)).symm, h.is, hlo, hre, by rw [if_pos (by omega)]; exact hac⟩
/-- Told again it is nothing. -/
theorem heard_deaf {s : CS} {c : Cf} {n i q r i2 q2 r2 : Int} : (s.heard c (repM n i q r)).hears id (repM n i2 q2 r2) = false := by
  have h2 : ((s.heard c (repM n i q r)).ans.any fun a => a.1 == n) = true := by
    rw [List.any_eq_true]
    refine ⟨(n, r), ?_, by simp⟩
    rw [heard_rep]
    split <;> exact List.mem_append_right _ List.mem_cons_self
  rw [hears_rep, h2]
  simp
end
section
variable {s : CS} {r : Psp.Req} {f won id : Int} {has : List Bool} {vo : List Int} {done : Bool} {n v : Nat} {c : Cf}
end
/-! ### What issuing leaves as it was -/
abbrev stdC (f : Int) : Cf := ⟨f, 2, 2, 4, 64, 8, 8, 8, 1, 2, 12, 8, 6, 2, 6⟩
theorem std_ok {f : Int} (hf : 1 ≤ f ∧ f ≤ 4) : (stdC f).ok = true := by
  unfold Cf.ok
  rw [(Psp.win_iff (stdC f).f 1 4).2 hf]
  rfl
theorem issue_facts {c : Cf} {id : Int} {K K2 : List Key} {s s2 : CS} {r : Psp.Req} {k : Key} (hf : 1 ≤ c.f ∧ c.f ≤ 4) (h : sendS c id (sealL K k) { s with issued := s.issued ++ [r], waits := true, at_ := s.now, ans := [] } = (s2, K2)) :
    s2.waits = true ∧ s2.issued = s.issued ++ [r] ∧ s2.ans = [] ∧ s2.acc = s.acc ∧ s2.out.length ≤ s.out.length + 13 ∧ K2.length ≤ K.length + 2 ∧ s2.now = s.now ∧ s2.at_ = s.now := by
  unfold sendS at h
  injection h with h1 h2
  have h3 := sealK_len (sealL K k) (reqM id ({ s with issued := s.issued ++ [r], waits := true, at_ := s.now, ans := [] } : CS).last)
  have h4 := sealL_len K k
  rw [h2] at h3
  have hn := nodes_is hf
  refine ⟨?_, ?_, ?_, ?_, ?_, by omega, ?_, ?_⟩
  all_goals rw [← h1]
  all_goals split
  all_goals first
    | rfl
    | (show (s.out ++ sendsTo _ _).length ≤ _; rw [List.length_append]; unfold sendsTo; rw [List.length_map, List.length_range]; omega)
    | (show s.out.length ≤ _; omega)
theorem heard_ans {s : CS} {c : Cf} {m : Psp.Msg} : (s.heard c m).ans.length = s.ans.length + 1 ∧ (s.heard c m).issued = s.issued ∧ (s.heard c m).acc.length ≤ s.acc.length + 1 ∧ (s.heard c m).out = s.out := by
  unfold CS.heard
  split
  · exact ⟨by simp, rfl, by simp, rfl⟩
  · exact ⟨by simp, rfl, by show s.acc.length ≤ _; omega, rfl⟩
theorem env_res {K : List Key} {n i q r : Int} (hn : 0 ≤ n ∧ n < 1000) (hi : 0 ≤ i ∧ i < 1000) (hq : 0 ≤ q ∧ q < 2000000) (hr : -100000 ≤ r ∧ r ≤ 100000) (hK : K.length < 1000000) : res (envB K (repM n i q r)) (okS K (repM n i q r)) = envB K (repM n i q r) := by
  obtain ⟨o1, o2⟩ := rep_ok hn hi hq hr
  rw [msgS_small o1 o2 hK]
  rfl
end Go.Proofs.YtipmjleohadoeaaGreat
