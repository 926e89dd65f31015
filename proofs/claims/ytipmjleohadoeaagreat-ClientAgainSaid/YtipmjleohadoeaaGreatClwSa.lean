/- A client that is told replies, in plain words: the laws of chapter 22. -/
import Derived.Test.YtipmjleohadoeaaGreatClnSa
namespace Go.Proofs.YtipmjleohadoeaaGreat
open Go.RowKit
set_option linter.unusedVariables false
set_option linter.unusedSimpArgs false

theorem hears_rep {s : CS} {id n i q r : Int} : s.hears id (repM n i q r) = (decide (i = id) && (decide (q = s.last.t) && !(s.ans.any fun a => a.1 == n))) := rfl
theorem heard_rep {s : CS} {c : Cf} {n i q r : Int} : s.heard c (repM n i q r) = if Psp.weak c.f ≤ s.same r then { s with ans := s.ans ++ [(n, r)], acc := s.acc ++ [(s.last, r)], waits := false } else { s with ans := s.ans ++ [(n, r)] } := rfl
theorem told {c : Cf} {id : Int} {K : List Key} {s : CS} {n i q r : Int} (hf : 1 ≤ c.f ∧ c.f ≤ 4) (hcl : c.cl ≤ 4) (hn : 0 ≤ n ∧ n ≤ 3 * c.f) (hi : 0 ≤ i ∧ i < c.cl) (hq : 1 ≤ q ∧ q ≤ 1048576) (hr : -100000 ≤ r ∧ r ≤ 100000) (hK : K.length < 1000000) :
    takeS c id (sealK K (repM n i q r)) s (envB K (repM n i q r)) = if (s.waits && s.hears id (repM n i q r)) = true then (true, s.heard c (repM n i q r)) else (false, s) := by
  unfold takeS
  rw [(rep_open hf hn hi hcl hq hr hK).2]
  cases s.waits with
  | false => rfl
  | true =>
    dsimp only
    rw [if_pos rfl, Bool.true_and]
theorem weak_is {f : Int} (hf : 1 ≤ f ∧ f ≤ 4) : Psp.weak f = f + 1 := by unfold Psp.weak; rw [if_pos hf]
theorem last_of {s : CS} {is0 : List Psp.Req} {r : Psp.Req} (h : s.issued = is0 ++ [r]) : s.last = r := by
  unfold CS.last
  rw [h]
  simp
/-- Told the same by one node behind the other. -/
structure Wk2 (s : CS) (is0 : List Psp.Req) (r : Psp.Req) (ac0 : List (Psp.Req × Int)) (f bs res : Int) (i : Nat) : Prop where
  w : s.waits = decide ((i : Int) ≤ f)
  is : s.issued = is0 ++ [r]
  lo : ∀ a ∈ s.ans, a.1 < bs + (i : Int)
  re : (s.ans.countP fun a => a.2 == res) = i
  ac : s.acc = if (i : Int) ≤ f then ac0 else ac0 ++ [(r, res)]
section
variable {s : CS} {is0 : List Psp.Req} {r : Psp.Req} {ac0 : List (Psp.Req × Int)} {f bs res id : Int} {i : Nat} {c : Cf}
theorem Wk2.start (hw : s.waits = true) (hi : s.issued = is0 ++ [r]) (ha : s.ans = []) (hc : s.acc = ac0) (hf : 1 ≤ f) : Wk2 s is0 r ac0 f bs res 0 :=
  ⟨by rw [hw]; exact (decide_eq_true (by omega)).symm, hi, fun a h => by (rw [ha] at h; cases h), by rw [ha]; rfl, by rw [hc]; exact (if_pos (by omega)).symm⟩
theorem Wk2.hears (h : Wk2 s is0 r ac0 f bs res i) (hi : (i : Int) ≤ f) : (s.waits && s.hears id (repM (bs + (i : Int)) id r.t res)) = true := by
  rw [h.w, decide_eq_true hi, Bool.true_and, hears_rep, decide_eq_true rfl, Bool.true_and, last_of h.is, decide_eq_true rfl, Bool.true_and, Bool.not_eq_true', List.any_eq_false]
  intro a ha
  have := h.lo a ha
  simp
  omega
theorem Wk2.step (h : Wk2 s is0 r ac0 f bs res i) (hf : 1 ≤ f ∧ f ≤ 4) (hcf : c.f = f) (hi : (i : Int) ≤ f) : Wk2 (s.heard c (repM (bs + (i : Int)) id r.t res)) is0 r ac0 f bs res (i + 1) := by
  have hac := h.ac
  rw [if_pos hi] at hac
  have hw := h.w
  rw [decide_eq_true hi] at hw
  have hsm : s.same res = 1 + (i : Int) := by unfold CS.same; rw [h.re]
  have hlo : ∀ a ∈ s.ans ++ [(bs + (i : Int), res)], a.1 < bs + ((i + 1 : Nat) : Int) := fun a ha => by
    rcases List.mem_append.1 ha with ha | ha
    · have := h.lo a ha; omega
    · rw [List.mem_singleton.1 ha]; show bs + (i : Int) < _; omega
  have hre : ((s.ans ++ [(bs + (i : Int), res)]).countP fun a => a.2 == res) = i + 1 := by rw [List.countP_append, h.re]; simp
  rw [heard_rep, hcf, weak_is hf, hsm]
  by_cases hfi : f + 1 ≤ 1 + (i : Int)
  · rw [if_pos hfi]
    exact ⟨(decide_eq_false (by omega)).symm, h.is, hlo, hre, by rw [if_neg (by omega)]; show s.acc ++ [(s.last, res)] = _; rw [hac, last_of h.is]⟩
  · rw [if_neg hfi]
    exact ⟨by show s.waits = _; rw [hw]; exact (decide_eq_true (by omega)).symm, h.is, hlo, hre, by rw [if_pos (by omega)]; exact hac⟩
end
section
variable {s : CS} {r : Psp.Req} {f won id : Int} {has : List Bool} {vo : List Int} {done : Bool} {n v : Nat} {c : Cf}
end
/-! ### What issuing leaves as it was -/
abbrev stdC (f : Int) : Cf := ⟨f, 2, 2, 4, 64, 8, 8, 8, 1, 2, 12, 8, 6, 2, 6⟩
theorem std_ok {f : Int} (hf : 1 ≤ f ∧ f ≤ 4) : (stdC f).ok = true := by
  unfold Cf.ok
  rw [(Psp.win_iff (stdC f).f 1 4).2 hf]
  rfl
theorem issue_facts {c : Cf} {id : Int} {K K2 : List Key} {s s2 : CS} {r : Psp.Req} {k : Key} (hf : 1 ≤ c.f ∧ c.f ≤ 4) (h : sendS c id (sealL K k) { s with issued := s.issued ++ [r], waits := true, at_ := s.now, ans := [] } = (s2, K2)) :
    s2.waits = true ∧ s2.issued = s.issued ++ [r] ∧ s2.ans = [] ∧ s2.acc = s.acc ∧ s2.out.length ≤ s.out.length + 13 ∧ K2.length ≤ K.length + 2 ∧ s2.now = s.now ∧ s2.at_ = s.now := by
  unfold sendS at h
  injection h with h1 h2
  have h3 := sealK_len (sealL K k) (reqM id ({ s with issued := s.issued ++ [r], waits := true, at_ := s.now, ans := [] } : CS).last)
  have h4 := sealL_len K k
  rw [h2] at h3
  have hn := nodes_is hf
  refine ⟨?_, ?_, ?_, ?_, ?_, by omega, ?_, ?_⟩
  all_goals rw [← h1]
  all_goals split
  all_goals first
    | rfl
    | (show (s.out ++ sendsTo _ _).length ≤ _; rw [List.length_append]; unfold sendsTo; rw [List.length_map, List.length_range]; omega)
    | (show s.out.length ≤ _; omega)
theorem heard_ans {s : CS} {c : Cf} {m : Psp.Msg} : (s.heard c m).ans.length = s.ans.length + 1 ∧ (s.heard c m).issued = s.issued ∧ (s.heard c m).acc.length ≤ s.acc.length + 1 ∧ (s.heard c m).out = s.out := by
  unfold CS.heard
  split
  · exact ⟨by simp, rfl, by simp, rfl⟩
  · exact ⟨by simp, rfl, by show s.acc.length ≤ _; omega, rfl⟩
theorem env_res {K : List Key} {n i q r : Int} (hn : 0 ≤ n ∧ n < 1000) (hi : 0 ≤ i ∧ i < 1000) (hq : 0 ≤ q ∧ q < 2000000) (hr : -100000 ≤ r ∧ r ≤ 100000) (hK : K.length < 1000000) : res (envB K (repM n i q r)) (okS K (repM n i q r)) = envB K (repM n i q r) := by
  obtain ⟨o1, o2⟩ := rep_ok hn hi hq hr
  rw [msgS_small o1 o2 hK]
  rfl
end Go.Proofs.YtipmjleohadoeaaGreat
