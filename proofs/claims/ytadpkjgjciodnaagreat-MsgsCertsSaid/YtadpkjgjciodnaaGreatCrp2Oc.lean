/- Certificates with one thing turned are not right, in plain words. -/
import Derived.Test.YtadpkjgjciodnaaGreatCrpOc
namespace Go.Proofs.YtadpkjgjciodnaaGreat
open Go.RowKit
set_option linter.unusedVariables false
set_option linter.unusedSimpArgs false

theorem tn_num {K : List Key} {kind f cl : Int} {a d : Psp.Cert} (h : CF K kind f cl a) (hf : 1 ≤ f ∧ f ≤ 4) (ho : d.o = a.o) (hne : ∀ n, balM kind n d ≠ balM kind n a) : votedB K kind d f = false := by
  have hl := h.len hf
  have hx : a.o[0]'(by omega) ∈ a.o := List.getElem_mem _
  exact voted_no (x := a.o[0]'(by omega)) (by rw [ho]; exact hx) (h.vs _ hx).2 (hne _)
theorem tn_v {K : List Key} {kind f cl : Int} {a : Psp.Cert} (h : CF K kind f cl a) (hf : 1 ≤ f ∧ f ≤ 4) {v : Int} (hv : v ≠ a.v) : votedB K kind { a with v := v } f = false :=
  tn_num h hf rfl fun n he => by unfold balM at he; injection he with _ _ he; exact hv he
theorem tn_i {K : List Key} {kind f cl : Int} {a : Psp.Cert} (h : CF K kind f cl a) (hf : 1 ≤ f ∧ f ≤ 4) {v : Int} (hv : v ≠ a.i) : votedB K kind { a with i := v } f = false :=
  tn_num h hf rfl fun n he => by unfold balM at he; injection he with _ _ _ he; exact hv he
theorem tn_q {K : List Key} {kind f cl : Int} {a : Psp.Cert} (h : CF K kind f cl a) (hf : 1 ≤ f ∧ f ≤ 4) {v : Int} (hv : v ≠ a.q) : votedB K kind { a with q := v } f = false :=
  tn_num h hf rfl fun n he => by unfold balM at he; injection he with _ _ _ _ he; exact hv he
theorem tn_b {K : List Key} {kind f cl : Int} {a : Psp.Cert} (h : CF K kind f cl a) (hf : 1 ≤ f ∧ f ≤ 4) (r : Psp.Req) : votedB K kind { a with b := a.b ++ [r] } f = false :=
  tn_num h hf rfl fun n he => by
    unfold balM at he
    injection he with _ _ _ _ _ _ he
    have := congrArg List.length he
    simp at this
theorem tn_seal {K : List Key} {kind f cl : Int} {a : Psp.Cert} (h : CF K kind f cl a) {i : Nat} {n s : Int} (hi : a.o[i]? = some ⟨n, s⟩) : votedB K kind { a with o := a.o.set i ⟨n, s + 1⟩ } f = false := by
  obtain ⟨hlt, he⟩ := List.getElem?_eq_some_iff.1 hi
  have hm := h.vs _ (List.mem_of_getElem? hi)
  refine voted_no2 (x := ⟨n, s + 1⟩) (s := s) ?_ hm.2 (by show s + 1 ≠ s; omega)
  exact List.mem_iff_getElem?.2 ⟨i, by rw [List.getElem?_set_self hlt]⟩
theorem tn_rise {K : List Key} {kind f cl : Int} {a : Psp.Cert} (h : CF K kind f cl a) (hf : 1 ≤ f ∧ f ≤ 4) {l : List Psp.Vote} (hl : l.length ≠ a.o.length) : votedB K kind { a with o := l } f = false := by
  refine voted_rise ?_
  cases hr : Psp.rising (l.map (·.n)) f with
  | false => rfl
  | true =>
    have h1 := (rising_pair hr).1
    have h2 := h.len hf
    rw [List.length_map, quorum_is hf] at h1
    exact absurd (by omega) hl
theorem tn_same {K : List Key} {kind f cl : Int} {a : Psp.Cert} (h : CF K kind f cl a) {i j : Nat} (hij : i ≠ j) (hi : i < a.o.length) {t : Psp.Vote} (hj : a.o[j]? = some t) : votedB K kind { a with o := a.o.set i t } f = false := by
  refine voted_rise ?_
  cases hr : Psp.rising ((a.o.set i t).map (·.n)) f with
  | false => rfl
  | true =>
    exfalso
    have hp := (rising_pair hr).2.2
    obtain ⟨hjl, he⟩ := List.getElem?_eq_some_iff.1 hj
    rw [List.pairwise_iff_getElem] at hp
    have hil : i < ((a.o.set i t).map (·.n)).length := by simpa using hi
    have hjl' : j < ((a.o.set i t).map (·.n)).length := by simpa using hjl
    have e1 : ((a.o.set i t).map (·.n))[i]'hil = t.n := by simp
    have e2 : ((a.o.set i t).map (·.n))[j]'hjl' = t.n := by simp [List.getElem_set, hij, he]
    rcases Nat.lt_or_gt_of_ne hij with hlt | hlt
    · have := hp i j hil hjl' hlt; rw [e1, e2] at this; omega
    · have := hp j i hjl' hil hlt; rw [e1, e2] at this; omega
theorem tn_node {K : List Key} {kind f cl : Int} {a : Psp.Cert} (h : CF K kind f cl a) (hf : 1 ≤ f ∧ f ≤ 4) {i : Nat} (hi : i < a.o.length) (s : Int) : votedB K kind { a with o := a.o.set i ⟨13, s⟩ } f = false := by
  refine voted_rise ?_
  cases hr : Psp.rising ((a.o.set i (⟨13, s⟩ : Psp.Vote)).map (·.n)) f with
  | false => rfl
  | true =>
    exfalso
    have hp := (rising_pair hr).2.1 13 (List.mem_map.2 ⟨⟨13, s⟩, List.mem_iff_getElem?.2 ⟨i, by rw [List.getElem?_set_self hi]⟩, rfl⟩)
    rw [nodes_is hf] at hp
    omega
end Go.Proofs.YtadpkjgjciodnaaGreat
