/- Plain facts for PropOrders: there is room, and a turned list tells the same. -/
import Derived.Test.YtmbdailffhdonaaSameR
namespace Psp
set_option linter.unusedVariables false
theorem nodup_len : ∀ {l m : List Req}, l.Nodup → (∀ x ∈ l, x ∈ m) → l.length ≤ m.length
  | [], _, _, _ => Nat.zero_le _
  | a :: l, m, h, hs => by
    obtain ⟨h1, h2⟩ := List.nodup_cons.1 h
    have ha := hs a (by simp)
    have := nodup_len (l := l) (m := m.erase a) h2 fun x hx => (List.mem_erase_of_ne (fun e => h1 (by rw [← e]; exact hx))).2 (hs x (by simp [hx]))
    have hpos := List.length_pos_of_mem ha
    rw [List.length_erase_of_mem ha] at this
    rw [List.length_cons]
    omega
theorem sorted_nodup {l : List Req} (h : l.Pairwise (fun a b => cmpR a b < 0)) : l.Nodup :=
  h.imp fun {a b} hab e => by rw [e, cmpR_self] at hab; omega
/-- Of few requests none finds a full table. -/
theorem Heard.room {f cl : Int} {P : List (Req × Int)} {l : List Told} (h : Heard f cl P l) {m : List Req} (hm : m.length ≤ 4) (hP : ∀ x ∈ P, x.1 ∈ m) {r : Req} (hr : r ∈ m) : isAt l r = false → cntOf l r.c < 4 := by
  intro ha
  have hnot : r ∉ reqsOf l := by
    intro hx
    obtain ⟨A, B, hAB, _, hA, hB⟩ := isAt_sorted h.sorted ha
    obtain ⟨x, hx, hxr⟩ := List.mem_map.1 hx
    rw [hAB] at hx
    rcases List.mem_append.1 hx with hx | hx
    · have := hA x hx; rw [hxr, cmpR_self] at this; omega
    · have := hB x hx; rw [hxr, cmpR_self] at this; omega
  have h1 : (r :: reqsOf l).length ≤ m.length := nodup_len (List.nodup_cons.2 ⟨hnot, sorted_nodup h.sorted⟩) fun x hx => by
    rcases List.mem_cons.1 hx with rfl | hx
    · exact hr
    · obtain ⟨_, n, hn⟩ := (h.mem x).1 hx
      exact hP _ hn
  have h2 : (reqsOf l).length = l.length := by unfold reqsOf; rw [List.length_map]
  have := cnt_le_len l r.c
  rw [List.length_cons] at h1
  omega
/-- The i-th of the list that is turned by a. -/
def turned (P : List (Req × Int)) (a : Nat) : List (Req × Int) := P.drop (a % P.length) ++ P.take (a % P.length)
theorem turned_len (P : List (Req × Int)) (a : Nat) : (turned P a).length = P.length := by
  unfold turned
  rw [List.length_append, List.length_drop, List.length_take]; omega
theorem turned_get (P : List (Req × Int)) (a i : Nat) (hi : i < P.length) (hj : (i + a) % P.length < P.length) : (turned P a)[i]'(by rw [turned_len]; exact hi) = P[(i + a) % P.length] := by
  have hm : a % P.length < P.length := Nat.mod_lt _ (by omega)
  have e : (i + a) % P.length = if i + a % P.length < P.length then i + a % P.length else i + a % P.length - P.length := by
    rw [Nat.add_mod, Nat.mod_eq_of_lt hi]
    split
    · rename_i h; exact Nat.mod_eq_of_lt h
    · rename_i h; rw [Nat.mod_eq_sub_mod (by omega), Nat.mod_eq_of_lt (by omega)]
  simp only [turned, e]
  rw [List.getElem_append]
  by_cases h : i + a % P.length < P.length
  · simp only [if_pos h, List.length_drop, dif_pos (by omega : i < P.length - a % P.length), List.getElem_drop]
    congr 1; omega
  · simp only [if_neg h, List.length_drop, dif_neg (by omega : ¬ i < P.length - a % P.length), List.getElem_take]
    congr 1; omega
theorem turned_mem (P : List (Req × Int)) (a : Nat) (x : Req × Int) : x ∈ P ↔ x ∈ turned P a := by
  unfold turned
  rw [List.mem_append, or_comm, ← List.mem_append, List.take_append_drop]
theorem Heard.len_le {f cl : Int} {P : List (Req × Int)} {l : List Told} (h : Heard f cl P l) {m : List Req} (hP : ∀ x ∈ P, x.1 ∈ m) : l.length ≤ m.length := by
  have h1 := nodup_len (sorted_nodup h.sorted) (m := m) fun x hx => by
    obtain ⟨_, n, hn⟩ := (h.mem x).1 hx
    exact hP _ hn
  unfold reqsOf at h1
  rwa [List.length_map] at h1
/-- The next pair of a list is told. -/
theorem Heard.step {P : List (Req × Int)} {l : List Told} {k : Nat} (h : Heard 1 3 (P.take k) l) {m : List Req} (hm : m.length ≤ 4) (hP : ∀ x ∈ P, x.1 ∈ m ∧ 0 ≤ x.2 ∧ x.2 < 4) (hk : k < P.length) {r : Req} {n : Int} (he : P[k] = (r, n)) (c : Int) :
    l.length ≤ 4 ∧ Heard 1 3 (P.take (k + 1)) (putP 1 3 l r n c).2 := by
  have hx := hP _ (List.getElem_mem hk)
  rw [he] at hx
  have hsub : ∀ x ∈ P.take k, x.1 ∈ m := fun x hx => (hP x (List.mem_of_mem_take hx)).1
  refine ⟨Nat.le_trans (h.len_le hsub) hm, ?_⟩
  rw [List.take_succ_eq_append_getElem hk, he]
  exact h.put (by decide) (by decide) r n c hx.2.1 hx.2.2 (h.room hm hsub hx.1)
end Psp
