/- The document's table and the program's, in plain words: one is made of the other, and stays so. -/
import Derived.Test.YtmbdailffhdonaaTold
namespace Psp
set_option linter.unusedVariables false
/-- A request in the document's table: who told it, since when it is ready. -/
structure TR where
  r : Req
  ns : List Int
  since : Int
def whoOf (ns : List Int) : List Bool := (List.range 13).map fun j => decide (((j : Nat) : Int) ∈ ns)
def rdyR (f : Int) (u : TR) : Bool := decide (weak f ≤ (u.ns.length : Int))
/-- What the program has of it. -/
def tw (f : Int) (u : TR) : Told := ⟨u.r, whoOf u.ns, rdyR f u, if rdyR f u = true then u.since else 0⟩
def rsOf (m : List TR) : List Req := m.map (·.r)
structure Wm (f : Int) (m : List TR) : Prop where
  sorted : (rsOf m).Pairwise (fun a b => cmpR a b < 0)
  ns : ∀ u ∈ m, u.ns.Nodup ∧ ∀ n ∈ u.ns, 0 ≤ n ∧ n < nodes f
theorem tw_rs (f : Int) (m : List TR) : reqsOf (m.map (tw f)) = rsOf m := by unfold reqsOf rsOf; rw [List.map_map]; rfl
theorem who_len (ns : List Int) : (whoOf ns).length = 13 := by simp [whoOf]
theorem who_get (ns : List Int) {j : Nat} (hj : j < 13) : (whoOf ns).getD j false = decide ((j : Int) ∈ ns) := by
  unfold whoOf
  rw [List.getD_eq_getElem?_getD, List.getElem?_map, List.getElem?_range hj]; rfl
theorem who_cnt : ∀ (ns : List Int), ns.Nodup → (∀ n ∈ ns, 0 ≤ n ∧ n < 13) → (whoOf ns).countP id = ns.length
  | [], _, _ => by decide
  | n :: ns, hd, hb => by
    obtain ⟨h1, h2⟩ := List.nodup_cons.1 hd
    have ih := who_cnt ns h2 fun x hx => hb x (List.mem_cons_of_mem _ hx)
    obtain ⟨b0, b1⟩ := hb n List.mem_cons_self
    have e : whoOf (n :: ns) = put (whoOf ns) n := by
      refine List.ext_getElem (by rw [put_len, who_len, who_len]) fun j ha hc => ?_
      have hj : j < 13 := by rw [who_len] at ha; exact ha
      have h3 := who_get (n :: ns) hj
      have h4 := put_getD (who_len ns) b0 (by omega) hj
      rw [List.getD_eq_getElem?_getD, List.getElem?_eq_getElem ha] at h3
      rw [List.getD_eq_getElem?_getD, List.getElem?_eq_getElem hc] at h4
      have h3' : (whoOf (n :: ns))[j] = decide ((j : Int) ∈ n :: ns) := h3
      have h4' : (put (whoOf ns) n)[j] = ((whoOf ns).getD j false || decide ((j : Int) = n)) := h4
      refine h3'.trans (Eq.trans ?_ h4'.symm)
      rw [who_get ns hj, ← Bool.decide_or]
      congr 1
      exact propext ⟨fun h => (List.mem_cons.1 h).symm, fun h => List.mem_cons.2 h.symm⟩
    rw [e, cnt_put (who_len ns), ih]
    have : putB (whoOf ns) n = true := by
      unfold putB
      rw [decide_eq_true b0, decide_eq_true (by omega), who_get ns (by omega)]
      have : ((n.toNat : Nat) : Int) = n := by omega
      rw [this, decide_eq_false h1]; rfl
    rw [if_pos this]; rfl
theorem who_put {ns : List Int} {n : Int} (b0 : 0 ≤ n) (b1 : n ≤ 12) : put (whoOf ns) n = whoOf (if n ∈ ns then ns else ns ++ [n]) := by
  refine List.ext_getElem (by rw [put_len, who_len, who_len]) fun j ha hc => ?_
  have hj : j < 13 := by rw [who_len] at hc; exact hc
  have h3 := who_get (if n ∈ ns then ns else ns ++ [n]) hj
  have h4 := put_getD (who_len ns) b0 b1 hj
  rw [List.getD_eq_getElem?_getD, List.getElem?_eq_getElem hc] at h3
  rw [List.getD_eq_getElem?_getD, List.getElem?_eq_getElem ha] at h4
  have h3' : (whoOf (if n ∈ ns then ns else ns ++ [n]))[j] = decide ((j : Int) ∈ if n ∈ ns then ns else ns ++ [n]) := h3
  have h4' : (put (whoOf ns) n)[j] = ((whoOf ns).getD j false || decide ((j : Int) = n)) := h4
  refine h4'.trans (Eq.trans ?_ h3'.symm)
  rw [who_get ns hj, ← Bool.decide_or]
  congr 1
  apply propext
  by_cases hn : n ∈ ns
  · rw [if_pos hn]
    exact ⟨fun h => h.elim id fun e => e ▸ hn, Or.inl⟩
  · rw [if_neg hn]
    simp
/-- A node tells it. -/
def tellR (f : Int) (u : TR) (n c : Int) : TR × Bool :=
  if n ∈ u.ns then (u, false) else if (((u.ns ++ [n]).length : Nat) : Int) = weak f then (⟨u.r, u.ns ++ [n], c⟩, true) else (⟨u.r, u.ns ++ [n], u.since⟩, false)
theorem tellR_r (f : Int) (u : TR) (n c : Int) : (tellR f u n c).1.r = u.r := by unfold tellR; split; rfl; split <;> rfl
theorem tellR_ns (f : Int) (u : TR) (n c : Int) : (tellR f u n c).1.ns = if n ∈ u.ns then u.ns else u.ns ++ [n] := by unfold tellR; split; rfl; split <;> rfl
theorem putAt_tw {f : Int} {u : TR} {n c : Int} (hd : u.ns.Nodup) (hb : ∀ n ∈ u.ns, 0 ≤ n ∧ n < 13) (b0 : 0 ≤ n) (b1 : n < 13) : putAt f (tw f u) n c = (tw f (tellR f u n c).1, (tellR f u n c).2) := by
  have hw : put (tw f u).who n = whoOf (if n ∈ u.ns then u.ns else u.ns ++ [n]) := who_put b0 (by omega)
  have hnd : (if n ∈ u.ns then u.ns else u.ns ++ [n]).Nodup ∧ ∀ x ∈ (if n ∈ u.ns then u.ns else u.ns ++ [n]), 0 ≤ x ∧ x < 13 := by
    by_cases hn : n ∈ u.ns
    · rw [if_pos hn]; exact ⟨hd, hb⟩
    · rw [if_neg hn]
      refine ⟨List.nodup_append.2 ⟨hd, by simp, fun a ha b hb' => by rw [List.mem_singleton.1 hb']; rintro rfl; exact hn ha⟩, fun x hx => ?_⟩
      rcases List.mem_append.1 hx with h | h
      · exact hb x h
      · rw [List.mem_singleton.1 h]; exact ⟨b0, b1⟩
  have hc := who_cnt _ hnd.1 hnd.2
  by_cases hn : n ∈ u.ns
  · rw [if_pos hn] at hw hc
    have e : tellR f u n c = (u, false) := by unfold tellR; rw [if_pos hn]
    rw [e]
    unfold putAt
    rw [hw, hc]
    show (if (!rdyR f u && decide (weak f ≤ (u.ns.length : Int))) = true then ((⟨u.r, whoOf u.ns, true, c⟩ : Told), true) else (⟨u.r, whoOf u.ns, rdyR f u, if rdyR f u = true then u.since else 0⟩, false)) = (tw f u, false)
    rw [show (!rdyR f u && decide (weak f ≤ (u.ns.length : Int))) = false from by unfold rdyR; cases decide (weak f ≤ (u.ns.length : Int)) <;> rfl, if_neg (by simp)]
    rfl
  · rw [if_neg hn] at hw hc
    have hl : (((u.ns ++ [n]).length : Nat) : Int) = u.ns.length + 1 := by rw [List.length_append]; rfl
    unfold putAt
    rw [hw, hc]
    show (if (!rdyR f u && decide (weak f ≤ (((u.ns ++ [n]).length : Nat) : Int))) = true then ((⟨u.r, whoOf (u.ns ++ [n]), true, c⟩ : Told), true) else (⟨u.r, whoOf (u.ns ++ [n]), rdyR f u, if rdyR f u = true then u.since else 0⟩, false)) = _
    by_cases h1 : weak f ≤ (u.ns.length : Int)
    · have e1 : rdyR f u = true := decide_eq_true h1
      have e2 : rdyR f ⟨u.r, u.ns ++ [n], u.since⟩ = true := decide_eq_true (by show weak f ≤ (((u.ns ++ [n]).length : Nat) : Int); omega)
      have e : tellR f u n c = (⟨u.r, u.ns ++ [n], u.since⟩, false) := by unfold tellR; rw [if_neg hn, if_neg (by omega)]
      rw [e, e1, if_neg (by simp), if_pos rfl]
      show _ = ((⟨u.r, whoOf (u.ns ++ [n]), rdyR f ⟨u.r, u.ns ++ [n], u.since⟩, if rdyR f ⟨u.r, u.ns ++ [n], u.since⟩ = true then u.since else 0⟩ : Told), false)
      rw [e2, if_pos rfl]
    · have e1 : rdyR f u = false := decide_eq_false h1
      by_cases h2 : (((u.ns ++ [n]).length : Nat) : Int) = weak f
      · have e2 : rdyR f ⟨u.r, u.ns ++ [n], c⟩ = true := decide_eq_true (by show weak f ≤ (((u.ns ++ [n]).length : Nat) : Int); omega)
        have e : tellR f u n c = (⟨u.r, u.ns ++ [n], c⟩, true) := by unfold tellR; rw [if_neg hn, if_pos h2]
        rw [e, e1, decide_eq_true (show weak f ≤ (((u.ns ++ [n]).length : Nat) : Int) by omega), if_pos (by rfl)]
        show _ = ((⟨u.r, whoOf (u.ns ++ [n]), rdyR f ⟨u.r, u.ns ++ [n], c⟩, if rdyR f ⟨u.r, u.ns ++ [n], c⟩ = true then c else 0⟩ : Told), true)
        rw [e2, if_pos rfl]
      · have e2 : rdyR f ⟨u.r, u.ns ++ [n], u.since⟩ = false := decide_eq_false (by show ¬ weak f ≤ (((u.ns ++ [n]).length : Nat) : Int); omega)
        have e : tellR f u n c = (⟨u.r, u.ns ++ [n], u.since⟩, false) := by unfold tellR; rw [if_neg hn, if_neg h2]
        rw [e, e1, decide_eq_false (show ¬ weak f ≤ (((u.ns ++ [n]).length : Nat) : Int) by omega), if_neg (by simp), if_neg (by simp)]
        show _ = ((⟨u.r, whoOf (u.ns ++ [n]), rdyR f ⟨u.r, u.ns ++ [n], u.since⟩, if rdyR f ⟨u.r, u.ns ++ [n], u.since⟩ = true then u.since else 0⟩ : Told), false)
        rw [e2, if_neg (by simp)]
/-- Where a request stands, or would stand. -/
def posR (rs : List Req) (r : Req) : Nat := (rs.takeWhile fun t => decide (cmpR t r < 0)).length
theorem pos_rs (l : List Told) (r : Req) : pos l r = posR (reqsOf l) r := by
  unfold pos posR reqsOf
  induction l with
  | nil => rfl
  | cons t l ih => rw [List.map_cons, List.takeWhile_cons, List.takeWhile_cons]; split <;> simp [ih]
theorem posR_le (rs : List Req) (r : Req) : posR rs r ≤ rs.length := by
  unfold posR
  induction rs with
  | nil => simp
  | cons t l ih => rw [List.takeWhile_cons]; split <;> simp <;> omega
theorem posR_lt {r : Req} : ∀ {l : List Req} {k : Nat} (_ : k < posR l r) (hk : k < l.length), cmpR l[k] r < 0
  | t :: l, k, h, hk => by
    unfold posR at h
    rw [List.takeWhile_cons] at h
    by_cases hc : cmpR t r < 0
    · rw [if_pos (by simpa using hc)] at h
      cases k with
      | zero => exact hc
      | succ k => exact posR_lt (l := l) (by unfold posR; simp at h; exact h) (by simpa using hk)
    · rw [if_neg (by simpa using hc)] at h; simp at h
theorem posR_at {r : Req} : ∀ {l : List Req} (hk : posR l r < l.length), ¬ cmpR l[posR l r] r < 0
  | t :: l, hk => by
    by_cases hc : cmpR t r < 0
    · have e : posR (t :: l) r = posR l r + 1 := by unfold posR; rw [List.takeWhile_cons, if_pos (by simpa using hc)]; rfl
      have h2 : posR l r < l.length := by rw [e] at hk; simpa using hk
      have := posR_at (l := l) h2
      simpa [e] using this
    · have e : posR (t :: l) r = 0 := by unfold posR; rw [List.takeWhile_cons, if_neg (by simpa using hc)]; rfl
      simpa [e] using hc
theorem posR_is {rs : List Req} {r : Req} {k : Nat} (hs : rs.Pairwise (fun a b => cmpR a b < 0)) (hk : k ≤ rs.length) (h1 : ∀ j (hj : j < rs.length), j < k → cmpR rs[j] r < 0) (h2 : ∀ hj : k < rs.length, ¬ cmpR rs[k] r < 0) : posR rs r = k := by
  rcases Nat.lt_trichotomy (posR rs r) k with h | h | h
  · have h3 : posR rs r < rs.length := by omega
    exact absurd (h1 _ h3 h) (posR_at h3)
  · exact h
  · have := posR_le rs r
    have h3 : k < rs.length := by omega
    exact absurd (posR_lt h h3) (h2 h3)
def isR (m : List TR) (r : Req) : Bool := decide (r ∈ rsOf m)
theorem posR_mem {rs : List Req} {r : Req} {k : Nat} (hs : rs.Pairwise (fun a b => cmpR a b < 0)) (hk : k < rs.length) (he : rs[k] = r) : posR rs r = k := by
  refine posR_is hs (by omega) (fun j hj hjk => ?_) fun _ => by rw [he, cmpR_self]; omega
  have := List.pairwise_iff_getElem.1 hs j k hj hk hjk
  rwa [he] at this
theorem isAt_R {f : Int} {m : List TR} (h : Wm f m) (r : Req) : isAt (m.map (tw f)) r = isR m r := by
  unfold isR
  by_cases hm : r ∈ rsOf m
  · rw [decide_eq_true hm]
    obtain ⟨k, hk, he⟩ := List.mem_iff_getElem.1 hm
    have hp : pos (m.map (tw f)) r = k := by rw [pos_rs, tw_rs]; exact posR_mem h.sorted hk he
    have hkm : k < (m.map (tw f)).length := by unfold rsOf at hk; simpa using hk
    rw [isAt_lt hp hkm, decide_eq_true_eq, List.getElem_map]
    simpa [rsOf, tw] using he
  · rw [decide_eq_false hm]
    cases ha : isAt (m.map (tw f)) r with
    | false => rfl
    | true =>
      exfalso
      obtain ⟨t, ht, he⟩ := isAt_mem ha
      obtain ⟨u, hu, rfl⟩ := List.mem_map.1 ht
      exact hm (List.mem_map.2 ⟨u, hu, he⟩)
def newR (r : Req) : TR := ⟨r, [], -1⟩
theorem tw_new {f : Int} (hw : 0 < weak f) (r : Req) : tw f (newR r) = told0 r := by
  have e : rdyR f (newR r) = false := decide_eq_false (by show ¬ weak f ≤ (([] : List Int).length : Int); simp; omega)
  unfold tw
  rw [e]
  show (⟨r, whoOf [], false, 0⟩ : Told) = ⟨r, List.replicate 13 false, false, 0⟩
  rfl
def cntR (m : List TR) (c : Int) : Nat := m.countP (fun u => decide (u.r.c = c))
def insM (m : List TR) (r : Req) : List TR := if isR m r = true then m else m.take (posR (rsOf m) r) ++ newR r :: m.drop (posR (rsOf m) r)
/-- What the document's Put does. -/
def putM (f cl : Int) (m : List TR) (r : Req) (n c : Int) : (Bool × Bool × Int) × List TR :=
  if 0 ≤ r.c ∧ r.c < cl ∧ 0 ≤ n ∧ n < nodes f then
    if isR m r = false ∧ 4 ≤ cntR m r.c then ((false, false, 3), m)
    else match (insM m r)[posR (rsOf m) r]? with
      | some u => ((!isR m r, (tellR f u n c).2, 0), (insM m r).set (posR (rsOf m) r) (tellR f u n c).1)
      | none => ((false, false, 0), m)
  else ((false, false, 1), m)
theorem ins_tw {f : Int} {m : List TR} (hw : 0 < weak f) (h : Wm f m) (r : Req) : insT (m.map (tw f)) r = (insM m r).map (tw f) := by
  unfold insT insM
  rw [isAt_R h, pos_rs, tw_rs]
  cases isR m r with
  | true => rfl
  | false => rw [if_neg (by simp), if_neg (by simp), List.map_append, List.map_cons, List.map_take, List.map_drop, tw_new hw]
theorem ins_mem {m : List TR} {r : Req} {u : TR} (h : u ∈ insM m r) : u ∈ m ∨ u = newR r := by
  unfold insM at h
  split at h
  · exact .inl h
  · rcases List.mem_append.1 h with h | h
    · exact .inl (List.mem_of_mem_take h)
    · rcases List.mem_cons.1 h with h | h
      · exact .inr h
      · exact .inl (List.mem_of_mem_drop h)
theorem ins_at {m : List TR} {f : Int} (hm : Wm f m) (r : Req) : ∃ u, (insM m r)[posR (rsOf m) r]? = some u ∧ u.r = r ∧ (isR m r = false → u = newR r) ∧ (isR m r = true → m[posR (rsOf m) r]? = some u) := by
  have hl : (rsOf m).length = m.length := by unfold rsOf; simp
  unfold insM
  cases h : isR m r with
  | true =>
    obtain ⟨k, hk, he⟩ := List.mem_iff_getElem.1 (of_decide_eq_true h)
    have hp := posR_mem hm.sorted hk he
    have hkm : k < m.length := by omega
    rw [if_pos rfl, hp, List.getElem?_eq_getElem hkm]
    exact ⟨_, rfl, by simpa [rsOf] using he, fun h => (by cases h), fun _ => rfl⟩
  | false =>
    have hp := posR_le (rsOf m) r
    rw [if_neg (by simp), List.getElem?_append_right (by rw [List.length_take]; omega), List.length_take, show posR (rsOf m) r - min (posR (rsOf m) r) m.length = 0 by omega]
    exact ⟨_, rfl, rfl, fun _ => rfl, fun h => (by cases h)⟩
theorem rs_set {l : List TR} {k : Nat} {u x : TR} (h : l[k]? = some u) (hx : x.r = u.r) : rsOf (l.set k x) = rsOf l := by
  have hk := (List.getElem?_eq_some_iff.1 h).1
  unfold rsOf
  rw [List.map_set, hx]
  apply List.ext_getElem?
  intro j
  rw [List.getElem?_set]
  split
  · rename_i e
    subst e
    rw [if_pos (by simpa using hk), List.getElem?_map, h]; rfl
  · rfl
theorem nodes13 {f : Int} : nodes f ≤ 13 := by unfold nodes; split <;> omega
theorem Wm.tell {f : Int} {u : TR} {n c : Int} (hd : u.ns.Nodup ∧ ∀ n ∈ u.ns, 0 ≤ n ∧ n < nodes f) (b0 : 0 ≤ n) (b1 : n < nodes f) : (tellR f u n c).1.ns.Nodup ∧ ∀ x ∈ (tellR f u n c).1.ns, 0 ≤ x ∧ x < nodes f := by
  rw [tellR_ns]
  by_cases hn : n ∈ u.ns
  · rw [if_pos hn]; exact hd
  · rw [if_neg hn]
    refine ⟨List.nodup_append.2 ⟨hd.1, by simp, fun a ha b hb' => by rw [List.mem_singleton.1 hb']; rintro rfl; exact hn ha⟩, fun x hx => ?_⟩
    rcases List.mem_append.1 hx with h | h
    · exact hd.2 x h
    · rw [List.mem_singleton.1 h]; exact ⟨b0, b1⟩
theorem put_tw {f cl : Int} {m : List TR} (hw : 0 < weak f) (h : Wm f m) (r : Req) (n c : Int) :
    putP f cl (m.map (tw f)) r n c = ((putM f cl m r n c).1, (putM f cl m r n c).2.map (tw f)) ∧ Wm f (putM f cl m r n c).2 ∧ (putM f cl m r n c).2.length ≤ m.length + 1 := by
  unfold putP putM
  by_cases hok : 0 ≤ r.c ∧ r.c < cl ∧ 0 ≤ n ∧ n < nodes f
  · rw [if_pos hok, if_pos hok]
    unfold putR
    have hcnt : cntOf (m.map (tw f)) r.c = cntR m r.c := by unfold cntOf cntR; rw [List.countP_map]; rfl
    rw [isAt_R h, hcnt, ins_tw hw h, pos_rs, tw_rs]
    obtain ⟨u, h1, h2, h3, h4⟩ := ins_at h r
    by_cases hf : isR m r = false ∧ 4 ≤ cntR m r.c
    · rw [if_pos hf, if_pos (by rw [hf.1, decide_eq_true hf.2]; rfl)]
      exact ⟨rfl, h, Nat.le_succ _⟩
    · rw [if_neg hf, if_neg (by
        cases hi : isR m r with
        | true => simp
        | false => rw [decide_eq_false (fun hh => hf ⟨hi, hh⟩)]; simp), List.getElem?_map, h1]
      have hu : u.ns.Nodup ∧ ∀ n ∈ u.ns, 0 ≤ n ∧ n < nodes f := by
        rcases ins_mem (List.mem_of_getElem? h1) with hh | hh
        · exact h.ns u hh
        · rw [hh]; exact ⟨List.nodup_nil, fun n hn => (by cases hn)⟩
      have hp := putAt_tw (f := f) (u := u) (n := n) (c := c) hu.1 (fun x hx => ⟨(hu.2 x hx).1, by have := (hu.2 x hx).2; have := nodes13 (f := f); omega⟩) hok.2.2.1 (by have := nodes13 (f := f); omega)
      refine ⟨?_, ⟨?_, fun x hx => ?_⟩, ?_⟩
      · show ((!isR m r, (putAt f (tw f u) n c).2, 0), ((insM m r).map (tw f)).set (posR (rsOf m) r) (putAt f (tw f u) n c).1) = _
        rw [hp]
        dsimp only
        rw [← List.map_set]
      · show (rsOf ((insM m r).set (posR (rsOf m) r) (tellR f u n c).1)).Pairwise _
        have e : rsOf ((insM m r).set (posR (rsOf m) r) (tellR f u n c).1) = rsOf (insM m r) := rs_set h1 (tellR_r f u n c)
        rw [e]
        unfold insM
        cases hi : isR m r with
        | true => exact h.sorted
        | false =>
          rw [if_neg (by simp)]
          have hs := h.sorted
          obtain ⟨A, B, hAB, hA1, hA2, hB⟩ := isAt_sorted (l := m.map (tw f)) (r := r) (by rw [tw_rs]; exact hs) (by rw [isAt_R h]; exact hi)
          have hpe : pos (m.map (tw f)) r = posR (rsOf m) r := by rw [pos_rs, tw_rs]
          have eA : A.map (·.r) = rsOf (m.take (posR (rsOf m) r)) := by
            have : A = (m.map (tw f)).take (posR (rsOf m) r) := by rw [hAB, ← hpe, ← hA1, List.take_left']; rfl
            rw [this, ← List.map_take]
            unfold rsOf; rw [List.map_map]; rfl
          have eB : B.map (·.r) = rsOf (m.drop (posR (rsOf m) r)) := by
            have : B = (m.map (tw f)).drop (posR (rsOf m) r) := by rw [hAB, ← hpe, ← hA1, List.drop_left']; rfl
            rw [this, ← List.map_drop]
            unfold rsOf; rw [List.map_map]; rfl
          have hsplit : rsOf m = rsOf (m.take (posR (rsOf m) r)) ++ rsOf (m.drop (posR (rsOf m) r)) := by
            unfold rsOf; rw [← List.map_append, List.take_append_drop]
          rw [hsplit] at hs
          obtain ⟨s1, s2, s3⟩ := List.pairwise_append.1 hs
          have e2 : rsOf (m.take (posR (rsOf m) r) ++ newR r :: m.drop (posR (rsOf m) r)) = rsOf (m.take (posR (rsOf m) r)) ++ r :: rsOf (m.drop (posR (rsOf m) r)) := by unfold rsOf; rw [List.map_append]; rfl
          rw [e2]
          refine List.pairwise_append.2 ⟨s1, List.pairwise_cons.2 ⟨fun b hb => ?_, s2⟩, fun a ha b hb => ?_⟩
          · rw [← eB] at hb
            obtain ⟨t, ht, rfl⟩ := List.mem_map.1 hb
            exact hB t ht
          · rcases List.mem_cons.1 hb with hb | hb
            · subst hb
              rw [← eA] at ha
              obtain ⟨t, ht, rfl⟩ := List.mem_map.1 ha
              exact hA2 t ht
            · exact s3 a ha b hb
      · have hx' : x ∈ insM m r ∨ x = (tellR f u n c).1 := List.mem_or_eq_of_mem_set hx
        rcases hx' with hx' | hx'
        · rcases ins_mem hx' with hh | hh
          · exact h.ns x hh
          · rw [hh]; exact ⟨List.nodup_nil, fun n hn => (by cases hn)⟩
        · rw [hx']; exact Wm.tell hu hok.2.2.1 hok.2.2.2
      · show ((insM m r).set _ _).length ≤ _
        rw [List.length_set]
        unfold insM
        split
        · omega
        · rw [List.length_append, List.length_cons, List.length_take, List.length_drop]; omega
  · rw [if_neg hok, if_neg hok]
    exact ⟨rfl, h, Nat.le_succ _⟩
def keepsR (c tm : Int) (u : TR) : Bool := decide (u.r.c ≠ c) || decide (u.r.t > tm)
def dropM (c tm : Int) (m : List TR) : List TR := m.filter (keepsR c tm)
theorem Wm.drop {f : Int} {m : List TR} (h : Wm f m) (c tm : Int) : Wm f (dropM c tm m) := by
  refine ⟨?_, fun u hu => h.ns u (List.mem_filter.1 hu).1⟩
  have : (rsOf (dropM c tm m)).Sublist (rsOf m) := List.Sublist.map _ List.filter_sublist
  exact h.sorted.sublist this
def hasM (m : List TR) (r : Req) (n : Int) : Bool := isR m r && (match m[posR (rsOf m) r]? with | some u => decide (n ∈ u.ns) | none => false)
theorem has_tw {f : Int} {m : List TR} (h : Wm f m) (r : Req) (n : Int) : hasOf (m.map (tw f)) r n = hasM m r n := by
  unfold hasOf hasM
  rw [isAt_R h, pos_rs, tw_rs, List.getElem?_map]
  cases hi : isR m r with
  | false => rfl
  | true =>
    cases hm : m[posR (rsOf m) r]? with
    | none => rfl
    | some u =>
      show (true && hasB (whoOf u.ns) n) = (true && decide (n ∈ u.ns))
      have hb := (h.ns u (List.mem_of_getElem? hm)).2
      unfold hasB
      by_cases h0 : 0 ≤ n
      · by_cases h1 : n ≤ 12
        · rw [decide_eq_true h0, decide_eq_true h1, who_get u.ns (by omega)]
          have : ((n.toNat : Nat) : Int) = n := by omega
          rw [this]; rfl
        · rw [decide_eq_true h0, decide_eq_false h1]
          have : ¬ n ∈ u.ns := fun hn => by have := (hb n hn).2; have := nodes13 (f := f); omega
          rw [decide_eq_false this]; rfl
      · rw [decide_eq_false h0]
        have : ¬ n ∈ u.ns := fun hn => by have := (hb n hn).1; omega
        rw [decide_eq_false this]; rfl
theorem since_tw {f : Int} {m : List TR} (h : Wm f m) {k : Nat} (hk : k < m.length) : sinceOf (m.map (tw f)) m[k].r = (if rdyR f m[k] = true then m[k].since else 0, rdyR f m[k]) := by
  have hkr : k < (rsOf m).length := by unfold rsOf; simpa using hk
  have hek : (rsOf m)[k] = m[k].r := by simp [rsOf]
  have hp : posR (rsOf m) m[k].r = k := posR_mem h.sorted hkr hek
  have hi : isR m m[k].r = true := decide_eq_true (by rw [← hek]; exact List.getElem_mem hkr)
  unfold sinceOf
  rw [pos_rs, tw_rs, hp, List.getElem?_map, List.getElem?_eq_getElem hk, isAt_R h, hi]
  show (if (true && rdyR f m[k]) = true then ((if rdyR f m[k] = true then m[k].since else 0), true) else (0, false)) = _
  cases rdyR f m[k] <;> rfl
theorem has_at {f : Int} {m : List TR} (h : Wm f m) {k : Nat} (hk : k < m.length) (n : Int) : hasM m m[k].r n = decide (n ∈ m[k].ns) := by
  have hkr : k < (rsOf m).length := by unfold rsOf; simpa using hk
  have hek : (rsOf m)[k] = m[k].r := by simp [rsOf]
  have hp : posR (rsOf m) m[k].r = k := posR_mem h.sorted hkr hek
  have hi : isR m m[k].r = true := decide_eq_true (by rw [← hek]; exact List.getElem_mem hkr)
  unfold hasM
  rw [hi, hp, List.getElem?_eq_getElem hk]; rfl
def rdyL (f : Int) (m : List TR) : List Req := rsOf (m.filter (rdyR f))
theorem all_tw (f : Int) (m : List TR) : (m.map (tw f)).map (·.r) = rsOf m := tw_rs f m
end Psp
namespace Go.Proofs.Ytmbdailffhdonaa
open Psp
theorem drop_tw (f c tm : Int) (m : List TR) : dropOf c tm (m.map (tw f)) = (dropM c tm m).map (tw f) := by
  unfold dropOf dropM
  rw [List.filter_map]
  rfl
theorem ready_tw (f : Int) (m : List TR) : readyOf (m.map (tw f)) = rdyL f m := by
  unfold readyOf rdyL rsOf
  rw [List.filter_map, List.map_map]
  rfl
end Go.Proofs.Ytmbdailffhdonaa
