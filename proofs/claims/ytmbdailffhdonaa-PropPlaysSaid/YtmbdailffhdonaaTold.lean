/- Plain facts on tables: what stands in one is set by what was told, in whichever order. -/
import Derived.Test.YtmbdailffhdonaaPutR
namespace Psp
set_option linter.unusedVariables false
def readyOf' (l : List Told) : List Req := (l.filter (·.ready)).map (·.r)
theorem sorted_eq : ∀ {l l' : List Req}, l.Pairwise (fun a b => cmpR a b < 0) → l'.Pairwise (fun a b => cmpR a b < 0) → (∀ r, r ∈ l ↔ r ∈ l') → l = l'
  | [], [], _, _, _ => rfl
  | [], b :: _, _, _, h => absurd ((h b).2 (by simp)) (by simp)
  | a :: _, [], _, _, h => absurd ((h a).1 (by simp)) (by simp)
  | a :: l, b :: l', h1, h2, h => by
    obtain ⟨p1, p2⟩ := List.pairwise_cons.1 h1
    obtain ⟨q1, q2⟩ := List.pairwise_cons.1 h2
    have e : a = b := by
      rcases List.mem_cons.1 ((h a).1 (by simp)) with e | e
      · exact e
      · rcases List.mem_cons.1 ((h b).2 (by simp)) with e' | e'
        · exact e'.symm
        · have x := q1 a e
          have y := p1 b e'
          have := cmpR_neg a b
          omega
    subst e
    have hirr : ∀ r, cmpR a r < 0 → r ≠ a := fun r hr e => by rw [e, cmpR_self] at hr; omega
    rw [sorted_eq p2 q2 fun r => ⟨fun hr => ((List.mem_cons.1 ((h r).1 (by simp [hr]))).resolve_left (hirr r (p1 r hr))), fun hr => ((List.mem_cons.1 ((h r).2 (by simp [hr]))).resolve_left (hirr r (q1 r hr)))⟩]
/-- What was told: the requests and nodes, all of them in order but for the client. -/
structure Heard (f cl : Int) (P : List (Req × Int)) (l : List Told) : Prop where
  sorted : (reqsOf l).Pairwise (fun a b => cmpR a b < 0)
  mem : ∀ r, r ∈ reqsOf l ↔ (0 ≤ r.c ∧ r.c < cl) ∧ ∃ n, (r, n) ∈ P
  who : ∀ t ∈ l, t.who.length = 13 ∧ ∀ j : Nat, j < 13 → t.who.getD j false = decide ((t.r, (j : Int)) ∈ P)
  ready : ∀ t ∈ l, t.ready = decide (weak f ≤ ((t.who.countP id : Nat) : Int))
theorem isAt_sorted {l : List Told} {r : Req} (hs : (reqsOf l).Pairwise (fun a b => cmpR a b < 0)) (h : isAt l r = false) :
    ∃ A B, l = A ++ B ∧ A.length = pos l r ∧ (∀ a ∈ A, cmpR a.r r < 0) ∧ ∀ b ∈ B, cmpR r b.r < 0 := by
  refine ⟨l.take (pos l r), l.drop (pos l r), (List.take_append_drop _ _).symm, by rw [List.length_take]; have := pos_le l r; omega, fun a ha => ?_, fun b hb => ?_⟩
  · obtain ⟨k, hk, e⟩ := List.mem_iff_getElem.1 ha
    rw [List.length_take] at hk
    rw [List.getElem_take] at e
    rw [← e]
    exact pos_lt (by omega) (by omega)
  · obtain ⟨k, hk, e⟩ := List.mem_iff_getElem.1 hb
    rw [List.length_drop] at hk
    rw [List.getElem_drop] at e
    have hp : pos l r < l.length := by omega
    have h1 := pos_at hp
    rw [isAt_lt rfl hp, decide_eq_false_iff_not] at h
    have h2 : cmpR r l[pos l r].r < 0 := by
      have := cmpR_neg l[pos l r].r r
      have h0 : cmpR l[pos l r].r r ≠ 0 := fun e => h ((cmpR_zero _ _).1 e)
      omega
    rw [← e]
    by_cases hk0 : k = 0
    · subst hk0; exact h2
    · refine cmpR_trans h2 ?_
      have := List.pairwise_iff_getElem.1 hs (pos l r) (pos l r + k) (by unfold reqsOf; rw [List.length_map]; exact hp) (by unfold reqsOf; rw [List.length_map]; omega) (by omega)
      simpa [reqsOf] using this
theorem putAt_who (f : Int) (t : Told) (n c : Int) : (putAt f t n c).1.who = put t.who n := by unfold putAt; split <;> rfl
theorem putAt_ready {f : Int} {t : Told} {n c : Int} (hl : t.who.length = 13) (h : t.ready = decide (weak f ≤ ((t.who.countP id : Nat) : Int))) :
    (putAt f t n c).1.ready = decide (weak f ≤ (((put t.who n).countP id : Nat) : Int)) := by
  have hc := cnt_put hl n
  unfold putAt
  by_cases h1 : weak f ≤ ((t.who.countP id : Nat) : Int)
  · rw [h, decide_eq_true h1, if_neg (by simp)]
    show true = _
    rw [decide_eq_true (by split at hc <;> omega)]
  · rw [h, decide_eq_false h1]
    by_cases h2 : weak f ≤ (((put t.who n).countP id : Nat) : Int)
    · rw [decide_eq_true h2]; rfl
    · rw [decide_eq_false h2]; rfl
theorem put_getD {s : List Bool} (hs : s.length = 13) {n : Int} (h0 : 0 ≤ n) (h1 : n ≤ 12) {j : Nat} (hj : j < 13) : (put s n).getD j false = (s.getD j false || decide ((j : Int) = n)) := by
  unfold put putB
  rw [decide_eq_true h0, decide_eq_true h1]
  cases hg : s.getD n.toNat false with
  | true =>
    rw [if_neg (by simp)]
    by_cases e : (j : Int) = n
    · subst e; rw [Int.toNat_natCast] at hg; rw [hg]; rfl
    · rw [decide_eq_false e, Bool.or_false]
  | false =>
    rw [if_pos (by simp), List.getD_eq_getElem?_getD, List.getElem?_set]
    by_cases e : (j : Int) = n
    · subst e; rw [Int.toNat_natCast, if_pos rfl, if_pos (by omega), decide_eq_true rfl, Bool.or_true]; rfl
    · rw [if_neg (by omega), decide_eq_false e, Bool.or_false, List.getD_eq_getElem?_getD]
theorem mem_one {P : List (Req × Int)} {r x : Req} {n m : Int} : (x, m) ∈ P ++ [(r, n)] ↔ (x, m) ∈ P ∨ (x = r ∧ m = n) := by
  rw [List.mem_append, List.mem_singleton, Prod.mk.injEq]
theorem Heard.fields {f cl : Int} {P : List (Req × Int)} {l : List Told} {t : Told} (hw : t.who.length = 13 ∧ ∀ j : Nat, j < 13 → t.who.getD j false = decide ((t.r, (j : Int)) ∈ P)) (hr : t.ready = decide (weak f ≤ ((t.who.countP id : Nat) : Int))) {n c : Int} (h0 : 0 ≤ n) (h1 : n ≤ 12) :
    ((putAt f t n c).1.who.length = 13 ∧ ∀ j : Nat, j < 13 → (putAt f t n c).1.who.getD j false = decide (((putAt f t n c).1.r, (j : Int)) ∈ P ++ [(t.r, n)])) ∧ (putAt f t n c).1.ready = decide (weak f ≤ (((putAt f t n c).1.who.countP id : Nat) : Int)) := by
  rw [putAt_who, putAt_r]
  refine ⟨⟨by rw [put_len]; exact hw.1, fun j hj => ?_⟩, putAt_ready hw.1 hr⟩
  rw [put_getD hw.1 h0 h1 hj, hw.2 j hj, ← Bool.decide_or]
  congr 1
  exact propext ⟨fun h => mem_one.2 (h.imp id fun e => ⟨rfl, e⟩), fun h => (mem_one.1 h).imp id fun e => e.2⟩
theorem Heard.others {f cl : Int} {P : List (Req × Int)} {t : Told} {r : Req} {n : Int} (hne : t.r ≠ r) (hw : t.who.length = 13 ∧ ∀ j : Nat, j < 13 → t.who.getD j false = decide ((t.r, (j : Int)) ∈ P)) :
    t.who.length = 13 ∧ ∀ j : Nat, j < 13 → t.who.getD j false = decide ((t.r, (j : Int)) ∈ P ++ [(r, n)]) := by
  refine ⟨hw.1, fun j hj => ?_⟩
  rw [hw.2 j hj]
  congr 1
  exact propext ⟨fun h => mem_one.2 (Or.inl h), fun h => (mem_one.1 h).resolve_right fun e => hne e.1⟩
/-- One more is told; there is room. -/
theorem Heard.put {f cl : Int} {P : List (Req × Int)} {l : List Told} (h : Heard f cl P l) (hw : 0 < weak f) (hn13 : nodes f ≤ 13) (r : Req) (n c : Int) (n0 : 0 ≤ n) (n1 : n < nodes f) (hroom : isAt l r = false → cntOf l r.c < 4) :
    Heard f cl (P ++ [(r, n)]) (putP f cl l r n c).2 := by
  by_cases hc : 0 ≤ r.c ∧ r.c < cl
  · have hok : 0 ≤ r.c ∧ r.c < cl ∧ 0 ≤ n ∧ n < nodes f := ⟨hc.1, hc.2, n0, n1⟩
    obtain ⟨t, i1, i2, i3⟩ := insT_at l r
    have hmemP : ∀ x : Req, x ≠ r → ((∃ m, (x, m) ∈ P) ↔ ∃ m, (x, m) ∈ P ++ [(r, n)]) := fun x hx => ⟨fun ⟨m, hm⟩ => ⟨m, mem_one.2 (Or.inl hm)⟩, fun ⟨m, hm⟩ => ⟨m, (mem_one.1 hm).resolve_right fun e => hx e.1⟩⟩
    cases ha : isAt l r with
    | true =>
      have hi : insT l r = l := by unfold insT; rw [ha]; rfl
      have e : (putP f cl l r n c).2 = l.set (pos l r) (putAt f t n c).1 := by
        unfold putP putR
        rw [if_pos hok, ha, if_neg (by simp), i1, hi]
      have i4 := i3 ha
      have hp := isAt_pos ha
      have htr : t.r = r := by
        have := isAt_lt (l := l) (r := r) rfl hp
        rw [ha] at this
        rw [List.getElem?_eq_getElem hp] at i4
        injection i4 with i4
        rw [← i4]
        exact of_decide_eq_true this.symm
      have htl : t ∈ l := List.mem_of_getElem? i4
      have hreq : reqsOf (putP f cl l r n c).2 = reqsOf l := by
        rcases put_R f cl l r n c with ⟨_, e1, _⟩ | ⟨_, e1, _⟩ | ⟨_, _, e1, _⟩ | ⟨_, _, _, e1, _⟩
        · rw [e1]
        · rw [e1]
        · exact e1
        · rw [ha] at e1; cases e1
      have hother : ∀ x ∈ l.set (pos l r) (putAt f t n c).1, x = (putAt f t n c).1 ∨ (x ∈ l ∧ x.r ≠ r) := by
        intro x hx
        obtain ⟨k, hk, e2⟩ := List.mem_iff_getElem.1 hx
        rw [List.length_set] at hk
        rw [List.getElem_set] at e2
        split at e2
        · exact Or.inl e2.symm
        · rename_i hkp
          refine Or.inr ⟨by rw [← e2]; exact List.getElem_mem _, fun hxr => ?_⟩
          rw [← e2] at hxr
          replace hxr := hxr.trans htr.symm
          have hl : (reqsOf l).length = l.length := by unfold reqsOf; rw [List.length_map]
          rw [List.getElem?_eq_getElem hp] at i4
          injection i4 with i4
          rcases Nat.lt_or_gt_of_ne hkp with hlt | hlt
          · have := List.pairwise_iff_getElem.1 h.sorted (pos l r) k (by omega) (by omega) hlt
            simp only [reqsOf, List.getElem_map] at this
            rw [hxr, i4, cmpR_self] at this
            omega
          · have := List.pairwise_iff_getElem.1 h.sorted k (pos l r) (by omega) (by omega) hlt
            simp only [reqsOf, List.getElem_map] at this
            rw [hxr, i4, cmpR_self] at this
            omega
      have hf := Heard.fields (f := f) (cl := cl) (P := P) (l := l) (c := c) (h.who t htl) (h.ready t htl) n0 (by omega : n ≤ 12)
      rw [htr] at hf
      refine ⟨by rw [hreq]; exact h.sorted, fun x => ?_, fun x hx => ?_, fun x hx => ?_⟩
      · rw [hreq, h.mem x]
        by_cases hx : x = r
        · subst hx
          exact ⟨fun a => ⟨a.1, n, mem_one.2 (Or.inr ⟨rfl, rfl⟩)⟩, fun a => ⟨a.1, ((h.mem x).1 (by unfold reqsOf; exact List.mem_map.2 ⟨t, htl, htr⟩)).2⟩⟩
        · rw [hmemP x hx]
      · rw [e] at hx
        rcases hother x hx with rfl | ⟨hx, hne⟩
        · exact hf.1
        · exact Heard.others (f := f) (cl := cl) hne (h.who x hx)
      · rw [e] at hx
        rcases hother x hx with rfl | ⟨hx, hne⟩
        · exact hf.2
        · exact h.ready x hx
    | false =>
      obtain ⟨A, B, hAB, hA, hAlt, hBgt⟩ := isAt_sorted h.sorted ha
      have hi : insT l r = A ++ told0 r :: B := by
        unfold insT; rw [ha, if_neg (by simp), ← hA, hAB, List.take_left, List.drop_left]
      have ht := i2 ha
      have e : (putP f cl l r n c).2 = A ++ (putAt f (told0 r) n c).1 :: B := by
        unfold putP putR
        rw [if_pos hok, ha, if_neg (by have := hroom ha; simp; omega), i1, hi, ht]
        show (A ++ told0 r :: B).set (pos l r) _ = _
        rw [List.set_append_right _ _ (by omega), hA, Nat.sub_self]; rfl
      have hnr : ∀ x ∈ l, x.r ≠ r := by
        intro x hx hxr
        rw [hAB] at hx
        rcases List.mem_append.1 hx with hx | hx
        · have := hAlt x hx; rw [hxr, cmpR_self] at this; omega
        · have := hBgt x hx; rw [hxr, cmpR_self] at this; omega
      have hno : ∀ m, (r, m) ∉ P := fun m hm => by
        obtain ⟨x, hx, hxr⟩ := List.mem_map.1 ((h.mem r).2 ⟨hc, m, hm⟩)
        exact hnr x hx hxr
      have hf := Heard.fields (f := f) (cl := cl) (P := P) (l := l) (t := told0 r) (c := c) ⟨rfl, fun j hj => by
        rw [decide_eq_false (show ¬ ((told0 r).r, (j : Int)) ∈ P from hno _)]
        show (List.replicate 13 false).getD j false = false
        rw [List.getD_eq_getElem?_getD, List.getElem?_replicate, if_pos hj]; rfl⟩ (by
        show false = decide (weak f ≤ ((((List.replicate 13 false).countP id : Nat)) : Int))
        rw [decide_eq_false]; simp; omega) n0 (by omega : n ≤ 12)
      have hs := h.sorted
      unfold reqsOf at hs
      rw [hAB, List.map_append, List.pairwise_append] at hs
      obtain ⟨s1, s2, s3⟩ := hs
      have hmem : ∀ x, x ∈ A ++ (putAt f (told0 r) n c).1 :: B ↔ x = (putAt f (told0 r) n c).1 ∨ x ∈ l := fun x => by
        rw [hAB, List.mem_append, List.mem_append, List.mem_cons]
        constructor
        · rintro (h | h | h)
          · exact Or.inr (Or.inl h)
          · exact Or.inl h
          · exact Or.inr (Or.inr h)
        · rintro (h | h | h)
          · exact Or.inr (Or.inl h)
          · exact Or.inl h
          · exact Or.inr (Or.inr h)
      have hpr : (putAt f (told0 r) n c).1.r = r := putAt_r f (told0 r) n c
      refine ⟨?_, fun x => ?_, fun x hx => ?_, fun x hx => ?_⟩
      · rw [e]
        unfold reqsOf
        rw [List.map_append, List.map_cons, hpr, List.pairwise_append]
        refine ⟨s1, List.pairwise_cons.2 ⟨fun b hb => ?_, s2⟩, fun a hma b hb => ?_⟩
        · obtain ⟨y, hy, rfl⟩ := List.mem_map.1 hb; exact hBgt y hy
        · rcases List.mem_cons.1 hb with eb | hb
          · obtain ⟨y, hy, rfl⟩ := List.mem_map.1 hma; rw [eb]; exact hAlt y hy
          · exact s3 a hma b hb
      · have h1 : x ∈ reqsOf (putP f cl l r n c).2 ↔ x = r ∨ x ∈ reqsOf l := by
          rw [e]
          unfold reqsOf
          rw [List.mem_map, List.mem_map]
          constructor
          · rintro ⟨y, hy, rfl⟩
            rcases (hmem y).1 hy with rfl | hy
            · exact Or.inl hpr
            · exact Or.inr ⟨y, hy, rfl⟩
          · rintro (rfl | ⟨y, hy, rfl⟩)
            · exact ⟨_, (hmem _).2 (Or.inl rfl), hpr⟩
            · exact ⟨y, (hmem y).2 (Or.inr hy), rfl⟩
        rw [h1, h.mem x]
        by_cases hx : x = r
        · subst hx
          exact ⟨fun _ => ⟨hc, n, mem_one.2 (Or.inr ⟨rfl, rfl⟩)⟩, fun _ => Or.inl rfl⟩
        · rw [hmemP x hx]
          exact ⟨fun a => a.resolve_left hx, Or.inr⟩
      · rw [e] at hx
        rcases (hmem x).1 hx with rfl | hx
        · exact hf.1
        · exact Heard.others (f := f) (cl := cl) (hnr x hx) (h.who x hx)
      · rw [e] at hx
        rcases (hmem x).1 hx with rfl | hx
        · exact hf.2
        · exact h.ready x hx
  · have e : (putP f cl l r n c).2 = l := by unfold putP; rw [if_neg fun x => hc ⟨x.1, x.2.1⟩]
    have hnr : ∀ x ∈ l, x.r ≠ r := fun x hx hxr => hc (by
      have := ((h.mem x.r).1 (by unfold reqsOf; exact List.mem_map.2 ⟨x, hx, rfl⟩)).1
      rwa [hxr] at this)
    rw [e]
    refine ⟨h.sorted, fun x => ?_, fun x hx => Heard.others (f := f) (cl := cl) (hnr x hx) (h.who x hx), h.ready⟩
    rw [h.mem x]
    refine and_congr_right fun hx => ?_
    have hxr : x ≠ r := fun e => hc (by rw [← e]; exact hx)
    exact ⟨fun ⟨m, hm⟩ => ⟨m, mem_one.2 (Or.inl hm)⟩, fun ⟨m, hm⟩ => ⟨m, (mem_one.1 hm).resolve_right fun e => hxr e.1⟩⟩
theorem Heard.nil (f cl : Int) : Heard f cl [] [] := ⟨List.Pairwise.nil, fun r => ⟨fun h => by simp [reqsOf] at h, fun ⟨_, n, h⟩ => by simp at h⟩, fun t h => by simp at h, fun t h => by simp at h⟩
/-- Told the same: the same stand there and the same are ready. -/
theorem Heard.same {f cl : Int} {P Q : List (Req × Int)} {l m : List Told} (h : Heard f cl P l) (g : Heard f cl Q m) (hPQ : ∀ x, x ∈ P ↔ x ∈ Q) : reqsOf l = reqsOf m ∧ readyOf' l = readyOf' m := by
  have e := sorted_eq h.sorted g.sorted fun r => by
    rw [h.mem, g.mem]
    exact and_congr_right fun _ => ⟨fun ⟨n, hn⟩ => ⟨n, (hPQ _).1 hn⟩, fun ⟨n, hn⟩ => ⟨n, (hPQ _).2 hn⟩⟩
  refine ⟨e, ?_⟩
  let rd : Req → Bool := fun r => decide (weak f ≤ ((((List.range 13).map fun j : Nat => decide ((r, (j : Int)) ∈ P)).countP id : Nat) : Int))
  have key : ∀ {R : List (Req × Int)} {k : List Told}, Heard f cl R k → (∀ x, x ∈ R ↔ x ∈ P) → readyOf' k = (reqsOf k).filter rd := by
    intro R k hk hR
    unfold readyOf' reqsOf
    rw [List.filter_map]
    congr 1
    refine List.filter_congr fun t ht => ?_
    obtain ⟨w1, w2⟩ := hk.who t ht
    have : t.who = (List.range 13).map fun j : Nat => decide ((t.r, (j : Int)) ∈ P) := by
      refine List.ext_getElem (by simp [w1]) fun j a b => ?_
      have := w2 j (by omega)
      rw [List.getD_eq_getElem?_getD, List.getElem?_eq_getElem a] at this
      rw [List.getElem_map, List.getElem_range]
      exact this.trans (by congr 1; exact propext (hR _))
    rw [hk.ready t ht, this]; rfl
  rw [key h fun _ => Iff.rfl, key g fun x => (hPQ x).symm, e]
end Psp
