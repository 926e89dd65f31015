/- The walk of Table.Put, where its arguments are in order. -/
import Derived.Test.YtmbdailffhdonaaTab6
namespace Psp
def putR (f : Int) (l : List Told) (r : Req) (n clock : Int) : (Bool × Bool × Int) × List Told :=
  if !isAt l r && decide (4 ≤ cntOf l r.c) then ((false, false, 3), l)
  else match (insT l r)[pos l r]? with
    | some t => ((!isAt l r, (putAt f t n clock).2, 0), (insT l r).set (pos l r) (putAt f t n clock).1)
    | none => ((false, false, 0), l)
def toldZ : Told := ⟨⟨0, 0, 0, 0, 0, 0⟩, List.replicate 13 false, false, 0⟩
theorem ins_list (l : List Told) (r : Req) (q : Nat) (hq : q ≤ l.length) :
    (((l ++ [toldZ]).take (q + 1) ++ (l.drop q ++ (l ++ [toldZ]).drop (q + 1 + (l.drop q).length))).take q ++ ([told0 r] ++ ((l ++ [toldZ]).take (q + 1) ++ (l.drop q ++ (l ++ [toldZ]).drop (q + 1 + (l.drop q).length))).drop (q + 1))) = l.take q ++ told0 r :: l.drop q := by
  have h1 : (l ++ [toldZ]).drop (q + 1 + (l.drop q).length) = [] := List.drop_eq_nil_of_le (by simp; omega)
  have h2 : ((l ++ [toldZ]).take (q + 1)).length = q + 1 := by simp; omega
  rw [h1, List.append_nil, List.take_append_of_le_length (by omega), List.take_take, List.drop_append_of_le_length (by omega), List.drop_of_length_le (by omega), Nat.min_eq_left (by omega), List.take_append_of_le_length hq]
  simp
end Psp
namespace Go.Proofs.Ytmbdailffhdonaa
open Go.RowKit
set_option linter.unusedVariables false

section
variable {w : World} {S : Nat → Prop} {g : Nat} {f cl : Int} {l : List Psp.Told}
theorem Tab.wider {S' : Nat → Prop} (h : Tab w S g f cl l) (hs : ∀ k, S k → S' k) (hl : ∀ k, S' k → k < w.heap.size) : Tab w S' g f cl l := by
  obtain ⟨v, h1, h2, h3⟩ := h.ex
  exact ⟨⟨v, h1, h2, fun k hk => hs k (h3 k hk)⟩, hs g h.own, hl, h.who, h.len⟩
theorem Tab.slice {b c n : Nat} (h : Tab w S g f cl l) (hv : w.cell? ⟨g, 2, none⟩ = some (.slice (some ⟨b, 0, none⟩) n c)) :
    w.heap[g]? = some (.cells #[.int .i64 f, .int .i64 cl, .slice (some ⟨b, 0, none⟩) n c] 64 (0, 0)) ∧ w.ownsRow 0 68 21 (.slice (some ⟨b, 0, none⟩) l.length c) l.length (l.flatMap tc) ∧ S b ∧ b ≠ g ∧ n = l.length := by
  obtain ⟨v, h1, h2, h3⟩ := h.ex
  rw [cell_of_row w g 2 _ _ _ h1] at hv
  have e : v = .slice (some ⟨b, 0, none⟩) n c := by simpa using hv
  subst e
  have hbg : b ≠ g := by
    rintro rfl
    rcases h2.2 with ⟨h', _⟩ | ⟨g', cap', cur, h', _, hg, _⟩
    · simp at h'
    · simp only [Value.slice.injEq, Option.some.injEq, Addr.mk.injEq, and_true] at h'
      obtain ⟨rfl, _, _⟩ := h'
      rw [hg] at h1
      injection h1 with h1
      injection h1 with _ ht
      exact absurd ht (by decide)
  have hnl : n = l.length := by
    rcases h2.2 with ⟨h', _⟩ | ⟨g', cap', cur, h', _⟩
    · simp at h'
    · simp only [Value.slice.injEq] at h'; exact h'.2.1
  subst hnl
  exact ⟨h1, h2, h3 b (by simp [Value.ownBlock]), hbg, rfl⟩
theorem Tab.there {b c n off m : Nat} (h : Tab w S g f cl l) (hv : w.cell? ⟨g, 2, none⟩ = some (.slice (some ⟨b, 0, none⟩) n c)) (hm : off + m ≤ l.length * 21) : w.there b off m := by
  obtain ⟨_, h2, _, _, _⟩ := h.slice hv
  intro j hj
  refine ⟨?_, h.frozen hv _⟩
  rw [h2.cellAt (off + j) (by omega), List.getElem?_eq_getElem (by rw [flat_tc_len]; omega)]
  rfl
theorem Tab.rows {b c n k : Nat} {ts : List Psp.Told} (h : Tab w S g f cl l) (hv : w.cell? ⟨g, 2, none⟩ = some (.slice (some ⟨b, 0, none⟩) n c)) (hk : k + ts.length ≤ l.length) (hts : ∀ t ∈ ts, t.who.length = 13) :
    Tab (w.setCells b (k * 21) (ts.flatMap tc)) S g f cl (l.take k ++ (ts ++ l.drop (k + ts.length))) ∧ (w.setCells b (k * 21) (ts.flatMap tc)).cell? ⟨g, 2, none⟩ = some (.slice (some ⟨b, 0, none⟩) n c) := by
  obtain ⟨h1, h2, h3, hbg, rfl⟩ := h.slice hv
  have hb : ∀ (vs : List Value) (o : Nat) (w0 : World), (w0.setCells b o vs).heap[g]? = w0.heap[g]? ∧ (w0.setCells b o vs).heap.size = w0.heap.size := by
    intro vs
    induction vs with
    | nil => intro o w0; exact ⟨rfl, rfl⟩
    | cons v vs ih =>
      intro o w0
      obtain ⟨a1, a2⟩ := ih (o + 1) (w0.setCell ⟨b, o, none⟩ v)
      exact ⟨a1.trans (Below.heap_setCell w0 ⟨b, o, none⟩ v g (Ne.symm hbg)), a2.trans (by simp [World.setCell])⟩
  obtain ⟨hg, hs⟩ := hb (ts.flatMap tc) (k * 21) w
  have hlen : (l.take k ++ (ts ++ l.drop (k + ts.length))).length = l.length := by simp; omega
  refine ⟨⟨⟨_, hg.trans h1, ?_, fun j hj => by simp [Value.ownBlock] at hj; subst hj; exact h3⟩, h.own, fun j hj => by rw [hs]; exact h.lt j hj, ?_, by rw [hlen]; exact h.len⟩, ?_⟩
  · rw [hlen, ← setL_told l k ts hk]
    exact own_setCells (ts.flatMap tc) (k * 21) h2
  · intro t ht
    rcases List.mem_append.1 ht with ht | ht
    · exact h.who t (List.mem_of_mem_take ht)
    · rcases List.mem_append.1 ht with ht | ht
      · exact hts t ht
      · exact h.who t (List.mem_of_mem_drop ht)
  · exact (World.cell?_of_block (a := ⟨g, 2, none⟩) hg).trans hv
theorem Tab.append {w3 : World} {A : Option Addr} {c : Nat} {v' : Value} {z : Psp.Told} (h : Tab w S g f cl l) (hv : w.cell? ⟨g, 2, none⟩ = some (.slice A l.length c)) (hown : w3.ownsRow 0 68 21 v' (l.length + 1) (l.flatMap tc ++ tc z)) (hg : w.grownBy w3 (Value.slice A l.length c).ownBlock)
    (hb : v'.ownBlock = (Value.slice A l.length c).ownBlock ∨ v'.ownBlock = some (w.heap.size + 1)) (hz : z.who.length = 13) (hl : l.length + 1 ≤ 1000000) :
    w3.heap[g]? = w.heap[g]? ∧ Tab (w3.setCell ⟨g, 2, none⟩ v') (fun k => S k ∨ (w.heap.size ≤ k ∧ k < w3.heap.size)) g f cl (l ++ [z]) ∧ Fp S w (w3.setCell ⟨g, 2, none⟩ v') := by
  obtain ⟨v, h1, h2, h3⟩ := h.ex
  rw [cell_of_row w g 2 _ _ _ h1] at hv
  have e : v = .slice A l.length c := by simpa using hv
  subst e
  have hne : ∀ {W : World} {u : Value} {xs : List Value} {m : Nat}, W.heap[g]? = w.heap[g]? → W.ownsRow 0 68 21 u m xs → u.ownBlock ≠ some g := by
    intro W u xs m hW ho he
    rcases ho.2 with ⟨rfl, _⟩ | ⟨g', cap', cur, rfl, _, hgg, _⟩
    · simp [Value.ownBlock] at he
    · have : g' = g := by simpa [Value.ownBlock] using he
      subst this
      rw [hW, h1] at hgg
      injection hgg with hgg
      injection hgg with _ ht
      exact absurd ht (by decide)
  have hg3 : w3.heap[g]? = w.heap[g]? := hg.block g (h.lt g h.own) (fun he => hne rfl h2 he.symm)
  have hng := hne hg3 hown
  refine ⟨hg3, ⟨⟨v', ?_, ?_, ?_⟩, Or.inl h.own, ?_, ?_, by simpa using hl⟩, ?_⟩
  · rw [heap_setCell_same w3 g 2 _ _ _ (hg3.trans h1)]; rfl
  · have e2 : (l ++ [z]).flatMap tc = l.flatMap tc ++ tc z := by simp
    rw [e2, List.length_append]
    refine ⟨hown.1, ?_⟩
    rcases hown.2 with hn | ⟨b, cap, cur, rfl, hb0, hh, r⟩
    · exact .inl hn
    · exact .inr ⟨b, cap, cur, rfl, hb0, (Below.heap_setCell w3 ⟨g, 2, none⟩ _ b (fun he => hng (by rw [he]; rfl))).trans hh, r⟩
  · intro k hk
    rcases hb with hb | hb
    · exact Or.inl (h3 k (by rw [← hb]; exact hk))
    · rw [hb] at hk
      injection hk with hk
      subst hk
      exact Or.inr ⟨by omega, (hown.lt _ hb).2⟩
  · intro k hk
    rcases hk with hk | hk
    · have := h.lt k hk; have := hg.size; simp [World.setCell]; omega
    · simpa [World.setCell] using hk.2
  · intro t ht
    rcases List.mem_append.1 ht with ht | ht
    · exact h.who t ht
    · simp at ht; subst ht; exact hz
  · exact ((Fp.refl S w).grown hg (fun k hk => Or.inl (h3 k hk))).setCell (p := ⟨g, 2, none⟩) (Or.inl h.own) _
/-- A node is put into the set of the k-th. -/
theorem Tab.putW {b c n k : Nat} {t : Psp.Told} (h : Tab w S g f cl l) (hv : w.cell? ⟨g, 2, none⟩ = some (.slice (some ⟨b, 0, none⟩) n c)) (hk : l[k]? = some t) (m : Int) (ht : t.who.length = 13) :
    Tab (putW w b (k * 21 + 6) t.who m) S g f cl (l.set k ⟨t.r, Psp.put t.who m, t.ready, t.since⟩) ∧ (Go.Proofs.Ytmbdailffhdonaa.putW w b (k * 21 + 6) t.who m).cell? ⟨g, 2, none⟩ = some (.slice (some ⟨b, 0, none⟩) n c) ∧ Fp S w (Go.Proofs.Ytmbdailffhdonaa.putW w b (k * 21 + 6) t.who m) := by
  have hS := (h.slice hv).2.2.1
  unfold Go.Proofs.Ytmbdailffhdonaa.putW
  by_cases hp : Psp.putB t.who m = true
  · rw [if_pos hp]
    have hp' := hp
    simp only [Psp.putB, Bool.and_eq_true, decide_eq_true_eq] at hp'
    obtain ⟨m0, m1, m2⟩ := hp'
    have e : Psp.put t.who m = t.who.set m.toNat true := by unfold Psp.put; rw [if_pos hp]
    have hset : (tc t).set (6 + m.toNat) (.bool true) = tc ⟨t.r, Psp.put t.who m, t.ready, t.since⟩ := by
      unfold tc
      rw [List.set_append_right _ _ (by rw [rq_len]; omega), rq_len, show 6 + m.toNat - 6 = m.toNat by omega, List.set_append_left _ _ (by rw [bools13_len]; omega), bools13_is ht, e]
      rw [bools13_is (by simpa using ht), List.map_set]
    have := h.store1 (j := 6 + m.toNat) hv (.bool true) hk (by omega) hset (by rw [Psp.put_len]; exact ht)
    rw [← Nat.add_assoc] at this
    exact ⟨this.1, this.2, (Fp.refl S w).setCell (p := ⟨b, _, none⟩) (Or.inl hS) _⟩
  · rw [if_neg hp]
    have e : Psp.put t.who m = t.who := by unfold Psp.put; rw [if_neg hp]
    rw [e]
    have : l.set k t = l := by
      obtain ⟨hk1, hk2⟩ := List.getElem?_eq_some_iff.1 hk
      rw [← hk2]; exact List.set_getElem_self hk1
    rw [show (⟨t.r, t.who, t.ready, t.since⟩ : Psp.Told) = t from rfl, this]
    exact ⟨h, hv, Fp.refl S w⟩
end
end Go.Proofs.Ytmbdailffhdonaa
