/- Words for memory in chapter 2: a slice that reads as a list, in blocks of a kind; a writer's and a reader's block. Plain facts on worlds. -/
import Derived.Test.YtnlnkcljehafkaaPk
namespace Go.Proofs.Ytnlnkcljehafkaa
open Go.RowKit
set_option linter.unusedVariables false

/-- The slice value v has n elements of k cells, which are xs and lie in a block of P. -/
def RdP (w : World) (P : Nat → Prop) (k : Nat) (v : Value) (n : Nat) (xs : List Value) : Prop :=
  xs.length = n * k ∧ ∃ A c, v = .slice A n c ∧ n ≤ c ∧ c ≤ maxLen ∧ (0 < n → ∃ b o, A = some ⟨b, o, none⟩ ∧ P b ∧ b < w.heap.size ∧ Lies w b o xs)
section
variable {w w' : World} {P P' : Nat → Prop} {B k n : Nat} {v : Value} {xs : List Value}
theorem RdP.keep (h : RdP w P k v n xs) (hs : w.heap.size ≤ w'.heap.size) (hk : ∀ b, P b → b < w.heap.size → w'.heap[b]? = w.heap[b]?) : RdP w' P k v n xs := by
  obtain ⟨h1, A, c, h2, h3, h4, h5⟩ := h
  refine ⟨h1, A, c, h2, h3, h4, fun hn => ?_⟩
  obtain ⟨b, o, e, hb, hlt, hl⟩ := h5 hn
  exact ⟨b, o, e, hb, by omega, hl.keep (hk b hb hlt)⟩
theorem RdP.mono (h : RdP w P k v n xs) (hP : ∀ b, b < w.heap.size → P b → P' b) : RdP w P' k v n xs := by
  obtain ⟨h1, A, c, h2, h3, h4, h5⟩ := h
  refine ⟨h1, A, c, h2, h3, h4, fun hn => ?_⟩
  obtain ⟨b, o, e, hb, hlt, hl⟩ := h5 hn
  exact ⟨b, o, e, hP b hlt hb, hlt, hl⟩
theorem RdP.fp {S : Nat → Prop} (h : RdP w P k v n xs) (g : Fp S w w') (hs : ∀ b, P b → ¬ S b) : RdP w' P k v n xs := h.keep g.size fun b hb hlt => g.block b hlt (hs b hb)
theorem RdP.below (h : RdP w P k v n xs) (g : Below w.heap.size w w') : RdP w' P k v n xs := h.keep g.size fun b hb hlt => g.block b hlt
theorem RdP.to_rd (h : RdP w P k v n xs) : Rd w w.heap.size k v n xs := by
  obtain ⟨h1, A, c, h2, h3, h4, h5⟩ := h
  refine ⟨h1, A, c, h2, h3, h4, fun hn => ?_⟩
  obtain ⟨b, o, e, hb, hlt, hl⟩ := h5 hn
  exact ⟨b, o, e, hlt, hl⟩
theorem Rd.to_p (h : Rd w B k v n xs) (hB : B ≤ w.heap.size) : RdP w (fun b => b < B) k v n xs := by
  obtain ⟨h1, A, c, h2, h3, h4, h5⟩ := h
  refine ⟨h1, A, c, h2, h3, h4, fun hn => ?_⟩
  obtain ⟨b, o, e, hb, hl⟩ := h5 hn
  exact ⟨b, o, e, hb, by omega, hl⟩
theorem RdP.none_ : RdP w P k (.slice none 0 0) 0 [] := ⟨by simp, none, 0, rfl, Nat.le_refl _, Nat.zero_le _, fun h => absurd h (by omega)⟩
/-- What is owned reads as itself, in its own block. -/
theorem RdP.of_own {base : Nat} {e : TypeId} (h : w.ownsRow base e k v n xs) : RdP w (fun b => v.ownBlock = some b ∧ base ≤ b) k v n xs := by
  have hr := Rd.of_own h
  obtain ⟨h1, A, c, rfl, h3, h4, h5⟩ := hr
  refine ⟨h1, A, c, rfl, h3, h4, fun hn => ?_⟩
  obtain ⟨b, o, rfl, hb, hl⟩ := h5 hn
  have h6 : (Value.slice (some ⟨b, o, none⟩) n c).ownBlock = some b := rfl
  exact ⟨b, o, rfl, ⟨h6, (h.lt b h6).1⟩, hb, hl⟩
/-- As the walk wants it. -/
theorem RdP.parts (h : RdP w P k v n xs) : xs.length = n * k ∧ ∃ A c, v = .slice A n c ∧ n ≤ c ∧ c ≤ 9223372036854775807 ∧ (0 < n → ∃ b o, A = some ⟨b, o, none⟩ ∧ P b ∧ b < w.heap.size ∧ Lies w b o xs) := by
  obtain ⟨h1, A, c, h2, h3, h4, h5⟩ := h
  unfold maxLen at h4
  exact ⟨h1, A, c, h2, h3, by omega, h5⟩
end

/-! ### Writers -/
/-- A writer of type T: block g has the slice of the bytes that were written and whether something was bad; all that it has lies in blocks of S. -/
structure Wr (T : TypeId) (w : World) (S : Nat → Prop) (g : Nat) (out : List UInt8) (bad : Bool) : Prop where
  ex : ∃ v, w.heap[g]? = some (.cells #[v, .bool bad] T (0, 0)) ∧ w.ownsRow 0 5 1 v out.length (out.map bv) ∧ ∀ k, v.ownBlock = some k → S k ∧ k ≠ g
  own : S g
  lt : ∀ k, S k → k < w.heap.size
section
variable {T : TypeId} {w w' w3 : World} {S S' : Nat → Prop} {g : Nat} {out : List UInt8} {bad : Bool}
theorem own_keep {base : Nat} {e : TypeId} {k n : Nat} {v : Value} {xs : List Value} (h : w.ownsRow base e k v n xs) (hk : ∀ b, v.ownBlock = some b → w'.heap[b]? = w.heap[b]?) : w'.ownsRow base e k v n xs := by
  refine ⟨h.1, ?_⟩
  rcases h.2 with hn | ⟨b, cap, cur, rfl, hb, hh, r⟩
  · exact .inl hn
  · exact .inr ⟨b, cap, cur, rfl, hb, (hk b rfl).trans hh, r⟩
theorem Wr.fp (h : Wr T w S g out bad) (hf : Fp S' w w') (hd : ∀ k, S k → ¬ S' k) : Wr T w' S g out bad := by
  obtain ⟨v, h1, h2, h3⟩ := h.ex
  exact ⟨⟨v, (hf.block g (h.lt g h.own) (hd g h.own)).trans h1, own_keep h2 fun b hb => hf.block b (h.lt b (h3 b hb).1) (hd b (h3 b hb).1), h3⟩, h.own, fun k hk => Nat.lt_of_lt_of_le (h.lt k hk) hf.size⟩
theorem Wr.below (h : Wr T w S g out bad) (hb : Below w.heap.size w w') : Wr T w' S g out bad := h.fp (Fp.of_below hb fun _ => False) fun _ _ h => h
theorem Wr.wider (h : Wr T w S g out bad) (hs : ∀ k, S k → S' k) (hl : ∀ k, S' k → k < w.heap.size) : Wr T w S' g out bad := by
  obtain ⟨v, h1, h2, h3⟩ := h.ex
  exact ⟨⟨v, h1, h2, fun k hk => ⟨hs k (h3 k hk).1, (h3 k hk).2⟩⟩, hs g h.own, hl⟩
/-- What the walk wants of a writer. -/
theorem Wr.cells (h : Wr T w S g out bad) : ∃ A c, out.length ≤ c ∧ c ≤ 9223372036854775807 ∧ w.cell? ⟨g, 0, none⟩ = some (.slice A out.length c) ∧ w.cell? ⟨g, 1, none⟩ = some (.bool bad) ∧
    w.frozen? ⟨g, 0, none⟩ = false ∧ w.frozen? ⟨g, 1, none⟩ = false ∧ w.ownsRow 0 5 1 (.slice A out.length c) out.length (out.map bv) ∧ ∀ k, (Value.slice A out.length c).ownBlock = some k → S k ∧ k ≠ g := by
  obtain ⟨v, h1, h2, h3⟩ := h.ex
  obtain ⟨A, c, rfl, hc1, hc2, hl⟩ := own_slice h2
  refine ⟨A, c, hc1, hc2, ?_, ?_, ?_, ?_, h2, h3⟩
  · rw [cell_of_row w g 0 _ _ _ h1]; rfl
  · rw [cell_of_row w g 1 _ _ _ h1]; rfl
  · exact frozen_of_row w g 0 _ _ h1
  · exact frozen_of_row w g 1 _ _ h1
theorem Wr.setBad (h : Wr T w S g out bad) (b : Bool) : Wr T (w.setCell ⟨g, 1, none⟩ (.bool b)) S g out b ∧ Fp S w (w.setCell ⟨g, 1, none⟩ (.bool b)) := by
  obtain ⟨v, h1, h2, h3⟩ := h.ex
  refine ⟨⟨⟨v, ?_, own_keep h2 fun k hk => Below.heap_setCell w ⟨g, 1, none⟩ _ k (fun e => (h3 k hk).2 e), h3⟩, h.own, fun k hk => by simpa [World.setCell] using h.lt k hk⟩, (Fp.refl S w).setCell (p := ⟨g, 1, none⟩) (Or.inl h.own) _⟩
  rw [heap_setCell_same w g 1 _ _ _ h1]; rfl
theorem Wr.append {A : Option Addr} {c : Nat} {v' : Value} {e : List UInt8} (h : Wr T w S g out bad) (hv : w.cell? ⟨g, 0, none⟩ = some (.slice A out.length c)) (hown : w3.ownsRow 0 5 1 v' (out.length + e.length) (out.map bv ++ e.map bv)) (hg : w.grownBy w3 (Value.slice A out.length c).ownBlock)
    (hb : v'.ownBlock = (Value.slice A out.length c).ownBlock ∨ v'.ownBlock = some w.heap.size) :
    Wr T (w3.setCell ⟨g, 0, none⟩ v') (fun k => S k ∨ (w.heap.size ≤ k ∧ k < w3.heap.size)) g (out ++ e) bad ∧ Fp S w (w3.setCell ⟨g, 0, none⟩ v') := by
  obtain ⟨v, h1, h2, h3⟩ := h.ex
  rw [cell_of_row w g 0 _ _ _ h1] at hv
  have e1 : v = .slice A out.length c := by simpa using hv
  subst e1
  have hglt := h.lt g h.own
  have hg3 : w3.heap[g]? = w.heap[g]? := hg.block g hglt (fun he => (h3 g he.symm).2 rfl)
  have hng : v'.ownBlock ≠ some g := by
    intro he
    rcases hb with hb | hb
    · rw [hb] at he; exact (h3 g he).2 rfl
    · rw [hb] at he; injection he with he; omega
  refine ⟨⟨⟨v', ?_, ?_, ?_⟩, Or.inl h.own, ?_⟩, ?_⟩
  · rw [heap_setCell_same w3 g 0 _ _ _ (hg3.trans h1)]; rfl
  · rw [List.length_append, List.map_append]
    exact own_keep hown fun k hk => Below.heap_setCell w3 ⟨g, 0, none⟩ _ k (fun he => hng (by rw [hk, he]))
  · intro k hk
    refine ⟨?_, fun he => hng (by rw [hk, he])⟩
    rcases hb with hb | hb
    · exact Or.inl (h3 k (by rw [← hb]; exact hk)).1
    · rw [hb] at hk
      injection hk with hk
      subst hk
      exact Or.inr ⟨Nat.le_refl _, (hown.lt _ hb).2⟩
  · intro k hk
    rcases hk with hk | hk
    · have := h.lt k hk; have := hg.size; simp [World.setCell]; omega
    · simpa [World.setCell] using hk.2
  · exact ((Fp.refl S w).grown hg (fun k hk => Or.inl (h3 k hk).1)).setCell (p := ⟨g, 0, none⟩) (Or.inl h.own) _
/-- Behind an append the writer's block is as it was. -/
theorem Wr.grown {A : Option Addr} {c : Nat} (h : Wr T w S g out bad) (hv : w.cell? ⟨g, 0, none⟩ = some (.slice A out.length c)) (hg : w.grownBy w3 (Value.slice A out.length c).ownBlock) :
    w3.cell? ⟨g, 0, none⟩ = some (.slice A out.length c) ∧ w3.frozen? ⟨g, 0, none⟩ = false := by
  obtain ⟨v, h1, h2, h3⟩ := h.ex
  rw [cell_of_row w g 0 _ _ _ h1] at hv
  have e1 : v = .slice A out.length c := by simpa using hv
  subst e1
  have hg3 : w3.heap[g]? = w.heap[g]? := hg.block g (h.lt g h.own) (fun he => (h3 g he.symm).2 rfl)
  refine ⟨?_, frozen_of_row w3 g 0 _ _ (hg3.trans h1)⟩
  rw [cell_of_row w3 g 0 _ _ _ (hg3.trans h1)]; rfl
end

/-- What a call that writes leaves behind. -/
def WrOk (T : TypeId) (e : List UInt8) (ok : Bool) (bnd : Nat) (S : Nat → Prop) (g : Nat) (out : List UInt8) (bad : Bool) (w : World) (en : Ending) (w' : World) : Prop :=
  en = .returned (.tuple #[]) ∧ ∃ out' bad', Psp.Wrote e ok bnd out out' bad bad' ∧ Wr T w' (fun k => S k ∨ (w.heap.size ≤ k ∧ k < w'.heap.size)) g out' bad' ∧ Fp S w w'
/-- The same, of a world alone: the state that has come of (w, out, bad). -/
structure WrS (T : TypeId) (e : List UInt8) (ok : Bool) (bnd : Nat) (S : Nat → Prop) (g : Nat) (out : List UInt8) (bad : Bool) (w : World) (S' : Nat → Prop) (out' : List UInt8) (bad' : Bool) (w' : World) : Prop where
  wrote : Psp.Wrote e ok bnd out out' bad bad'
  wr : Wr T w' S' g out' bad'
  fp : Fp S w w'
  sub : ∀ k, S' k → S k ∨ w.heap.size ≤ k
  sup : ∀ k, S k → S' k
section
variable {T : TypeId} {e f : List UInt8} {ok ok' : Bool} {n m : Nat} {S S' : Nat → Prop} {g : Nat} {out out' : List UInt8} {bad bad' : Bool} {w w' w'' : World} {en : Ending}
theorem WrS.start (h : Wr T w S g out bad) : WrS T [] true 0 S g out bad w S out bad w := ⟨Psp.Wrote.nil _ _, h, Fp.refl _ _, fun k hk => Or.inl hk, fun k hk => hk⟩
theorem WrS.below (h : WrS T e ok n S g out bad w S' out' bad' w') (hb : Below w'.heap.size w' w'') : WrS T e ok n S g out bad w S' out' bad' w'' := ⟨h.wrote, h.wr.below hb, h.fp.below hb, h.sub, h.sup⟩
/-- Behind a call that writes more. -/
theorem WrS.step (h : WrS T e ok n S g out bad w S' out' bad' w') (hc : WrOk T f ok' m S' g out' bad' w' en w'') :
    en = .returned (.tuple #[]) ∧ ∃ S'' out'' bad'', WrS T (e ++ f) (ok && ok') (n + m) S g out bad w S'' out'' bad'' w'' := by
  obtain ⟨he, o2, b2, h1, h2, h3⟩ := hc
  refine ⟨he, _, o2, b2, h.wrote.trans h1, h2, h.fp.trans h3 h.sub, fun k hk => ?_, fun k hk => Or.inl (h.sup k hk)⟩
  rcases hk with hk | hk
  · exact h.sub k hk
  · exact Or.inr (Nat.le_trans h.fp.size hk.1)
theorem WrS.done (h : WrS T e ok n S g out bad w S' out' bad' w') (hm : n ≤ m) : WrOk T e ok m S g out bad w (.returned (.tuple #[])) w' := by
  refine ⟨rfl, out', bad', h.wrote.more hm, h.wr.wider (fun k hk => ?_) (fun k hk => ?_), h.fp⟩
  · rcases h.sub k hk with h1 | h1
    · exact Or.inl h1
    · exact Or.inr ⟨h1, h.wr.lt k hk⟩
  · rcases hk with hk | hk
    · exact h.wr.lt k (h.sup k hk)
    · exact hk.2
theorem WrS.of (he : e = f) (ho : ok = ok') (h : WrS T e ok n S g out bad w S' out' bad' w') : WrS T f ok' n S g out bad w S' out' bad' w' := by rw [← he, ← ho]; exact h
/-- What is not the writer's reads as it did. -/
theorem RdP.wrs {P : Nat → Prop} {k l : Nat} {v : Value} {xs : List Value} (hr : RdP w P k v l xs) (h : WrS T e ok n S g out bad w S' out' bad' w') (hP : ∀ b, P b → ¬ S b) : RdP w' P k v l xs := hr.fp h.fp hP
theorem WrS.lies {b o : Nat} {cs : List Value} (h : WrS T e ok n S g out bad w S' out' bad' w') (hl : Lies w b o cs) (hb : b < w.heap.size) (hP : ¬ S b) : Lies w' b o cs := hl.keep (h.fp.block b hb hP)
/-- The beginning, a little earlier. -/
theorem WrOk.from_ {w0 : World} (h : WrOk T e ok n S g out bad w en w') (hb : Below w0.heap.size w0 w) : WrOk T e ok n S g out bad w0 en w' := by
  obtain ⟨he, o2, b2, h1, h2, h3⟩ := h
  have hz := hb.size
  refine ⟨he, o2, b2, h1, h2.wider (fun k hk => ?_) (fun k hk => ?_), (Fp.of_below hb S).trans h3 fun k hk => Or.inl hk⟩
  · rcases hk with hk | hk
    · exact Or.inl hk
    · exact Or.inr ⟨by omega, hk.2⟩
  · rcases hk with hk | hk
    · exact h2.lt k (Or.inl hk)
    · exact hk.2
theorem WrS.off (h : WrS T e ok n S g out bad w S' out' bad' w') {b : Nat} (hb : b < w.heap.size) (hP : ¬ S b) : ¬ S' b := fun hk => by
  rcases h.sub b hk with h1 | h1
  · exact hP h1
  · omega
end

end Go.Proofs.Ytnlnkcljehafkaa
