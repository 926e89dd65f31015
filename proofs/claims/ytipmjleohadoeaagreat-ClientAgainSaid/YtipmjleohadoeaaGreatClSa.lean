/- A client in memory. Printed by gen_cl.py. -/
import Derived.Test.YtipmjleohadoeaaGreatClnSa
import Derived.Test.YtipmjleohadoeaaGreatJ21Sa
import Derived.Test.YtipmjleohadoeaaGreatGbSa
namespace Go.Proofs.YtipmjleohadoeaaGreat
open Go.RowKit
set_option linter.unusedVariables false
set_option linter.unusedSimpArgs false

def av (a : Int × Int) : List Value := [iv a.1, iv a.2]
def ev (a : Psp.Req × Int) : List Value := [iv a.1.c, iv a.1.t, iv a.1.k, iv a.1.y, iv a.1.v, iv a.1.s, iv a.2]
structure SendV where
  t : Int
  b : List UInt8
  v : Value
def sv (x : SendV) : List Value := [iv x.t, x.v]
def SendV.s (x : SendV) : Int × List UInt8 := (x.t, x.b)
theorem own_ne {W : World} {base base' k k' n n' : Nat} {e e' : TypeId} {v v' : Value} {xs xs' : List Value} (h : W.ownsRow base e k v n xs) (h' : W.ownsRow base' e' k' v' n' xs') (hne : e ≠ e') : ∀ b, v.ownBlock = some b → v'.ownBlock ≠ some b := fun b hb he => by
  rcases own_apart h h' hne with h1 | h1
  · rw [h1] at hb; cases hb
  · exact h1 (hb.trans he.symm)
theorem own_ne_row {W : World} {base k n j : Nat} {e T : TypeId} {v : Value} {xs : List Value} {cs : Array Value} {o : Nat × Nat} (h : W.ownsRow base e k v n xs) (h' : W.heap[j]? = some (.cells cs T o)) (hne : e ≠ T) : ∀ b, v.ownBlock = some b → b ≠ j := fun b hb he => by
  rcases h.2 with ⟨rfl, _⟩ | ⟨g, cap, cur, rfl, _, hg, _⟩
  · simp [Value.ownBlock] at hb
  · have e1 : g = b := by simpa [Value.ownBlock] using hb
    subst e1
    rw [he, h'] at hg
    injection hg with hg
    injection hg with _ ht
    exact hne ht.symm
theorem row_ne {W : World} {i j : Nat} {T T' : TypeId} {cs cs' : Array Value} {o o' : Nat × Nat} (h : W.heap[i]? = some (.cells cs T o)) (h' : W.heap[j]? = some (.cells cs' T' o')) (hne : T ≠ T') : i ≠ j := fun he => by
  rw [he, h'] at h
  injection h with h
  injection h with _ ht
  exact hne ht.symm
/-- What goes out. -/
structure Outs (W : World) (U : Nat → Prop) (v : Value) (L : List SendV) : Prop where
  own : W.ownsRow 0 111 2 v L.length (L.flatMap sv)
  hu : ∀ b, v.ownBlock = some b → U b
  ok : ∀ x ∈ L, W.ownsRow 0 5 1 x.v x.b.length (x.b.map bv) ∧ ∀ b, x.v.ownBlock = some b → U b
theorem Outs.nil {W : World} {U : Nat → Prop} : Outs W U (.slice none 0 0) [] := ⟨World.ownsRow_nil _ _ _ _, fun b hb => (by simp [Value.ownBlock] at hb), fun x h => (by cases h)⟩
theorem Outs.keep {W W' : World} {U U' : Nat → Prop} {v : Value} {L : List SendV} (h : Outs W U v L) (hk : ∀ b, U b → b < W.heap.size → (v.ownBlock = some b ∨ ∃ x ∈ L, x.v.ownBlock = some b) → W'.heap[b]? = W.heap[b]? ∧ U' b) : Outs W' U' v L :=
  ⟨own_keep h.own fun b hb => (hk b (h.hu b hb) (h.own.lt b hb).2 (.inl hb)).1, fun b hb => (hk b (h.hu b hb) (h.own.lt b hb).2 (.inl hb)).2, fun x hx => ⟨own_keep (h.ok x hx).1 fun b hb => (hk b ((h.ok x hx).2 b hb) ((h.ok x hx).1.lt b hb).2 (.inr ⟨x, hx, hb⟩)).1, fun b hb => (hk b ((h.ok x hx).2 b hb) ((h.ok x hx).1.lt b hb).2 (.inr ⟨x, hx, hb⟩)).2⟩⟩
/-- A client: blocks k (itself), ct (its clock), and what its lists have. All lies in blocks of U. -/
structure Clm (W : World) (U : Nat → Prop) (k ct g : Nat) (c : Cf) (id : Int) (s : CS) : Prop where
  ex : ∃ (vi va vc vo : Value) (L : List SendV), W.heap[k]? = some (.cells #[.int .i64 c.f, .int .i64 c.cl, .int .i64 c.c2, .int .i64 c.c3, .int .i64 c.c4, .int .i64 c.c5, .int .i64 c.c6, .int .i64 c.c7, .int .i64 c.c8, .int .i64 c.c9, .int .i64 c.c10, .int .i64 c.c11, .int .i64 c.c12, .int .i64 c.c13, .int .i64 c.re, .int .i64 id, .pointer (some ⟨g, 0, none⟩), .pointer (some ⟨ct, 0, none⟩), .bool s.waits, vi, .int .i64 s.at_, va, vc, vo] 99 (0, 0)) ∧ W.ownsRow 0 42 6 vi s.issued.length (s.issued.flatMap rq) ∧ W.ownsRow 0 105 2 va s.ans.length (s.ans.flatMap av) ∧ W.ownsRow 0 61 7 vc s.acc.length (s.acc.flatMap ev) ∧ L.map SendV.s = s.out ∧ Outs W U vo L ∧
    (∀ b, vi.ownBlock = some b → U b) ∧ (∀ b, va.ownBlock = some b → U b) ∧ ∀ b, vc.ownBlock = some b → U b
  clk : W.heap[ct]? = some (.cells #[.int .i64 s.now, .slice none 0 0] 119 (0, 0))
  uk : U k
  uct : U ct
  lt : ∀ b, U b → b < W.heap.size
theorem Clm.keep {W W' : World} {U U' : Nat → Prop} {k ct g : Nat} {c : Cf} {id : Int} {s : CS} (h : Clm W U k ct g c id s) (hk : ∀ b, U b → W'.heap[b]? = W.heap[b]? ∧ U' b) (hl : ∀ b, U' b → b < W'.heap.size) : Clm W' U' k ct g c id s := by
  obtain ⟨vi, va, vc, vo, L, e1, e2, e3, e4, e5, e6, e7, e8, e9⟩ := h.ex
  exact ⟨⟨vi, va, vc, vo, L, (hk k h.uk).1.trans e1, own_keep e2 fun b hb => (hk b (e7 b hb)).1, own_keep e3 fun b hb => (hk b (e8 b hb)).1, own_keep e4 fun b hb => (hk b (e9 b hb)).1, e5, e6.keep fun b hb _ _ => hk b hb, fun b hb => (hk b (e7 b hb)).2, fun b hb => (hk b (e8 b hb)).2, fun b hb => (hk b (e9 b hb)).2⟩, (hk ct h.uct).1.trans h.clk, (hk k h.uk).2, (hk ct h.uct).2, hl⟩
theorem Clm.fp {W W' : World} {U T : Nat → Prop} {k ct g : Nat} {c : Cf} {id : Int} {s : CS} (h : Clm W U k ct g c id s) (hf : Fp T W W') (hT : ∀ b, U b → ¬ T b) : Clm W' U k ct g c id s :=
  h.keep (fun b hb => ⟨hf.block b (h.lt b hb) (hT b hb), hb⟩) fun b hb => Nat.lt_of_lt_of_le (h.lt b hb) hf.size
theorem Clm.below {W W' : World} {U : Nat → Prop} {k ct g : Nat} {c : Cf} {id : Int} {s : CS} (h : Clm W U k ct g c id s) (hb : Below W.heap.size W W') : Clm W' U k ct g c id s :=
  h.keep (fun b hU => ⟨hb.block b (h.lt b hU), hU⟩) fun b hU => Nat.lt_of_lt_of_le (h.lt b hU) hb.size
/-- The same, its lists by name. -/
structure Clo (W : World) (U : Nat → Prop) (k ct g : Nat) (c : Cf) (id : Int) (s : CS) (vi va vc vo : Value) (L : List SendV) : Prop where
  row : W.heap[k]? = some (.cells #[.int .i64 c.f, .int .i64 c.cl, .int .i64 c.c2, .int .i64 c.c3, .int .i64 c.c4, .int .i64 c.c5, .int .i64 c.c6, .int .i64 c.c7, .int .i64 c.c8, .int .i64 c.c9, .int .i64 c.c10, .int .i64 c.c11, .int .i64 c.c12, .int .i64 c.c13, .int .i64 c.re, .int .i64 id, .pointer (some ⟨g, 0, none⟩), .pointer (some ⟨ct, 0, none⟩), .bool s.waits, vi, .int .i64 s.at_, va, vc, vo] 99 (0, 0))
  oi : W.ownsRow 0 42 6 vi s.issued.length (s.issued.flatMap rq)
  oa : W.ownsRow 0 105 2 va s.ans.length (s.ans.flatMap av)
  oc : W.ownsRow 0 61 7 vc s.acc.length (s.acc.flatMap ev)
  om : L.map SendV.s = s.out
  oo : Outs W U vo L
  ui : ∀ b, vi.ownBlock = some b → U b
  ua : ∀ b, va.ownBlock = some b → U b
  uc : ∀ b, vc.ownBlock = some b → U b
  clk : W.heap[ct]? = some (.cells #[.int .i64 s.now, .slice none 0 0] 119 (0, 0))
  uk : U k
  uct : U ct
  lt : ∀ b, U b → b < W.heap.size
theorem Clo.clm {W : World} {U : Nat → Prop} {k ct g : Nat} {c : Cf} {id : Int} {s : CS} {vi va vc vo : Value} {L : List SendV} (h : Clo W U k ct g c id s vi va vc vo L) : Clm W U k ct g c id s :=
  ⟨⟨vi, va, vc, vo, L, h.row, h.oi, h.oa, h.oc, h.om, h.oo, h.ui, h.ua, h.uc⟩, h.clk, h.uk, h.uct, h.lt⟩
/-- A client's own cells, and its lists. -/
theorem Clm.opens {W : World} {U : Nat → Prop} {k ct g : Nat} {c : Cf} {id : Int} {s : CS} (h : Clm W U k ct g c id s) : ∃ (Ai : Option Addr) (ci : Nat) (Aa : Option Addr) (ca : Nat) (Ac : Option Addr) (cc : Nat) (Ao : Option Addr) (co : Nat) (L : List SendV), Clo W U k ct g c id s (.slice Ai s.issued.length ci) (.slice Aa s.ans.length ca) (.slice Ac s.acc.length cc) (.slice Ao L.length co) L := by
  obtain ⟨vi, va, vc, vo, L, e1, e2, e3, e4, e5, e6, e7, e8, e9⟩ := h.ex
  obtain ⟨Ai, ci, rfl, _, _, _⟩ := own_slice e2
  obtain ⟨Aa, ca, rfl, _, _, _⟩ := own_slice e3
  obtain ⟨Ac, cc, rfl, _, _, _⟩ := own_slice e4
  obtain ⟨Ao, co, rfl, _, _, _⟩ := own_slice e6.own
  exact ⟨Ai, ci, Aa, ca, Ac, cc, Ao, co, L, e1, e2, e3, e4, e5, e6, e7, e8, e9, h.clk, h.uk, h.uct, h.lt⟩
section
variable {W W1 W2 W' : World} {U U' T : Nat → Prop} {k ct g : Nat} {c : Cf} {id : Int} {s : CS} {vi va vc vo v' : Value} {L : List SendV} {ob : Option Nat}
theorem Clo.keep (h : Clo W U k ct g c id s vi va vc vo L) (hk : ∀ b, U b → W'.heap[b]? = W.heap[b]? ∧ U' b) (hl : ∀ b, U' b → b < W'.heap.size) : Clo W' U' k ct g c id s vi va vc vo L :=
  ⟨(hk k h.uk).1.trans h.row, own_keep h.oi fun b hb => (hk b (h.ui b hb)).1, own_keep h.oa fun b hb => (hk b (h.ua b hb)).1, own_keep h.oc fun b hb => (hk b (h.uc b hb)).1, h.om, h.oo.keep fun b hb _ _ => hk b hb, fun b hb => (hk b (h.ui b hb)).2, fun b hb => (hk b (h.ua b hb)).2, fun b hb => (hk b (h.uc b hb)).2, (hk ct h.uct).1.trans h.clk, (hk k h.uk).2, (hk ct h.uct).2, hl⟩
theorem Clo.below (h : Clo W U k ct g c id s vi va vc vo L) (hb : Below W.heap.size W W') : Clo W' U k ct g c id s vi va vc vo L :=
  h.keep (fun b hU => ⟨hb.block b (h.lt b hU), hU⟩) fun b hU => Nat.lt_of_lt_of_le (h.lt b hU) hb.size
theorem Clo.fp (h : Clo W U k ct g c id s vi va vc vo L) (hf : Fp T W W') (hT : ∀ b, U b → ¬ T b) : Clo W' U k ct g c id s vi va vc vo L :=
  h.keep (fun b hU => ⟨hf.block b (h.lt b hU) (hT b hU), hU⟩) fun b hU => Nat.lt_of_lt_of_le (h.lt b hU) hf.size
theorem Clo.more (h : Clo W U k ct g c id s vi va vc vo L) (hU : ∀ b, U b → U' b) (hl : ∀ b, U' b → b < W.heap.size) : Clo W U' k ct g c id s vi va vc vo L :=
  h.keep (fun b hb => ⟨rfl, hU b hb⟩) hl
theorem set_same {j : Nat} {u : Value} : ∀ b, b ≠ k → (W.setCell ⟨k, j, none⟩ u).heap[b]? = W.heap[b]? := fun b hb => by
  by_cases hlt : b < W.heap.size
  · exact ((Fp.refl (fun b => b = k) W).setCell (p := ⟨k, j, none⟩) (Or.inl (show k = k from rfl)) u).block b hlt hb
  · have hs : (W.setCell ⟨k, j, none⟩ u).heap.size = W.heap.size := by simp
    rw [Array.getElem?_eq_none (by omega), Array.getElem?_eq_none (by omega)]
/-- A cell of the client itself is written. -/
theorem clo_cell {cs : Array Value} {j : Nat} {u : Value} {s' : CS} {vi' va' vc' vo' : Value} {L' : List SendV} (h0 : W.heap[k]? = some (.cells cs 99 (0, 0))) (hrow : cs.setIfInBounds j u = #[.int .i64 c.f, .int .i64 c.cl, .int .i64 c.c2, .int .i64 c.c3, .int .i64 c.c4, .int .i64 c.c5, .int .i64 c.c6, .int .i64 c.c7, .int .i64 c.c8, .int .i64 c.c9, .int .i64 c.c10, .int .i64 c.c11, .int .i64 c.c12, .int .i64 c.c13, .int .i64 c.re, .int .i64 id, .pointer (some ⟨g, 0, none⟩), .pointer (some ⟨ct, 0, none⟩), .bool s'.waits, vi', .int .i64 s'.at_, va', vc', vo'])
    (hc : W.heap[ct]? = some (.cells #[.int .i64 s'.now, .slice none 0 0] 119 (0, 0))) (uk : U k) (uct : U ct) (lt : ∀ b, U b → b < W.heap.size)
    (oi : W.ownsRow 0 42 6 vi' s'.issued.length (s'.issued.flatMap rq)) (oa : W.ownsRow 0 105 2 va' s'.ans.length (s'.ans.flatMap av)) (oc : W.ownsRow 0 61 7 vc' s'.acc.length (s'.acc.flatMap ev)) (om : L'.map SendV.s = s'.out) (oo : Outs W U vo' L')
    (ui : ∀ b, vi'.ownBlock = some b → U b) (ua : ∀ b, va'.ownBlock = some b → U b) (uc : ∀ b, vc'.ownBlock = some b → U b) : Clo (W.setCell ⟨k, j, none⟩ u) U k ct g c id s' vi' va' vc' vo' L' := by
  have hs : (W.setCell ⟨k, j, none⟩ u).heap.size = W.heap.size := by simp
  refine ⟨?_, own_keep oi fun b hb => set_same b (own_ne_row oi h0 (by decide) b hb), own_keep oa fun b hb => set_same b (own_ne_row oa h0 (by decide) b hb), own_keep oc fun b hb => set_same b (own_ne_row oc h0 (by decide) b hb), om, oo.keep fun b hb hlt hor => ⟨set_same b ?_, hb⟩, ui, ua, uc, (set_same ct (row_ne hc h0 (by decide))).trans hc, uk, uct, fun b hb => by rw [hs]; exact lt b hb⟩
  · rw [heap_setCell_same W k j _ _ _ h0, hrow]
  · rcases hor with h1 | ⟨x, hx, h1⟩
    · exact own_ne_row oo.own h0 (by decide) b h1
    · exact own_ne_row (oo.ok x hx).1 h0 (by decide) b h1
end
/-- A client and its notary. -/
structure Cn (W : World) (U : Nat → Prop) (g bm : Nat) (K : List Key) (k ct : Nat) (c : Cf) (id : Int) (s : CS) : Prop where
  nt : Nt W g bm K
  cm : Clm W U k ct g c id s
  sep : ¬ U g ∧ ¬ U bm
theorem Cn.below {W W' : World} {U : Nat → Prop} {g bm k ct : Nat} {K : List Key} {c : Cf} {id : Int} {s : CS} (h : Cn W U g bm K k ct c id s) (hb : Below W.heap.size W W') : Cn W' U g bm K k ct c id s := ⟨h.nt.below hb, h.cm.below hb, h.sep⟩
theorem Cn.fp {W W' : World} {U T : Nat → Prop} {g bm k ct : Nat} {K : List Key} {c : Cf} {id : Int} {s : CS} (h : Cn W U g bm K k ct c id s) (hf : Fp T W W') (hT : ∀ b, U b → ¬ T b) (h1 : ¬ T g) (h2 : ¬ T bm) : Cn W' U g bm K k ct c id s := ⟨h.nt.fp hf h1 h2, h.cm.fp hf hT, h.sep⟩
end Go.Proofs.YtipmjleohadoeaaGreat
