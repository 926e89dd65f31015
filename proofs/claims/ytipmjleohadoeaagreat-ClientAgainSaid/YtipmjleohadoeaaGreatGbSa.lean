/- Joined texts: Open Later Own Foot Step Reqs Pk Pm. -/
import Derived.Test.YtipmjleohadoeaaGreatGaSa
import Derived.ProofKit
import Derived.OpenShut
import Derived.BigQuiet
import Derived.Deep.QuietTactic
import Derived.StillTailTactics
import Derived.Deep.MidRow
import Derived.Laws.StructEq
section
/- How arguments are opened: from what the reader of data has taken to lists. Plain facts on the reader, no function in sight. -/
namespace Go.Proofs.YtipmjleohadoeaaGreat
open Go.RowKit Go.ChangeShapes Go.WideShapes
set_option linter.unusedVariables false

theorem i64_bd {n : Int} (h : (Lit.int .i64 n).wf = true) : -9223372036854775808 ≤ n ∧ n ≤ 9223372036854775807 := by
  simp [Lit.wf, IntKind.min, IntKind.max, IntKind.signed, IntKind.bits] at h
  omega
def isI64 (n : Int) : Prop := -9223372036854775808 ≤ n ∧ n ≤ 9223372036854775807

theorem flat_get {α : Type} {f : α → List Value} {k : Nat} (hf : ∀ a, (f a).length = k) : ∀ (l : List α) (i r : Nat), r < k → (l.flatMap f)[i * k + r]? = (l[i]?).bind fun a => (f a)[r]?
  | [], i, r, h => by simp
  | a :: l, 0, r, h => by
    rw [List.flatMap_cons, Nat.zero_mul, Nat.zero_add, List.getElem?_append, hf, if_pos h]
    simp
  | a :: l, i + 1, r, h => by
    have := flat_get hf l i r h
    rw [List.flatMap_cons, List.getElem?_append, hf, if_neg (by rw [Nat.add_mul]; omega)]
    rw [show (i + 1) * k + r - k = i * k + r by rw [Nat.add_mul]; omega, this]
    simp

theorem open_i64 {P : Program} {t : TypeId} (ht : P.underlying t = some (.int .i64)) {H : Type} {enc : TypeId × Value → H} {w : World} {v : Value} {d : DataW H} {ps : List MemPlace}
    (h : DataW.Trod enc P w 0 (fun _ => true) true t v d ps) (hv : ∃ n, v = .int .i64 n) : ∃ n, v = .int .i64 n ∧ isI64 n := by
  obtain ⟨n, rfl⟩ := hv
  obtain ⟨fuel, hf⟩ := h
  obtain ⟨n', h, _, hw⟩ := DataW.trod_int ht hf
  simp [Value.cells] at h
  subst h
  exact ⟨n, rfl, i64_bd hw⟩

end Go.Proofs.YtipmjleohadoeaaGreat

end

section
/- A region that draws its order, whose operations read and whose callees read and make memory of their own: one walk, in the order of the text. -/
namespace Go.Proofs.YtipmjleohadoeaaGreat
open Go.RowKit
set_option linter.unusedVariables false

/-- A world that has come of w: what was there is as it was. -/
structure Later (w : World) where
  W : World
  h : Below w.heap.size w W

instance (w : World) : Nonempty (Later w) := ⟨⟨w, Below.refl _ _⟩⟩

theorem wp_region_later {P : Program} {id : Nat} {Q : Exit → Act → World → Prop} {a : Act} {w : World} {l : List Oper} (hm : P.follows .mixedOrders = true) (hB : Region.lexB .any l.toArray = true)
    (h : wpQuiet P l.toArray (fun w' => ∃ p : Later w, w' = p.W) (fun a' => ∀ w', (∃ p : Later w, w' = p.W) → Q .normal a' w') l a) : (Code.region id l.toArray true).wp P Q a w :=
  wp_region_quiet (C := fun w' => ∃ p : Later w, w' = p.W) hm hB ⟨⟨w.drew, (Below.refl _ _).drew⟩, rfl⟩ (by simpa using h)

theorem later_cell {w : World} {b o : Nat} {v : Value} (h : w.cell? ⟨b, o, none⟩ = some v) : ∀ p : Later w, p.W.cell? ⟨b, o, none⟩ = some v :=
  fun p => (p.h.cell (p := ⟨b, o, none⟩) (World.block_lt_of_cell? w ⟨b, o, none⟩ h)).trans h

theorem later_call {P : Program} {f : FuncId} {args : Array Value} {w : World} {v : Value} (p : Later w)
    (h : Calls P f args p.W fun e w' => e = .returned v ∧ Below p.W.heap.size p.W w') : Calls P f args p.W fun e w'' => e = .returned v ∧ ∃ q : Later w, w'' = q.W :=
  h.mono fun _ w' ⟨he, hb⟩ => ⟨he, ⟨w', p.h.trans (hb.mono p.h.size)⟩, rfl⟩

theorem later_same {P : Program} {f : FuncId} {args : Array Value} {w : World} {v : Value} (p : Later w)
    (h : Calls P f args p.W fun e w' => e = .returned v ∧ p.W = w') : Calls P f args p.W fun e w'' => e = .returned v ∧ ∃ q : Later w, w'' = q.W :=
  h.mono fun _ w' ⟨he, hb⟩ => ⟨he, p, hb.symm⟩

theorem Rd.later {w : World} {B k n : Nat} {v : Value} {xs : List Value} (h : Rd w B k v n xs) (hB : B ≤ w.heap.size) (p : Later w) : Rd p.W p.W.heap.size k v n xs :=
  (h.below (p.h.mono hB)).more (Nat.le_trans hB p.h.size)

theorem Rd.cap {w : World} {B k n m cap : Nat} {A : Option Addr} {xs : List Value} (h : Rd w B k (.slice A n cap) m xs) : n ≤ cap ∧ cap ≤ 9223372036854775807 := by
  obtain ⟨h1, A', c, h2, h3, h4, h5⟩ := h
  injection h2 with _ e1 e2
  subst e1 e2
  unfold maxLen at h4
  omega

/-- A slice's beginning. -/
theorem Rd.take {w : World} {B k n cap : Nat} {A : Option Addr} {xs : List Value} (h : Rd w B k (.slice A n cap) n xs) {j : Nat} (hj : j ≤ n) : Rd w B k (.slice A j cap) j (xs.take (j * k)) := by
  obtain ⟨h1, A', c, h2, h3, h4, h5⟩ := h
  injection h2 with e1 _ e2
  subst e1 e2
  refine ⟨?_, A, cap, rfl, by omega, h4, fun hn => ?_⟩
  · rw [List.length_take, h1]
    exact Nat.min_eq_left (Nat.mul_le_mul_right _ hj)
  · obtain ⟨b, o, e, hb, hl⟩ := h5 (by omega)
    exact ⟨b, o, e, hb, hl.take _⟩
end Go.Proofs.YtipmjleohadoeaaGreat

end

section
/- Slices that the call owns, over other work: what came behind; two of them of unlike elements. Plain facts on worlds. -/
namespace Go.Proofs.YtipmjleohadoeaaGreat
open Go.RowKit
set_option linter.unusedVariables false

section
variable {w w' : World} {base base' k k' n n' : Nat} {e e' : TypeId} {v v' : Value} {xs xs' : List Value}

theorem own_below (h : w.ownsRow base e k v n xs) (hb : Below w.heap.size w w') : w'.ownsRow base e k v n xs := by
  refine ⟨h.1, ?_⟩
  rcases h.2 with hn | ⟨g, cap, cur, rfl, hbg, hg, r⟩
  · exact .inl hn
  · exact .inr ⟨g, cap, cur, rfl, hbg, (hb.block g (Array.getElem?_eq_some_iff.1 hg).1).trans hg, r⟩

theorem own_apart (h : w.ownsRow base e k v n xs) (h' : w.ownsRow base' e' k' v' n' xs') (hne : e ≠ e') : v.ownBlock = none ∨ v.ownBlock ≠ v'.ownBlock := by
  rcases h.2 with ⟨rfl, _⟩ | ⟨g, cap, cur, rfl, _, hg, _⟩
  · exact .inl rfl
  · refine .inr ?_
    rcases h'.2 with ⟨rfl, _⟩ | ⟨g', cap', cur', rfl, _, hg', _⟩
    · simp [Value.ownBlock]
    · intro he
      have e1 : g = g' := by simpa [Value.ownBlock] using he
      subst e1
      rw [hg] at hg'
      injection hg' with hg'
      injection hg' with _ ht
      exact hne ht

theorem own_slice (h : w.ownsRow base e k v n xs) : ∃ A c, v = .slice A n c ∧ n ≤ c ∧ c ≤ 9223372036854775807 ∧ (0 < n → ∃ g, A = some ⟨g, 0, none⟩ ∧ base ≤ g ∧ g < w.heap.size ∧ Lies w g 0 xs) := by
  have hr := Rd.of_own h
  obtain ⟨_, A, c, rfl, hc, hm, hl⟩ := hr
  unfold maxLen at hm
  refine ⟨A, c, rfl, hc, by omega, fun hn => ?_⟩
  obtain ⟨b, o, rfl, hb, hlies⟩ := hl hn
  obtain ⟨g, cap, e1, hg, hlt⟩ := h.form hn
  injection e1 with e1
  injection e1 with e1
  injection e1 with e2 e3
  subst e2 e3
  exact ⟨b, rfl, hg, hlt, hlies⟩

theorem own_lt (h : w.ownsRow base e k v n xs) : ∀ j, v.ownBlock = some j → base ≤ j := fun j hj => (h.lt j hj).1

end

end Go.Proofs.YtipmjleohadoeaaGreat

end

section
/- Footprints: a world that is as another one but for certain blocks and new ones. Plain facts on worlds. -/
namespace Go.Proofs.YtipmjleohadoeaaGreat
open Go.RowKit
set_option linter.unusedVariables false

/-- w' is as w but for the blocks of S and new ones. -/
structure Fp (S : Nat → Prop) (w w' : World) : Prop where
  os : w'.os = w.os
  tape : w'.tape = w.tape
  output : w'.output = w.output
  size : w.heap.size ≤ w'.heap.size
  block : ∀ k, k < w.heap.size → ¬ S k → w'.heap[k]? = w.heap[k]?

section
variable {w w' w'' : World} {S S' : Nat → Prop} {B : Nat}
theorem Fp.refl (S : Nat → Prop) (w : World) : Fp S w w := ⟨rfl, rfl, rfl, Nat.le_refl _, fun _ _ _ => rfl⟩
theorem Fp.trans (h : Fp S w w') (g : Fp S' w' w'') (hs : ∀ k, S' k → S k ∨ w.heap.size ≤ k) : Fp S w w'' :=
  ⟨g.os.trans h.os, g.tape.trans h.tape, g.output.trans h.output, Nat.le_trans h.size g.size, fun k hk hn => by
    refine (g.block k (Nat.lt_of_lt_of_le hk h.size) fun hS => ?_).trans (h.block k hk hn)
    rcases hs k hS with h1 | h1
    · exact hn h1
    · omega⟩
theorem Fp.mono (h : Fp S w w') (hs : ∀ k, k < w.heap.size → S k → S' k) : Fp S' w w' := ⟨h.os, h.tape, h.output, h.size, fun k hk hn => h.block k hk fun h' => hn (hs k hk h')⟩
theorem Fp.of_below (h : Below w.heap.size w w') (S : Nat → Prop) : Fp S w w' := ⟨h.os, h.tape, h.output, h.size, fun k hk _ => h.block k hk⟩
theorem Fp.to_below (h : Fp S w w') (hB : B ≤ w.heap.size) (hs : ∀ k, k < w.heap.size → S k → B ≤ k) : Below B w w' :=
  ⟨h.os, h.tape, h.output, h.size, fun k hk => h.block k (by omega) fun h' => by have := hs k (by omega) h'; omega⟩
theorem Fp.below (h : Fp S w w') (g : Below w'.heap.size w' w'') : Fp S w w'' := h.trans (Fp.of_below g (fun _ => False)) (fun _ h => h.elim)
theorem Fp.drewN (h : Fp S w w') (n : Nat) : Fp S w (w'.drewN n) := ⟨h.os, h.tape, h.output, h.size, h.block⟩
theorem Fp.drew (h : Fp S w w') : Fp S w w'.drew := ⟨h.os, h.tape, h.output, h.size, h.block⟩
theorem Fp.alloc (h : Fp S w w') (o : Obj) : Fp S w (w'.alloc o) := h.below ((Below.refl _ _).alloc (Nat.le_refl _) _)
theorem Fp.setCell (h : Fp S w w') {p : Addr} (hp : S p.block ∨ w.heap.size ≤ p.block) (u : Value) : Fp S w (w'.setCell p u) :=
  ⟨h.os, h.tape, h.output, by simpa [World.setCell] using h.size, fun k hk hn => (Below.heap_setCell w' p u k (by
    rintro rfl
    rcases hp with hp | hp
    · exact hn hp
    · omega)).trans (h.block k hk hn)⟩
theorem Fp.setCells (h : Fp S w w') {b o : Nat} (hp : S b ∨ w.heap.size ≤ b) (vs : List Value) : Fp S w (w'.setCells b o vs) := by
  induction vs generalizing w' o with
  | nil => exact h
  | cons v vs ih => exact ih (h.setCell (p := ⟨b, o, none⟩) hp v)
theorem Fp.grown {row : Option Nat} (h : Fp S w w') (g : w'.grownBy w'' row) (hr : ∀ k, row = some k → S k ∨ w.heap.size ≤ k) : Fp S w w'' :=
  ⟨g.os.trans h.os, g.tape.trans h.tape, g.output.trans h.output, Nat.le_trans h.size g.size, fun k hk hn => by
    refine (g.block k (Nat.lt_of_lt_of_le hk h.size) fun e => ?_).trans (h.block k hk hn)
    rcases hr k e.symm with h1 | h1
    · exact hn h1
    · omega⟩
theorem Fp.cell (h : Fp S w w') {b o : Nat} (hb : b < w.heap.size) (hn : ¬ S b) : w'.cell? ⟨b, o, none⟩ = w.cell? ⟨b, o, none⟩ := World.cell?_of_block (a := ⟨b, o, none⟩) (h.block b hb hn)
theorem Rd.fp {k n : Nat} {v : Value} {xs : List Value} (h : Rd w B k v n xs) (g : Fp S w w') (hB : B ≤ w.heap.size) (hs : ∀ k, k < B → ¬ S k) : Rd w' B k v n xs := h.keep fun b hb => g.block b (by omega) (hs b hb)
end
end Go.Proofs.YtipmjleohadoeaaGreat

end

section
/- Laws for the walk at loads, stores and builds of many-celled values; still regions. No function in sight. -/
namespace Go.Proofs.YtipmjleohadoeaaGreat
open Go.RowKit
set_option linter.unusedVariables false

theorem wp_region_still_tail_drew {P : Program} {id : Nat} {Q : Exit → Act → World → Prop} {a : Act} {w : World} {l : List Oper} (n : Nat) (hm : P.follows .mixedOrders = true) (hB : Region.lexTailB .any l.toArray n = true)
    (h : wpStill P l.toArray w.drew (fun a' => wpList P l.toArray Q (l.drop n) a' w.drew) (l.take n) a) : (Code.region id l.toArray true).wp P Q a w := wp_region_still_tail n hm hB h
theorem later_out {w w' : World} (h : ∃ p : Later w, w' = p.W) : Below w.heap.size w w' := by obtain ⟨p, rfl⟩ := h; exact p.h
theorem quiet_val {P : Program} {ops : Array Oper} {C : World → Prop} {Q : Act → Prop} {a : Act} {o : Oper} {rest : List Oper} (hw : Region.wanted o (yielded ops a.tmps) = true) (v : Value)
    (hr : ∀ w, C w → (execOp a.eval o).run P w = .ok (.value v) w) (h : ∀ K : Act → Prop, (∀ a, wpQuiet P ops C Q rest a → K a) → K (a.put o.dst v)) : wpQuiet P ops C Q (o :: rest) a := by
  refine wpQuiet_step fun K hK => ?_
  rw [if_pos hw]
  refine ⟨v, fun w hC => ?_, h K hK⟩
  unfold Oper.quietAt
  rw [hr w hC]
  exact ⟨rfl, rfl⟩
theorem list_val {P : Program} {ops : Array Oper} {Q : Exit → Act → World → Prop} {a : Act} {w : World} {o : Oper} {rest : List Oper} (hw : Region.wanted o (yielded ops a.tmps) = true) (v : Value)
    (hr : (execOp a.eval o).run P w = .ok (.value v) w) (h : wpList P ops Q rest (a.put o.dst v) w) : wpList P ops Q (o :: rest) a w := by
  refine BigFrame.wpList_want hw fun K hK => ?_
  unfold Oper.wp
  rw [hr]
  exact hK _ _ h
theorem exec_load_mid {P : Program} {a : Act} {o : Oper} {w : World} (ty : TypeId) (x : Operand) (ho : o.op = .load ty x) (b off : Nat) (hx : a.eval x = .pointer (some ⟨b, off, none⟩)) (cs : List Value) (d : TypeDesc)
    (hc : w.rangeAt b off cs) (hu : P.underlying ty = some d) (hd : d.isRow = true) (hi : (P.info? ty).map (·.size) = some cs.length) : (execOp a.eval o).run P w = .ok (.value (.agg cs.toArray)) w := by
  unfold execOp
  simp only [ho, hx, Instr.loadAt, Instr.sureAddr, Sem.run_bind, Sem.run_pure, Result.andThen_ok, run_loadVar_mid w b off ty cs d hc hu hd hi]
theorem quiet_load {P : Program} {ops : Array Oper} {C : World → Prop} {Q : Act → Prop} {a : Act} {o : Oper} {rest : List Oper} (hw : Region.wanted o (yielded ops a.tmps) = true) (ty : TypeId) (x : Operand) (ho : o.op = .load ty x)
    (b off : Nat) (hx : a.eval x = .pointer (some ⟨b, off, none⟩)) (cs : List Value) (d : TypeDesc) (hc : ∀ w, C w → w.rangeAt b off cs) (hu : P.underlying ty = some d) (hd : d.isRow = true) (hi : (P.info? ty).map (·.size) = some cs.length)
    (h : ∀ K : Act → Prop, (∀ a, wpQuiet P ops C Q rest a → K a) → K (a.put o.dst (.agg cs.toArray))) : wpQuiet P ops C Q (o :: rest) a :=
  quiet_val hw _ (fun w hC => exec_load_mid ty x ho b off hx cs d (hc w hC) hu hd hi) h
theorem list_load {P : Program} {ops : Array Oper} {Q : Exit → Act → World → Prop} {a : Act} {w : World} {o : Oper} {rest : List Oper} (hw : Region.wanted o (yielded ops a.tmps) = true) (ty : TypeId) (x : Operand) (ho : o.op = .load ty x)
    (b off : Nat) (hx : a.eval x = .pointer (some ⟨b, off, none⟩)) (cs : List Value) (d : TypeDesc) (hc : w.rangeAt b off cs) (hu : P.underlying ty = some d) (hd : d.isRow = true) (hi : (P.info? ty).map (·.size) = some cs.length)
    (h : wpList P ops Q rest (a.put o.dst (.agg cs.toArray)) w) : wpList P ops Q (o :: rest) a w :=
  list_val hw _ (exec_load_mid ty x ho b off hx cs d hc hu hd hi) h
theorem range_keep {w w' : World} {b o : Nat} {cs : List Value} (h : w.rangeAt b o cs) (hk : w'.heap[b]? = w.heap[b]?) : w'.rangeAt b o cs :=
  fun j v hv => (World.cell?_of_block (a := ⟨b, o + j, none⟩) hk).trans (h j v hv)
theorem range_new (w : World) (cs : Array Value) (t : TypeId) : (w.alloc (.cells cs t)).rangeAt w.heap.size 0 cs.toList := fun j v hv => by
  rw [Nat.zero_add, cell_of_row _ w.heap.size j cs t (0, 0) (heap_alloc_new w _)]
  simpa using hv
theorem fold_set (vs : List Value) : ∀ (k : Nat) (pre rest : List Value), pre.length = k → rest.length = vs.length →
    List.foldl (fun (cs : Array Value) (x : Value × Nat) => cs.setIfInBounds x.2 x.1) (pre ++ rest).toArray (vs.zipIdx k) = (pre ++ vs).toArray := by
  induction vs with
  | nil => intro k pre rest _ h; obtain rfl : rest = [] := List.eq_nil_of_length_eq_zero (by simpa using h); simp
  | cons v vs ih =>
    intro k pre rest hk h
    match rest, h with
    | r :: rest, h =>
      rw [List.zipIdx_cons, List.foldl_cons]
      have e : (pre ++ r :: rest).toArray.setIfInBounds k v = ((pre ++ [v]) ++ rest).toArray := by
        apply Array.ext'
        simp [← hk]
      show List.foldl _ ((pre ++ r :: rest).toArray.setIfInBounds k v) _ = _
      rw [e, ih (k + 1) (pre ++ [v]) rest (by simp [hk]) (by simpa using h)]
      simp
theorem fill_all (vs : List Value) (z : Array Value) (h : z.size = vs.length) : Instr.fill (fun i => some (i * vs.length, vs.length)) z [(0, .agg vs.toArray)] = some vs.toArray := by
  have e := fold_set vs 0 [] z.toList rfl (by simpa using h)
  simp only [List.nil_append, Array.toArray_toList] at e
  simp only [Instr.fill, Value.cells, List.size_toArray, Nat.zero_mul, Nat.zero_add, h]
  rw [if_neg (by simp)]
  congr 1
  refine Eq.trans ?_ e
  simp
theorem run_build1 {P : Program} (w : World) (t e : TypeId) (vs : List Value) (hu : P.underlying t = some (.slice e)) (hz : (P.info? e).map (fun i => (i.zero.map (·.cells.size), i.size)) = some (some vs.length, vs.length)) (h0 : 0 < vs.length) (hn : vs.length ≤ 16777216) :
    (Instr.buildSlice t 1 #[(0, .agg vs.toArray)]).run P w = .ok (.slice (some ⟨w.heap.size, 0, none⟩) 1 1) (w.alloc (.cells vs.toArray e)) := by
  cases hi : P.info? e with
  | none => rw [hi] at hz; simp at hz
  | some i =>
    rw [hi] at hz
    simp only [Option.map_some, Option.some.injEq, Prod.mk.injEq] at hz
    obtain ⟨hz1, hs⟩ := hz
    cases hzz : i.zero with
    | none => rw [hzz] at hz1; simp at hz1
    | some z =>
      rw [hzz] at hz1
      have hz2 : z.cells.size = vs.length := by simpa using hz1
      have hf := fill_all vs ((Array.range (1 * vs.length)).map (z.cells[· % z.cells.size]!)) (by simp)
      have h16 : ¬ (1 * vs.length > 2 ^ 24) := by omega
      have hne : ¬ (1 * vs.length = 0) := by omega
      simp [Instr.buildSlice, run_underlying hu, sizeOf, typeInfo, zeroValue, hi, hzz, hs]
      rw [if_neg (by omega), if_neg (by intro h; subst h; simp at h0)]
      rw [Nat.one_mul] at hf
      rw [hf]
      simp [newRow, go_sem]
theorem list_build1 {P : Program} {ops : Array Oper} {Q : Exit → Act → World → Prop} {a : Act} {w : World} {o : Oper} {rest : List Oper} (hw : Region.wanted o (yielded ops a.tmps) = true) (t : TypeId) (x : Operand) (ho : o.op = .buildSlice t 1 #[(0, x)])
    (e : TypeId) (vs : List Value) (hx : a.eval x = .agg vs.toArray) (hu : P.underlying t = some (.slice e)) (hz : (P.info? e).map (fun i => (i.zero.map (·.cells.size), i.size)) = some (some vs.length, vs.length)) (h0 : 0 < vs.length) (hn : vs.length ≤ 16777216)
    (h : wpList P ops Q rest (a.put o.dst (.slice (some ⟨w.heap.size, 0, none⟩) 1 1)) (w.alloc (.cells vs.toArray e))) : wpList P ops Q (o :: rest) a w := by
  refine BigFrame.wpList_want hw fun K hK => ?_
  have hr := run_build1 (P := P) w t e vs hu hz h0 hn
  unfold Oper.wp execOp
  simp [ho, hx, hr, Result.andThen]
  exact hK _ _ h
theorem there_new (w : World) (z : Array Value) (t : TypeId) : (w.alloc (.cells z t)).there w.heap.size 0 z.size := fun j hj => by
  refine ⟨?_, ?_⟩
  · rw [Nat.zero_add, cell_of_row _ w.heap.size j z t (0, 0) (heap_alloc_new w _)]
    simp [hj]
  · exact frozen_of_row _ w.heap.size (0 + j) z t (heap_alloc_new w _)
/-- A whole value goes into the block that has just been made for it. -/
theorem list_store_new {P : Program} {ops : Array Oper} {Q : Exit → Act → World → Prop} {a : Act} {w : World} {o : Oper} {rest : List Oper} (hw : Region.wanted o (yielded ops a.tmps) = true) (ty : TypeId) (x y : Operand) (ho : o.op = .store ty x y)
    (z : Array Value) (t : TypeId) (cs : List Value) (hx : a.eval x = .pointer (some ⟨w.heap.size, 0, none⟩)) (hy : a.eval y = .agg cs.toArray) (hz : z.size = cs.length) (hi : (P.info? ty).map (·.size) = some cs.length) (h1 : ∀ v ∈ cs, v.oneCell' = true)
    (h : ∀ w', Below w.heap.size w w' → w'.rangeAt w.heap.size 0 cs → w'.heap.size = w.heap.size + 1 → wpList P ops Q rest (a.put o.dst undef) w') : wpList P ops Q (o :: rest) a (w.alloc (.cells z t)) := by
  have ht : (w.alloc (.cells z t)).there w.heap.size 0 cs.toArray.size := by
    have := there_new w z t
    rwa [hz] at this
  refine BigFrame.wpList_want hw fun K hK => wp_store_mid ty x y ho w.heap.size 0 cs.toArray hx hy ht (by simpa using hi) (all_oneCell_toArray h1) (hK _ _ ?_)
  have hb : ∀ (vs : List Value) (o : Nat) (w0 : World), (w0.setCells w.heap.size o vs).heap.size = w0.heap.size := by
    intro vs
    induction vs with
    | nil => intro o w0; rfl
    | cons v vs ih => intro o w0; exact (ih (o + 1) _).trans (by simp [World.setCell])
  refine h _ ?_ (World.rangeAt_setCells_same _ _ _ _ (by simpa using ht)) (by rw [hb]; simp)
  have h2 : Fp (fun _ => False) w ((w.alloc (.cells z t)).setCells w.heap.size 0 cs.toArray.toList) := ((Fp.refl (fun _ => False) w).alloc _).setCells (Or.inr (Nat.le_refl _)) _
  exact h2.to_below (Nat.le_refl _) fun k _ h => h.elim
theorem own_more {w : World} {base base' k n : Nat} {e : TypeId} {v : Value} {xs : List Value} (h : w.ownsRow base e k v n xs) (hb : base' ≤ base) : w.ownsRow base' e k v n xs := by
  refine ⟨h.1, h.2.imp id ?_⟩
  rintro ⟨g, cap, cur, e1, h1, r⟩
  exact ⟨g, cap, cur, e1, by omega, r⟩
end Go.Proofs.YtipmjleohadoeaaGreat

end

section
/- Requests as values: their cells; whether two are the same. -/
namespace Psp
set_option linter.unusedVariables false

structure Req where
  c : Int
  t : Int
  k : Int
  y : Int
  v : Int
  s : Int

theorem Req.eq_iff (a b : Req) : a = b ↔ (a.c = b.c ∧ a.t = b.t ∧ a.k = b.k ∧ a.y = b.y ∧ a.v = b.v ∧ a.s = b.s) := by
  cases a; cases b; simp
instance : DecidableEq Req := fun a b => decidable_of_iff _ (Req.eq_iff a b).symm
end Psp
namespace Go.Proofs.YtipmjleohadoeaaGreat
open Go.RowKit
set_option linter.unusedVariables false

/-- A request as cells. -/
def rq (r : Psp.Req) : List Value := [iv r.c, iv r.t, iv r.k, iv r.y, iv r.v, iv r.s]
/-- A request's numbers are int64s. -/
def wfReq (r : Psp.Req) : Prop := isI64 r.c ∧ isI64 r.t ∧ isI64 r.k ∧ isI64 r.y ∧ isI64 r.v ∧ isI64 r.s
theorem reqE : Elem Tryz.prog 51 42 6 48 := ⟨Tryz.underlying51, by kernel_rfl, by decide⟩
end Go.Proofs.YtipmjleohadoeaaGreat

end

section
/- Chapter 2's bytes, in plain words: how things are written, and taken again. No program in sight. -/
namespace Psp
set_option linter.unusedVariables false

structure Vote where
  n : Int
  s : Int
deriving DecidableEq
structure Cert where
  v : Int
  i : Int
  q : Int
  b : List Req
  o : List Vote
deriving DecidableEq
structure Part where
  f : Int
  o : List Vote
  c : List Cert
  s : Int
deriving DecidableEq

def okN (n : Int) : Bool := decide (0 ≤ n ∧ n < 1099511627776)
def okS (n : Int) : Bool := decide (-549755813888 ≤ n ∧ n < 549755813888)
def encN (n : Int) : List UInt8 := num n.toNat
def encS (n : Int) : List UInt8 := num (zig n).toNat
def encL {α : Type} (e : α → List UInt8) (l : List α) : List UInt8 := encN l.length ++ l.flatMap e
def okL {α : Type} (ok : α → Bool) (l : List α) : Bool := decide (l.length ≤ 256) && l.all ok
def encR (r : Req) : List UInt8 := encN r.c ++ (encN r.t ++ (encN r.k ++ (encS r.y ++ (encS r.v ++ encN r.s))))
def okR (r : Req) : Bool := okN r.c && (okN r.t && (okN r.k && (okS r.y && (okS r.v && okN r.s))))
def encV (v : Vote) : List UInt8 := encN v.n ++ encN v.s
def okV (v : Vote) : Bool := okN v.n && okN v.s
def encC (c : Cert) : List UInt8 := encN c.v ++ (encN c.i ++ (encN c.q ++ (encL encR c.b ++ encL encV c.o)))
def okC (c : Cert) : Bool := okN c.v && (okN c.i && (okN c.q && (okL okR c.b && okL okV c.o)))
def encP (p : Part) : List UInt8 := encN p.f ++ (encL encV p.o ++ (encL encC p.c ++ encN p.s))
def okP (p : Part) : Bool := okN p.f && (okL okV p.o && (okL okC p.c && okN p.s))

theorem okN_iff (n : Int) : okN n = true ↔ 0 ≤ n ∧ n < 1099511627776 := by simp [okN]
theorem okS_iff (n : Int) : okS n = true ↔ -549755813888 ≤ n ∧ n < 549755813888 := by simp [okS]
theorem encN_len {n : Int} (h : okN n = true) : 1 ≤ (encN n).length ∧ (encN n).length ≤ 6 := by
  obtain ⟨h0, h1⟩ := (okN_iff n).1 h
  exact ⟨num_pos _, num_len6 (by omega)⟩
theorem encS_len (n : Int) : 1 ≤ (encS n).length ∧ (encS n).length ≤ 6 := by
  have := zig_bd n
  exact ⟨num_pos _, num_len6 (by omega)⟩
theorem flat_step {α : Type} (e : α → List UInt8) {l : List α} {k : Nat} (h : k < l.length) : (l.take (k + 1)).flatMap e = (l.take k).flatMap e ++ e l[k] := by
  rw [List.take_succ_eq_append_getElem h, List.flatMap_append]; simp
theorem all_step {α : Type} (p : α → Bool) {l : List α} {k : Nat} (h : k < l.length) : (l.take (k + 1)).all p = ((l.take k).all p && p l[k]) := by
  rw [List.take_succ_eq_append_getElem h, List.all_append]; simp

/-! ### Where bytes stand -/
/-- The bytes e stand in b from a to a'. -/
def At (b : List UInt8) (a a' : Int) (e : List UInt8) : Prop := ∃ pre suf, b = pre ++ (e ++ suf) ∧ a = (pre.length : Int) ∧ a' = ((pre.length + e.length : Nat) : Int)
theorem At.bd {b e : List UInt8} {a a' : Int} (h : At b a a' e) : 0 ≤ a ∧ a' = a + e.length ∧ a' ≤ b.length := by
  obtain ⟨pre, suf, rfl, rfl, rfl⟩ := h
  simp only [List.length_append]
  omega
theorem at_app {b e f : List UInt8} {a c : Int} : At b a c (e ++ f) ↔ ∃ m, At b a m e ∧ At b m c f := by
  constructor
  · rintro ⟨pre, suf, rfl, rfl, rfl⟩
    exact ⟨((pre.length + e.length : Nat) : Int), ⟨pre, f ++ suf, by simp, rfl, rfl⟩, ⟨pre ++ e, suf, by simp, by simp, by simp; omega⟩⟩
  · rintro ⟨m, ⟨pre, suf, h1, rfl, rfl⟩, ⟨pre', suf', h2, h3, rfl⟩⟩
    have hl : pre'.length = (pre ++ e).length := by simp; omega
    have e1 : pre' ++ (f ++ suf') = (pre ++ e) ++ suf := by rw [← h2, h1]; simp
    obtain ⟨rfl, rfl⟩ := List.append_inj e1 hl
    exact ⟨pre, suf', by rw [h1]; simp, rfl, by simp; omega⟩
theorem at_nil {b : List UInt8} {a c : Int} : At b a c [] ↔ 0 ≤ a ∧ a ≤ b.length ∧ c = a := by
  constructor
  · intro h; have := h.bd; simp at this; omega
  · rintro ⟨h0, h1, rfl⟩
    exact ⟨b.take c.toNat, b.drop c.toNat, by simp, by simp; omega, by simp; omega⟩
theorem At.pre {b e : List UInt8} (r : List UInt8) {a c : Int} (h : At b a c e) : At (b ++ r) a c e := by
  obtain ⟨p, s, rfl, rfl, rfl⟩ := h
  exact ⟨p, s ++ r, by simp, rfl, rfl⟩
theorem at_zero (e r : List UInt8) : At (e ++ r) 0 e.length e := ⟨[], r, by simp, rfl, by simp⟩

/-! ### Takers -/
/-- What stands in bytes at a place, and the place behind it. -/
abbrev Dec (α : Type) := List UInt8 → Int → Option (α × Int)
/-- d takes just what e writes of what is ok. -/
def Codec {α : Type} (e : α → List UInt8) (ok : α → Bool) (d : Dec α) : Prop := ∀ b a x a', d b a = some (x, a') ↔ (ok x = true ∧ At b a a' (e x))
end Psp
namespace Go.Proofs.YtipmjleohadoeaaGreat
open Psp
def dN : Dec Int := fun b a => (takeAt b a).map fun p => ((p.1 : Int), a + (p.2 : Int))
theorem codec_N : Codec encN okN dN := by
  intro b a x a'
  unfold dN
  constructor
  · intro h
    cases ht : takeAt b a with
    | none => rw [ht] at h; cases h
    | some p =>
      rw [ht] at h
      obtain ⟨v, m⟩ := p
      simp only [Option.map_some, Option.some.injEq, Prod.mk.injEq] at h
      obtain ⟨rfl, rfl⟩ := h
      have hb := takeAt_bd ht
      unfold takeAt at ht
      rw [if_neg (by omega)] at ht
      obtain ⟨h1, h2, r, h3⟩ := take_some ht
      refine ⟨(okN_iff _).2 ⟨by omega, by omega⟩, b.take a.toNat, r, ?_, ?_, ?_⟩
      · unfold encN
        rw [Int.toNat_natCast, ← h3, List.take_append_drop]
      · rw [List.length_take]; omega
      · unfold encN
        rw [Int.toNat_natCast, ← h2, List.length_take]; omega
  · rintro ⟨h, pre, suf, rfl, rfl, rfl⟩
    obtain ⟨h0, h1⟩ := (okN_iff x).1 h
    have : takeAt (pre ++ (encN x ++ suf)) (pre.length : Int) = some (x.toNat, (encN x).length) := by
      unfold takeAt
      rw [if_neg (by omega), Int.toNat_natCast, List.drop_left]
      exact take_num suf (by omega)
    rw [this]
    simp only [Option.map_some, Option.some.injEq, Prod.mk.injEq]
    exact ⟨by omega, by omega⟩
theorem dN_bd {b : List UInt8} {a n a' : Int} (h : dN b a = some (n, a')) : 0 ≤ n ∧ n < 1099511627776 ∧ 0 ≤ a ∧ a < a' ∧ a' ≤ b.length := by
  obtain ⟨h1, h2⟩ := (codec_N b a n a').1 h
  have h3 := (okN_iff n).1 h1
  have h4 := encN_len h1
  have h5 := h2.bd
  omega
end Go.Proofs.YtipmjleohadoeaaGreat
namespace Psp
open Go.Proofs.YtipmjleohadoeaaGreat
def dS : Dec Int := fun b a => (dN b a).map fun p => (zag p.1, p.2)
theorem codec_S : Codec encS okS dS := by
  intro b a x a'
  unfold dS
  constructor
  · intro h
    cases ht : dN b a with
    | none => rw [ht] at h; cases h
    | some p =>
      rw [ht] at h
      obtain ⟨n, c⟩ := p
      simp only [Option.map_some, Option.some.injEq, Prod.mk.injEq] at h
      obtain ⟨rfl, rfl⟩ := h
      obtain ⟨h1, h2⟩ := (codec_N b a n c).1 ht
      have h3 := (okN_iff n).1 h1
      have h4 := zag_bd n
      refine ⟨(okS_iff _).2 h4, ?_⟩
      unfold encS
      rw [zig_zag h3.1 h3.2]
      exact h2
  · rintro ⟨h, g⟩
    have h1 := (okS_iff x).1 h
    have hz := zig_bd x
    have : dN b a = some (zig x, a') := (codec_N b a _ _).2 ⟨(okN_iff _).2 ⟨hz.1, hz.2⟩, g⟩
    rw [this]
    simp only [Option.map_some, Option.some.injEq, Prod.mk.injEq, and_true]
    exact zag_zig h1.1 h1.2

/-- One behind the other. -/
theorem codec_bind {α β : Type} {d : Dec α} {e : α → List UInt8} {ok : α → Bool} (h : Codec e ok d) {b : List UInt8} {a a' : Int} {f : α × Int → Option (β × Int)} {y : β} :
    (d b a).bind f = some (y, a') ↔ ∃ x m, ok x = true ∧ At b a m (e x) ∧ f (x, m) = some (y, a') := by
  rw [Option.bind_eq_some_iff]
  constructor
  · rintro ⟨⟨x, m⟩, h1, h2⟩
    obtain ⟨h3, h4⟩ := (h b a x m).1 h1
    exact ⟨x, m, h3, h4, h2⟩
  · rintro ⟨x, m, h1, h2, h3⟩
    exact ⟨(x, m), (h b a x m).2 ⟨h1, h2⟩, h3⟩
theorem codec_map {α β : Type} {d : Dec α} {e : α → List UInt8} {ok : α → Bool} (h : Codec e ok d) {b : List UInt8} {a a' : Int} {f : α × Int → β × Int} {y : β} :
    (d b a).map f = some (y, a') ↔ ∃ x m, ok x = true ∧ At b a m (e x) ∧ f (x, m) = (y, a') := by
  rw [Option.map_eq_some_iff]
  constructor
  · rintro ⟨⟨x, m⟩, h1, h2⟩
    obtain ⟨h3, h4⟩ := (h b a x m).1 h1
    exact ⟨x, m, h3, h4, h2⟩
  · rintro ⟨x, m, h1, h2, h3⟩
    exact ⟨(x, m), (h b a x m).2 ⟨h1, h2⟩, h3⟩

def dMany {α : Type} (d : Dec α) (b : List UInt8) : Nat → Int → Option (List α × Int)
  | 0, a => some ([], a)
  | n + 1, a => (d b a).bind fun p => (dMany d b n p.2).map fun q => (p.1 :: q.1, q.2)
def dL {α : Type} (d : Dec α) : Dec (List α) := fun b a => (dN b a).bind fun p => if p.1 ≤ 256 then dMany d b p.1.toNat p.2 else none
theorem dMany_iff {α : Type} {d : Dec α} {e : α → List UInt8} {ok : α → Bool} (h : Codec e ok d) (b : List UInt8) : ∀ (n : Nat) (a : Int) (l : List α) (a' : Int), 0 ≤ a → a ≤ b.length →
    (dMany d b n a = some (l, a') ↔ l.length = n ∧ l.all ok = true ∧ At b a a' (l.flatMap e))
  | 0, a, l, a', h0, h1 => by
    unfold dMany
    constructor
    · intro g
      simp only [Option.some.injEq, Prod.mk.injEq] at g
      obtain ⟨rfl, rfl⟩ := g
      exact ⟨rfl, rfl, at_nil.2 ⟨h0, h1, rfl⟩⟩
    · rintro ⟨g1, g2, g3⟩
      have : l = [] := List.eq_nil_of_length_eq_zero g1
      subst this
      rw [(at_nil.1 g3).2.2]
  | n + 1, a, l, a', h0, h1 => by
    unfold dMany
    rw [codec_bind h]
    constructor
    · rintro ⟨x, m, h2, h3, h4⟩
      obtain ⟨⟨xs, m'⟩, h5, h6⟩ := Option.map_eq_some_iff.1 h4
      simp only [Prod.mk.injEq] at h6
      obtain ⟨rfl, rfl⟩ := h6
      have hb := h3.bd
      obtain ⟨h7, h8, h9⟩ := (dMany_iff h b n m xs m' (by omega) (by omega)).1 h5
      refine ⟨by simp [h7], by simp [h2] at h8 ⊢; exact h8, ?_⟩
      rw [List.flatMap_cons]
      exact at_app.2 ⟨m, h3, h9⟩
    · rintro ⟨h2, h3, h4⟩
      cases l with
      | nil => simp at h2
      | cons x xs =>
        rw [List.flatMap_cons] at h4
        obtain ⟨m, h5, h6⟩ := at_app.1 h4
        rw [List.all_cons, Bool.and_eq_true] at h3
        have hb := h5.bd
        have hb6 := h6.bd
        have := (dMany_iff h b n m xs a' (by omega) (by omega)).2 ⟨by simpa using h2, h3.2, h6⟩
        exact ⟨x, m, h3.1, h5, by rw [this]; rfl⟩
theorem codec_L {α : Type} {d : Dec α} {e : α → List UInt8} {ok : α → Bool} (h : Codec e ok d) : Codec (encL e) (okL ok) (dL d) := by
  intro b a l a'
  unfold dL okL encL
  rw [codec_bind codec_N, Bool.and_eq_true, decide_eq_true_eq]
  constructor
  · rintro ⟨n, m, h1, h2, h3⟩
    by_cases hn : n ≤ 256
    · rw [if_pos hn] at h3
      have hb := h2.bd
      obtain ⟨h4, h5, h6⟩ := (dMany_iff h b n.toNat m l a' (by omega) (by omega)).1 h3
      have h7 := (okN_iff n).1 h1
      have : (l.length : Int) = n := by omega
      exact ⟨⟨by omega, h5⟩, at_app.2 ⟨m, by rw [this]; exact h2, h6⟩⟩
    · rw [if_neg hn] at h3; cases h3
  · rintro ⟨⟨h1, h2⟩, h3⟩
    obtain ⟨m, h4, h5⟩ := at_app.1 h3
    have hb := h4.bd
    have hb5 := h5.bd
    refine ⟨(l.length : Int), m, (okN_iff _).2 ⟨by omega, by omega⟩, h4, ?_⟩
    rw [if_pos (by omega), Int.toNat_natCast]
    exact (dMany_iff h b _ m l a' (by omega) (by omega)).2 ⟨rfl, h2, h5⟩

def dR : Dec Req := fun b a => (dN b a).bind fun c => (dN b c.2).bind fun t => (dN b t.2).bind fun k => (dS b k.2).bind fun y => (dS b y.2).bind fun v => (dN b v.2).map fun s => (⟨c.1, t.1, k.1, y.1, v.1, s.1⟩, s.2)
theorem codec_R : Codec encR okR dR := by
  intro b a x a'
  unfold dR okR encR
  simp only [codec_bind codec_N, codec_bind codec_S, codec_map codec_N, Bool.and_eq_true, at_app, Prod.mk.injEq]
  constructor
  · rintro ⟨c, m1, o1, g1, t, m2, o2, g2, k, m3, o3, g3, y, m4, o4, g4, v, m5, o5, g5, s, m6, o6, g6, rfl, rfl⟩
    exact ⟨⟨o1, o2, o3, o4, o5, o6⟩, m1, g1, m2, g2, m3, g3, m4, g4, m5, g5, g6⟩
  · rintro ⟨⟨o1, o2, o3, o4, o5, o6⟩, m1, g1, m2, g2, m3, g3, m4, g4, m5, g5, g6⟩
    exact ⟨_, m1, o1, g1, _, m2, o2, g2, _, m3, o3, g3, _, m4, o4, g4, _, m5, o5, g5, _, a', o6, g6, rfl, rfl⟩
def dV : Dec Vote := fun b a => (dN b a).bind fun n => (dN b n.2).map fun s => (⟨n.1, s.1⟩, s.2)
theorem codec_V : Codec encV okV dV := by
  intro b a x a'
  unfold dV okV encV
  simp only [codec_bind codec_N, codec_map codec_N, Bool.and_eq_true, at_app, Prod.mk.injEq]
  constructor
  · rintro ⟨c, m1, o1, g1, t, m2, o2, g2, rfl, rfl⟩
    exact ⟨⟨o1, o2⟩, m1, g1, g2⟩
  · rintro ⟨⟨o1, o2⟩, m1, g1, g2⟩
    exact ⟨_, m1, o1, g1, _, a', o2, g2, rfl, rfl⟩
def dC : Dec Cert := fun b a => (dN b a).bind fun v => (dN b v.2).bind fun i => (dN b i.2).bind fun q => (dL dR b q.2).bind fun l => (dL dV b l.2).map fun o => (⟨v.1, i.1, q.1, l.1, o.1⟩, o.2)
theorem codec_C : Codec encC okC dC := by
  intro b a x a'
  unfold dC okC encC
  simp only [codec_bind codec_N, codec_bind (codec_L codec_R), codec_map (codec_L codec_V), Bool.and_eq_true, at_app (f := encL encV x.o), at_app (f := _ ++ _), Prod.mk.injEq]
  constructor
  · rintro ⟨c, m1, o1, g1, t, m2, o2, g2, k, m3, o3, g3, y, m4, o4, g4, v, m5, o5, g5, rfl, rfl⟩
    exact ⟨⟨o1, o2, o3, o4, o5⟩, m1, g1, m2, g2, m3, g3, m4, g4, g5⟩
  · rintro ⟨⟨o1, o2, o3, o4, o5⟩, m1, g1, m2, g2, m3, g3, m4, g4, g5⟩
    exact ⟨_, m1, o1, g1, _, m2, o2, g2, _, m3, o3, g3, _, m4, o4, g4, _, a', o5, g5, rfl, rfl⟩
def dP : Dec Part := fun b a => (dN b a).bind fun f => (dL dV b f.2).bind fun o => (dL dC b o.2).bind fun c => (dN b c.2).map fun s => (⟨f.1, o.1, c.1, s.1⟩, s.2)
theorem codec_P : Codec encP okP dP := by
  intro b a x a'
  unfold dP okP encP
  simp only [codec_bind codec_N, codec_bind (codec_L codec_V), codec_bind (codec_L codec_C), codec_map codec_N, Bool.and_eq_true, at_app (f := encN x.s), at_app (f := _ ++ _), Prod.mk.injEq]
  constructor
  · rintro ⟨c, m1, o1, g1, t, m2, o2, g2, k, m3, o3, g3, y, m4, o4, g4, rfl, rfl⟩
    exact ⟨⟨o1, o2, o3, o4⟩, m1, g1, m2, g2, m3, g3, g4⟩
  · rintro ⟨⟨o1, o2, o3, o4⟩, m1, g1, m2, g2, m3, g3, g4⟩
    exact ⟨_, m1, o1, g1, _, m2, o2, g2, _, m3, o3, g3, _, a', o4, g4, rfl, rfl⟩

section
variable {α : Type} {d : Dec α} {e : α → List UInt8} {ok : α → Bool}
theorem Codec.back (h : Codec e ok d) {x : α} (hx : ok x = true) (r : List UInt8) : d (e x ++ r) 0 = some (x, ((e x).length : Int)) := (h _ _ _ _).2 ⟨hx, at_zero _ _⟩
theorem Codec.inj (h : Codec e ok d) {x y : α} (hx : ok x = true) (hy : ok y = true) (he : e x = e y) : x = y := by
  have h1 := h.back hx []
  have h2 := h.back hy []
  rw [he] at h1
  rw [h1] at h2
  simpa using h2
theorem Codec.bd (h : Codec e ok d) {b : List UInt8} {a a' : Int} {x : α} (g : d b a = some (x, a')) : 0 ≤ a ∧ a ≤ a' ∧ a' ≤ b.length := by
  have := ((h _ _ _ _).1 g).2.bd
  omega
end

/-! ### What is written -/
/-- What writing e (may it be: ok) makes of what was written and of what was bad. -/
structure Wrote (e : List UInt8) (ok : Bool) (bnd : Nat) (out out' : List UInt8) (bad bad' : Bool) : Prop where
  isbad : bad' = (bad || !ok)
  isout : bad' = false → out' = out ++ e
  islen : out'.length ≤ out.length + bnd
theorem Wrote.trans {e f : List UInt8} {ok ok' : Bool} {n m : Nat} {o o' o'' : List UInt8} {b b' b'' : Bool} (h : Wrote e ok n o o' b b') (g : Wrote f ok' m o' o'' b' b'') : Wrote (e ++ f) (ok && ok') (n + m) o o'' b b'' := by
  refine ⟨by rw [g.isbad, h.isbad]; cases b <;> cases ok <;> cases ok' <;> rfl, fun hb => ?_, by have := h.islen; have := g.islen; omega⟩
  have hb' : b' = false := by rw [g.isbad] at hb; cases b' <;> simp_all
  rw [g.isout hb, h.isout hb', List.append_assoc]
theorem Wrote.more {e : List UInt8} {ok : Bool} {n m : Nat} {o o' : List UInt8} {b b' : Bool} (h : Wrote e ok n o o' b b') (hm : n ≤ m) : Wrote e ok m o o' b b' := ⟨h.isbad, h.isout, by have := h.islen; omega⟩
theorem Wrote.nil (o : List UInt8) (b : Bool) : Wrote [] true 0 o o b b := ⟨by simp, fun _ => by simp, by simp⟩
end Psp

end

section
/- Words for memory in chapter 2: a slice that reads as a list, in blocks of a kind; a writer's and a reader's block. Plain facts on worlds. -/
namespace Go.Proofs.YtipmjleohadoeaaGreat
open Go.RowKit
set_option linter.unusedVariables false

/-- The slice value v has n elements of k cells, which are xs and lie in a block of P. -/
def RdP (w : World) (P : Nat → Prop) (k : Nat) (v : Value) (n : Nat) (xs : List Value) : Prop :=
  xs.length = n * k ∧ ∃ A c, v = .slice A n c ∧ n ≤ c ∧ c ≤ maxLen ∧ (0 < n → ∃ b o, A = some ⟨b, o, none⟩ ∧ P b ∧ b < w.heap.size ∧ Lies w b o xs)
section
variable {w w' : World} {P P' : Nat → Prop} {B k n : Nat} {v : Value} {xs : List Value}
theorem RdP.keep (h : RdP w P k v n xs) (hs : w.heap.size ≤ w'.heap.size) (hk : ∀ b, P b → b < w.heap.size → w'.heap[b]? = w.heap[b]?) : RdP w' P k v n xs := by
  obtain ⟨h1, A, c, h2, h3, h4, h5⟩ := h
  refine ⟨h1, A, c, h2, h3, h4, fun hn => ?_⟩
  obtain ⟨b, o, e, hb, hlt, hl⟩ := h5 hn
  exact ⟨b, o, e, hb, by omega, hl.keep (hk b hb hlt)⟩
theorem RdP.mono (h : RdP w P k v n xs) (hP : ∀ b, b < w.heap.size → P b → P' b) : RdP w P' k v n xs := by
  obtain ⟨h1, A, c, h2, h3, h4, h5⟩ := h
  refine ⟨h1, A, c, h2, h3, h4, fun hn => ?_⟩
  obtain ⟨b, o, e, hb, hlt, hl⟩ := h5 hn
  exact ⟨b, o, e, hP b hlt hb, hlt, hl⟩
theorem RdP.fp {S : Nat → Prop} (h : RdP w P k v n xs) (g : Fp S w w') (hs : ∀ b, P b → ¬ S b) : RdP w' P k v n xs := h.keep g.size fun b hb hlt => g.block b hlt (hs b hb)
theorem RdP.below (h : RdP w P k v n xs) (g : Below w.heap.size w w') : RdP w' P k v n xs := h.keep g.size fun b hb hlt => g.block b hlt
theorem RdP.to_rd (h : RdP w P k v n xs) : Rd w w.heap.size k v n xs := by
  obtain ⟨h1, A, c, h2, h3, h4, h5⟩ := h
  refine ⟨h1, A, c, h2, h3, h4, fun hn => ?_⟩
  obtain ⟨b, o, e, hb, hlt, hl⟩ := h5 hn
  exact ⟨b, o, e, hlt, hl⟩
theorem Rd.to_p (h : Rd w B k v n xs) (hB : B ≤ w.heap.size) : RdP w (fun b => b < B) k v n xs := by
  obtain ⟨h1, A, c, h2, h3, h4, h5⟩ := h
  refine ⟨h1, A, c, h2, h3, h4, fun hn => ?_⟩
  obtain ⟨b, o, e, hb, hl⟩ := h5 hn
  exact ⟨b, o, e, hb, by omega, hl⟩
theorem RdP.none_ : RdP w P k (.slice none 0 0) 0 [] := ⟨by simp, none, 0, rfl, Nat.le_refl _, Nat.zero_le _, fun h => absurd h (by omega)⟩
/-- What is owned reads as itself, in its own block. -/
theorem RdP.of_own {base : Nat} {e : TypeId} (h : w.ownsRow base e k v n xs) : RdP w (fun b => v.ownBlock = some b ∧ base ≤ b) k v n xs := by
  have hr := Rd.of_own h
  obtain ⟨h1, A, c, rfl, h3, h4, h5⟩ := hr
  refine ⟨h1, A, c, rfl, h3, h4, fun hn => ?_⟩
  obtain ⟨b, o, rfl, hb, hl⟩ := h5 hn
  have h6 : (Value.slice (some ⟨b, o, none⟩) n c).ownBlock = some b := rfl
  exact ⟨b, o, rfl, ⟨h6, (h.lt b h6).1⟩, hb, hl⟩
/-- As the walk wants it. -/
theorem RdP.parts (h : RdP w P k v n xs) : xs.length = n * k ∧ ∃ A c, v = .slice A n c ∧ n ≤ c ∧ c ≤ 9223372036854775807 ∧ (0 < n → ∃ b o, A = some ⟨b, o, none⟩ ∧ P b ∧ b < w.heap.size ∧ Lies w b o xs) := by
  obtain ⟨h1, A, c, h2, h3, h4, h5⟩ := h
  unfold maxLen at h4
  exact ⟨h1, A, c, h2, h3, by omega, h5⟩
end

/-! ### Writers -/
/-- A writer of type T: block g has the slice of the bytes that were written and whether something was bad; all that it has lies in blocks of S. -/
structure Wr (T : TypeId) (w : World) (S : Nat → Prop) (g : Nat) (out : List UInt8) (bad : Bool) : Prop where
  ex : ∃ v, w.heap[g]? = some (.cells #[v, .bool bad] T (0, 0)) ∧ w.ownsRow 0 5 1 v out.length (out.map bv) ∧ ∀ k, v.ownBlock = some k → S k ∧ k ≠ g
  own : S g
  lt : ∀ k, S k → k < w.heap.size
section
variable {T : TypeId} {w w' w3 : World} {S S' : Nat → Prop} {g : Nat} {out : List UInt8} {bad : Bool}
theorem own_keep {base : Nat} {e : TypeId} {k n : Nat} {v : Value} {xs : List Value} (h : w.ownsRow base e k v n xs) (hk : ∀ b, v.ownBlock = some b → w'.heap[b]? = w.heap[b]?) : w'.ownsRow base e k v n xs := by
  refine ⟨h.1, ?_⟩
  rcases h.2 with hn | ⟨b, cap, cur, rfl, hb, hh, r⟩
  · exact .inl hn
  · exact .inr ⟨b, cap, cur, rfl, hb, (hk b rfl).trans hh, r⟩
theorem Wr.fp (h : Wr T w S g out bad) (hf : Fp S' w w') (hd : ∀ k, S k → ¬ S' k) : Wr T w' S g out bad := by
  obtain ⟨v, h1, h2, h3⟩ := h.ex
  exact ⟨⟨v, (hf.block g (h.lt g h.own) (hd g h.own)).trans h1, own_keep h2 fun b hb => hf.block b (h.lt b (h3 b hb).1) (hd b (h3 b hb).1), h3⟩, h.own, fun k hk => Nat.lt_of_lt_of_le (h.lt k hk) hf.size⟩
theorem Wr.below (h : Wr T w S g out bad) (hb : Below w.heap.size w w') : Wr T w' S g out bad := h.fp (Fp.of_below hb fun _ => False) fun _ _ h => h
theorem Wr.wider (h : Wr T w S g out bad) (hs : ∀ k, S k → S' k) (hl : ∀ k, S' k → k < w.heap.size) : Wr T w S' g out bad := by
  obtain ⟨v, h1, h2, h3⟩ := h.ex
  exact ⟨⟨v, h1, h2, fun k hk => ⟨hs k (h3 k hk).1, (h3 k hk).2⟩⟩, hs g h.own, hl⟩
/-- What the walk wants of a writer. -/
theorem Wr.cells (h : Wr T w S g out bad) : ∃ A c, out.length ≤ c ∧ c ≤ 9223372036854775807 ∧ w.cell? ⟨g, 0, none⟩ = some (.slice A out.length c) ∧ w.cell? ⟨g, 1, none⟩ = some (.bool bad) ∧
    w.frozen? ⟨g, 0, none⟩ = false ∧ w.frozen? ⟨g, 1, none⟩ = false ∧ w.ownsRow 0 5 1 (.slice A out.length c) out.length (out.map bv) ∧ ∀ k, (Value.slice A out.length c).ownBlock = some k → S k ∧ k ≠ g := by
  obtain ⟨v, h1, h2, h3⟩ := h.ex
  obtain ⟨A, c, rfl, hc1, hc2, hl⟩ := own_slice h2
  refine ⟨A, c, hc1, hc2, ?_, ?_, ?_, ?_, h2, h3⟩
  · rw [cell_of_row w g 0 _ _ _ h1]; rfl
  · rw [cell_of_row w g 1 _ _ _ h1]; rfl
  · exact frozen_of_row w g 0 _ _ h1
  · exact frozen_of_row w g 1 _ _ h1
theorem Wr.setBad (h : Wr T w S g out bad) (b : Bool) : Wr T (w.setCell ⟨g, 1, none⟩ (.bool b)) S g out b ∧ Fp S w (w.setCell ⟨g, 1, none⟩ (.bool b)) := by
  obtain ⟨v, h1, h2, h3⟩ := h.ex
  refine ⟨⟨⟨v, ?_, own_keep h2 fun k hk => Below.heap_setCell w ⟨g, 1, none⟩ _ k (fun e => (h3 k hk).2 e), h3⟩, h.own, fun k hk => by simpa [World.setCell] using h.lt k hk⟩, (Fp.refl S w).setCell (p := ⟨g, 1, none⟩) (Or.inl h.own) _⟩
  rw [heap_setCell_same w g 1 _ _ _ h1]; rfl
theorem Wr.append {A : Option Addr} {c : Nat} {v' : Value} {e : List UInt8} (h : Wr T w S g out bad) (hv : w.cell? ⟨g, 0, none⟩ = some (.slice A out.length c)) (hown : w3.ownsRow 0 5 1 v' (out.length + e.length) (out.map bv ++ e.map bv)) (hg : w.grownBy w3 (Value.slice A out.length c).ownBlock)
    (hb : v'.ownBlock = (Value.slice A out.length c).ownBlock ∨ v'.ownBlock = some w.heap.size) :
    Wr T (w3.setCell ⟨g, 0, none⟩ v') (fun k => S k ∨ (w.heap.size ≤ k ∧ k < w3.heap.size)) g (out ++ e) bad ∧ Fp S w (w3.setCell ⟨g, 0, none⟩ v') := by
  obtain ⟨v, h1, h2, h3⟩ := h.ex
  rw [cell_of_row w g 0 _ _ _ h1] at hv
  have e1 : v = .slice A out.length c := by simpa using hv
  subst e1
  have hglt := h.lt g h.own
  have hg3 : w3.heap[g]? = w.heap[g]? := hg.block g hglt (fun he => (h3 g he.symm).2 rfl)
  have hng : v'.ownBlock ≠ some g := by
    intro he
    rcases hb with hb | hb
    · rw [hb] at he; exact (h3 g he).2 rfl
    · rw [hb] at he; injection he with he; omega
  refine ⟨⟨⟨v', ?_, ?_, ?_⟩, Or.inl h.own, ?_⟩, ?_⟩
  · rw [heap_setCell_same w3 g 0 _ _ _ (hg3.trans h1)]; rfl
  · rw [List.length_append, List.map_append]
    exact own_keep hown fun k hk => Below.heap_setCell w3 ⟨g, 0, none⟩ _ k (fun he => hng (by rw [hk, he]))
  · intro k hk
    refine ⟨?_, fun he => hng (by rw [hk, he])⟩
    rcases hb with hb | hb
    · exact Or.inl (h3 k (by rw [← hb]; exact hk)).1
    · rw [hb] at hk
      injection hk with hk
      subst hk
      exact Or.inr ⟨Nat.le_refl _, (hown.lt _ hb).2⟩
  · intro k hk
    rcases hk with hk | hk
    · have := h.lt k hk; have := hg.size; simp [World.setCell]; omega
    · simpa [World.setCell] using hk.2
  · exact ((Fp.refl S w).grown hg (fun k hk => Or.inl (h3 k hk).1)).setCell (p := ⟨g, 0, none⟩) (Or.inl h.own) _
/-- Behind an append the writer's block is as it was. -/
theorem Wr.grown {A : Option Addr} {c : Nat} (h : Wr T w S g out bad) (hv : w.cell? ⟨g, 0, none⟩ = some (.slice A out.length c)) (hg : w.grownBy w3 (Value.slice A out.length c).ownBlock) :
    w3.cell? ⟨g, 0, none⟩ = some (.slice A out.length c) ∧ w3.frozen? ⟨g, 0, none⟩ = false := by
  obtain ⟨v, h1, h2, h3⟩ := h.ex
  rw [cell_of_row w g 0 _ _ _ h1] at hv
  have e1 : v = .slice A out.length c := by simpa using hv
  subst e1
  have hg3 : w3.heap[g]? = w.heap[g]? := hg.block g (h.lt g h.own) (fun he => (h3 g he.symm).2 rfl)
  refine ⟨?_, frozen_of_row w3 g 0 _ _ (hg3.trans h1)⟩
  rw [cell_of_row w3 g 0 _ _ _ (hg3.trans h1)]; rfl
end

/-- What a call that writes leaves behind. -/
def WrOk (T : TypeId) (e : List UInt8) (ok : Bool) (bnd : Nat) (S : Nat → Prop) (g : Nat) (out : List UInt8) (bad : Bool) (w : World) (en : Ending) (w' : World) : Prop :=
  en = .returned (.tuple #[]) ∧ ∃ out' bad', Psp.Wrote e ok bnd out out' bad bad' ∧ Wr T w' (fun k => S k ∨ (w.heap.size ≤ k ∧ k < w'.heap.size)) g out' bad' ∧ Fp S w w'
/-- The same, of a world alone: the state that has come of (w, out, bad). -/
structure WrS (T : TypeId) (e : List UInt8) (ok : Bool) (bnd : Nat) (S : Nat → Prop) (g : Nat) (out : List UInt8) (bad : Bool) (w : World) (S' : Nat → Prop) (out' : List UInt8) (bad' : Bool) (w' : World) : Prop where
  wrote : Psp.Wrote e ok bnd out out' bad bad'
  wr : Wr T w' S' g out' bad'
  fp : Fp S w w'
  sub : ∀ k, S' k → S k ∨ w.heap.size ≤ k
  sup : ∀ k, S k → S' k
section
variable {T : TypeId} {e f : List UInt8} {ok ok' : Bool} {n m : Nat} {S S' : Nat → Prop} {g : Nat} {out out' : List UInt8} {bad bad' : Bool} {w w' w'' : World} {en : Ending}
theorem WrS.start (h : Wr T w S g out bad) : WrS T [] true 0 S g out bad w S out bad w := ⟨Psp.Wrote.nil _ _, h, Fp.refl _ _, fun k hk => Or.inl hk, fun k hk => hk⟩
theorem WrS.below (h : WrS T e ok n S g out bad w S' out' bad' w') (hb : Below w'.heap.size w' w'') : WrS T e ok n S g out bad w S' out' bad' w'' := ⟨h.wrote, h.wr.below hb, h.fp.below hb, h.sub, h.sup⟩
/-- Behind a call that writes more. -/
theorem WrS.step (h : WrS T e ok n S g out bad w S' out' bad' w') (hc : WrOk T f ok' m S' g out' bad' w' en w'') :
    en = .returned (.tuple #[]) ∧ ∃ S'' out'' bad'', WrS T (e ++ f) (ok && ok') (n + m) S g out bad w S'' out'' bad'' w'' := by
  obtain ⟨he, o2, b2, h1, h2, h3⟩ := hc
  refine ⟨he, _, o2, b2, h.wrote.trans h1, h2, h.fp.trans h3 h.sub, fun k hk => ?_, fun k hk => Or.inl (h.sup k hk)⟩
  rcases hk with hk | hk
  · exact h.sub k hk
  · exact Or.inr (Nat.le_trans h.fp.size hk.1)
theorem WrS.done (h : WrS T e ok n S g out bad w S' out' bad' w') (hm : n ≤ m) : WrOk T e ok m S g out bad w (.returned (.tuple #[])) w' := by
  refine ⟨rfl, out', bad', h.wrote.more hm, h.wr.wider (fun k hk => ?_) (fun k hk => ?_), h.fp⟩
  · rcases h.sub k hk with h1 | h1
    · exact Or.inl h1
    · exact Or.inr ⟨h1, h.wr.lt k hk⟩
  · rcases hk with hk | hk
    · exact h.wr.lt k (h.sup k hk)
    · exact hk.2
theorem WrS.of (he : e = f) (ho : ok = ok') (h : WrS T e ok n S g out bad w S' out' bad' w') : WrS T f ok' n S g out bad w S' out' bad' w' := by rw [← he, ← ho]; exact h
theorem WrS.lies {b o : Nat} {cs : List Value} (h : WrS T e ok n S g out bad w S' out' bad' w') (hl : Lies w b o cs) (hb : b < w.heap.size) (hP : ¬ S b) : Lies w' b o cs := hl.keep (h.fp.block b hb hP)
/-- The beginning, a little earlier. -/
theorem WrOk.from_ {w0 : World} (h : WrOk T e ok n S g out bad w en w') (hb : Below w0.heap.size w0 w) : WrOk T e ok n S g out bad w0 en w' := by
  obtain ⟨he, o2, b2, h1, h2, h3⟩ := h
  have hz := hb.size
  refine ⟨he, o2, b2, h1, h2.wider (fun k hk => ?_) (fun k hk => ?_), (Fp.of_below hb S).trans h3 fun k hk => Or.inl hk⟩
  · rcases hk with hk | hk
    · exact Or.inl hk
    · exact Or.inr ⟨by omega, hk.2⟩
  · rcases hk with hk | hk
    · exact h2.lt k (Or.inl hk)
    · exact hk.2
theorem WrS.off (h : WrS T e ok n S g out bad w S' out' bad' w') {b : Nat} (hb : b < w.heap.size) (hP : ¬ S b) : ¬ S' b := fun hk => by
  rcases h.sub b hk with h1 | h1
  · exact hP h1
  · omega
end

end Go.Proofs.YtipmjleohadoeaaGreat

end
