/- Laws for the walk at loads, stores and builds of many-celled values; still regions. No function in sight. -/
import Derived.Test.YtmbdailffhdonaaFoot
import Derived.StillTailTactics
import Derived.Deep.MidRow
namespace Go.Proofs.Ytmbdailffhdonaa
open Go.RowKit
set_option linter.unusedVariables false

/-- A new block of n elements reads as these. -/
theorem Rd.lits (w : World) (cs : Array Value) (e k n : Nat) (hk : cs.size = n * k) (hn : n ≤ maxLen) : Rd (w.alloc (.cells cs e)) (w.heap.size + 1) k (.slice (some ⟨w.heap.size, 0, none⟩) n n) n cs.toList := by
  refine ⟨by simpa using hk, _, n, rfl, Nat.le_refl _, hn, fun _ => ⟨w.heap.size, 0, rfl, by omega, fun j u hu => ?_⟩⟩
  rw [Nat.zero_add, cell_of_row _ w.heap.size j cs e (0, 0) (heap_alloc_new w _)]
  simpa using hu
theorem wp_region_still_tail_drew {P : Program} {id : Nat} {Q : Exit → Act → World → Prop} {a : Act} {w : World} {l : List Oper} (n : Nat) (hm : P.follows .mixedOrders = true) (hB : Region.lexTailB .any l.toArray n = true)
    (h : wpStill P l.toArray w.drew (fun a' => wpList P l.toArray Q (l.drop n) a' w.drew) (l.take n) a) : (Code.region id l.toArray true).wp P Q a w := wp_region_still_tail n hm hB h
theorem later_out {w w' : World} (h : ∃ p : Later w, w' = p.W) : Below w.heap.size w w' := by obtain ⟨p, rfl⟩ := h; exact p.h
theorem quiet_val {P : Program} {ops : Array Oper} {C : World → Prop} {Q : Act → Prop} {a : Act} {o : Oper} {rest : List Oper} (hw : Region.wanted o (yielded ops a.tmps) = true) (v : Value)
    (hr : ∀ w, C w → (execOp a.eval o).run P w = .ok (.value v) w) (h : ∀ K : Act → Prop, (∀ a, wpQuiet P ops C Q rest a → K a) → K (a.put o.dst v)) : wpQuiet P ops C Q (o :: rest) a := by
  refine wpQuiet_step fun K hK => ?_
  rw [if_pos hw]
  refine ⟨v, fun w hC => ?_, h K hK⟩
  unfold Oper.quietAt
  rw [hr w hC]
  exact ⟨rfl, rfl⟩
theorem list_val {P : Program} {ops : Array Oper} {Q : Exit → Act → World → Prop} {a : Act} {w : World} {o : Oper} {rest : List Oper} (hw : Region.wanted o (yielded ops a.tmps) = true) (v : Value)
    (hr : (execOp a.eval o).run P w = .ok (.value v) w) (h : wpList P ops Q rest (a.put o.dst v) w) : wpList P ops Q (o :: rest) a w := by
  refine BigFrame.wpList_want hw fun K hK => ?_
  unfold Oper.wp
  rw [hr]
  exact hK _ _ h
theorem exec_load_mid {P : Program} {a : Act} {o : Oper} {w : World} (ty : TypeId) (x : Operand) (ho : o.op = .load ty x) (b off : Nat) (hx : a.eval x = .pointer (some ⟨b, off, none⟩)) (cs : List Value) (d : TypeDesc)
    (hc : w.rangeAt b off cs) (hu : P.underlying ty = some d) (hd : d.isRow = true) (hi : (P.info? ty).map (·.size) = some cs.length) : (execOp a.eval o).run P w = .ok (.value (.agg cs.toArray)) w := by
  unfold execOp
  simp only [ho, hx, Instr.loadAt, Instr.sureAddr, Sem.run_bind, Sem.run_pure, Result.andThen_ok, run_loadVar_mid w b off ty cs d hc hu hd hi]
theorem quiet_load {P : Program} {ops : Array Oper} {C : World → Prop} {Q : Act → Prop} {a : Act} {o : Oper} {rest : List Oper} (hw : Region.wanted o (yielded ops a.tmps) = true) (ty : TypeId) (x : Operand) (ho : o.op = .load ty x)
    (b off : Nat) (hx : a.eval x = .pointer (some ⟨b, off, none⟩)) (cs : List Value) (d : TypeDesc) (hc : ∀ w, C w → w.rangeAt b off cs) (hu : P.underlying ty = some d) (hd : d.isRow = true) (hi : (P.info? ty).map (·.size) = some cs.length)
    (h : ∀ K : Act → Prop, (∀ a, wpQuiet P ops C Q rest a → K a) → K (a.put o.dst (.agg cs.toArray))) : wpQuiet P ops C Q (o :: rest) a :=
  quiet_val hw _ (fun w hC => exec_load_mid ty x ho b off hx cs d (hc w hC) hu hd hi) h
theorem list_load {P : Program} {ops : Array Oper} {Q : Exit → Act → World → Prop} {a : Act} {w : World} {o : Oper} {rest : List Oper} (hw : Region.wanted o (yielded ops a.tmps) = true) (ty : TypeId) (x : Operand) (ho : o.op = .load ty x)
    (b off : Nat) (hx : a.eval x = .pointer (some ⟨b, off, none⟩)) (cs : List Value) (d : TypeDesc) (hc : w.rangeAt b off cs) (hu : P.underlying ty = some d) (hd : d.isRow = true) (hi : (P.info? ty).map (·.size) = some cs.length)
    (h : wpList P ops Q rest (a.put o.dst (.agg cs.toArray)) w) : wpList P ops Q (o :: rest) a w :=
  list_val hw _ (exec_load_mid ty x ho b off hx cs d hc hu hd hi) h
theorem range_left {w : World} {b o : Nat} {xs ys : List Value} (h : w.rangeAt b o (xs ++ ys)) : w.rangeAt b o xs := fun j v hv => h j v (by rw [List.getElem?_append_left (List.getElem?_eq_some_iff.1 hv).1]; exact hv)
theorem range_right {w : World} {b o : Nat} {xs ys : List Value} (h : w.rangeAt b o (xs ++ ys)) : w.rangeAt b (o + xs.length) ys := fun j v hv => by
  have := h (xs.length + j) v (by rw [List.getElem?_append_right (by omega), Nat.add_sub_cancel_left]; exact hv)
  rwa [← Nat.add_assoc] at this
theorem range_keep {w w' : World} {b o : Nat} {cs : List Value} (h : w.rangeAt b o cs) (hk : w'.heap[b]? = w.heap[b]?) : w'.rangeAt b o cs :=
  fun j v hv => (World.cell?_of_block (a := ⟨b, o + j, none⟩) hk).trans (h j v hv)
theorem range_new (w : World) (cs : Array Value) (t : TypeId) : (w.alloc (.cells cs t)).rangeAt w.heap.size 0 cs.toList := fun j v hv => by
  rw [Nat.zero_add, cell_of_row _ w.heap.size j cs t (0, 0) (heap_alloc_new w _)]
  simpa using hv
theorem range_lt {w : World} {b o : Nat} {cs : List Value} (h : w.rangeAt b o cs) (hn : 0 < cs.length) : b < w.heap.size := World.block_lt_of_cell? w ⟨b, o + 0, none⟩ (h 0 _ (List.getElem?_eq_getElem hn))
theorem range_later {w : World} {b o : Nat} {cs : List Value} (h : w.rangeAt b o cs) (hb : b < w.heap.size) : ∀ w', (∃ p : Later w, w' = p.W) → w'.rangeAt b o cs := by
  rintro w' ⟨p, rfl⟩
  exact range_keep h (p.h.block b hb)
theorem fold_set (vs : List Value) : ∀ (k : Nat) (pre rest : List Value), pre.length = k → rest.length = vs.length →
    List.foldl (fun (cs : Array Value) (x : Value × Nat) => cs.setIfInBounds x.2 x.1) (pre ++ rest).toArray (vs.zipIdx k) = (pre ++ vs).toArray := by
  induction vs with
  | nil => intro k pre rest _ h; obtain rfl : rest = [] := List.eq_nil_of_length_eq_zero (by simpa using h); simp
  | cons v vs ih =>
    intro k pre rest hk h
    match rest, h with
    | r :: rest, h =>
      rw [List.zipIdx_cons, List.foldl_cons]
      have e : (pre ++ r :: rest).toArray.setIfInBounds k v = ((pre ++ [v]) ++ rest).toArray := by
        apply Array.ext'
        simp [← hk]
      show List.foldl _ ((pre ++ r :: rest).toArray.setIfInBounds k v) _ = _
      rw [e, ih (k + 1) (pre ++ [v]) rest (by simp [hk]) (by simpa using h)]
      simp
theorem fill_all (vs : List Value) (z : Array Value) (h : z.size = vs.length) : Instr.fill (fun i => some (i * vs.length, vs.length)) z [(0, .agg vs.toArray)] = some vs.toArray := by
  have e := fold_set vs 0 [] z.toList rfl (by simpa using h)
  simp only [List.nil_append, Array.toArray_toList] at e
  simp only [Instr.fill, Value.cells, List.size_toArray, Nat.zero_mul, Nat.zero_add, h]
  rw [if_neg (by simp)]
  congr 1
  refine Eq.trans ?_ e
  simp
theorem run_build1 {P : Program} (w : World) (t e : TypeId) (vs : List Value) (hu : P.underlying t = some (.slice e)) (hz : (P.info? e).map (fun i => (i.zero.map (·.cells.size), i.size)) = some (some vs.length, vs.length)) (h0 : 0 < vs.length) (hn : vs.length ≤ 16777216) :
    (Instr.buildSlice t 1 #[(0, .agg vs.toArray)]).run P w = .ok (.slice (some ⟨w.heap.size, 0, none⟩) 1 1) (w.alloc (.cells vs.toArray e)) := by
  cases hi : P.info? e with
  | none => rw [hi] at hz; simp at hz
  | some i =>
    rw [hi] at hz
    simp only [Option.map_some, Option.some.injEq, Prod.mk.injEq] at hz
    obtain ⟨hz1, hs⟩ := hz
    cases hzz : i.zero with
    | none => rw [hzz] at hz1; simp at hz1
    | some z =>
      rw [hzz] at hz1
      have hz2 : z.cells.size = vs.length := by simpa using hz1
      have hf := fill_all vs ((Array.range (1 * vs.length)).map (z.cells[· % z.cells.size]!)) (by simp)
      have h16 : ¬ (1 * vs.length > 2 ^ 24) := by omega
      have hne : ¬ (1 * vs.length = 0) := by omega
      simp [Instr.buildSlice, run_underlying hu, sizeOf, typeInfo, zeroValue, hi, hzz, hs]
      rw [if_neg (by omega), if_neg (by intro h; subst h; simp at h0)]
      rw [Nat.one_mul] at hf
      rw [hf]
      simp [newRow, go_sem]
theorem list_build1 {P : Program} {ops : Array Oper} {Q : Exit → Act → World → Prop} {a : Act} {w : World} {o : Oper} {rest : List Oper} (hw : Region.wanted o (yielded ops a.tmps) = true) (t : TypeId) (x : Operand) (ho : o.op = .buildSlice t 1 #[(0, x)])
    (e : TypeId) (vs : List Value) (hx : a.eval x = .agg vs.toArray) (hu : P.underlying t = some (.slice e)) (hz : (P.info? e).map (fun i => (i.zero.map (·.cells.size), i.size)) = some (some vs.length, vs.length)) (h0 : 0 < vs.length) (hn : vs.length ≤ 16777216)
    (h : wpList P ops Q rest (a.put o.dst (.slice (some ⟨w.heap.size, 0, none⟩) 1 1)) (w.alloc (.cells vs.toArray e))) : wpList P ops Q (o :: rest) a w := by
  refine BigFrame.wpList_want hw fun K hK => ?_
  have hr := run_build1 (P := P) w t e vs hu hz h0 hn
  unfold Oper.wp execOp
  simp [ho, hx, hr, Result.andThen]
  exact hK _ _ h
theorem there_new (w : World) (z : Array Value) (t : TypeId) : (w.alloc (.cells z t)).there w.heap.size 0 z.size := fun j hj => by
  refine ⟨?_, ?_⟩
  · rw [Nat.zero_add, cell_of_row _ w.heap.size j z t (0, 0) (heap_alloc_new w _)]
    simp [hj]
  · exact frozen_of_row _ w.heap.size (0 + j) z t (heap_alloc_new w _)
/-- A whole value goes into the block that has just been made for it. -/
theorem list_store_new {P : Program} {ops : Array Oper} {Q : Exit → Act → World → Prop} {a : Act} {w : World} {o : Oper} {rest : List Oper} (hw : Region.wanted o (yielded ops a.tmps) = true) (ty : TypeId) (x y : Operand) (ho : o.op = .store ty x y)
    (z : Array Value) (t : TypeId) (cs : List Value) (hx : a.eval x = .pointer (some ⟨w.heap.size, 0, none⟩)) (hy : a.eval y = .agg cs.toArray) (hz : z.size = cs.length) (hi : (P.info? ty).map (·.size) = some cs.length) (h1 : ∀ v ∈ cs, v.oneCell' = true)
    (h : ∀ w', Below w.heap.size w w' → w'.rangeAt w.heap.size 0 cs → w'.heap.size = w.heap.size + 1 → wpList P ops Q rest (a.put o.dst undef) w') : wpList P ops Q (o :: rest) a (w.alloc (.cells z t)) := by
  have ht : (w.alloc (.cells z t)).there w.heap.size 0 cs.toArray.size := by
    have := there_new w z t
    rwa [hz] at this
  refine BigFrame.wpList_want hw fun K hK => wp_store_mid ty x y ho w.heap.size 0 cs.toArray hx hy ht (by simpa using hi) (all_oneCell_toArray h1) (hK _ _ ?_)
  have hb : ∀ (vs : List Value) (o : Nat) (w0 : World), (w0.setCells w.heap.size o vs).heap.size = w0.heap.size := by
    intro vs
    induction vs with
    | nil => intro o w0; rfl
    | cons v vs ih => intro o w0; exact (ih (o + 1) _).trans (by simp [World.setCell])
  refine h _ ?_ (World.rangeAt_setCells_same _ _ _ _ (by simpa using ht)) (by rw [hb]; simp)
  have h2 : Fp (fun _ => False) w ((w.alloc (.cells z t)).setCells w.heap.size 0 cs.toArray.toList) := ((Fp.refl (fun _ => False) w).alloc _).setCells (Or.inr (Nat.le_refl _)) _
  exact h2.to_below (Nat.le_refl _) fun k _ h => h.elim
theorem own_more {w : World} {base base' k n : Nat} {e : TypeId} {v : Value} {xs : List Value} (h : w.ownsRow base e k v n xs) (hb : base' ≤ base) : w.ownsRow base' e k v n xs := by
  refine ⟨h.1, h.2.imp id ?_⟩
  rintro ⟨g, cap, cur, e1, h1, r⟩
  exact ⟨g, cap, cur, e1, by omega, r⟩
end Go.Proofs.Ytmbdailffhdonaa
