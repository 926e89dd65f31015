/- What is taken at a place, by numbers; a message that is filled field by field. A node's vote for a certificate's batch: msgs.Ballot, the reference's. -/
import Derived.Test.YtadpkjgjciodnaaGreatBxVi
import Derived.Test.YtadpkjgjciodnaaGreatGfVi
import Derived.Test.YtadpkjgjciodnaaGreatGgVi
import Derived.Test.YtadpkjgjciodnaaGreatPhaseVi
section
namespace Go.Proofs.YtadpkjgjciodnaaGreat
open Go.RowKit
set_option linter.unusedVariables false

/-- What a call that takes a number at a place returns. -/
def TakenN (d : Psp.Dec Int) (b : List UInt8) (a : Int) (w : World) (e : Ending) (w' : World) : Prop :=
  (∀ n a', d b a = some (n, a') → e = .returned (.tuple #[.int .i64 n, .int .i64 a', .bool true])) ∧ (d b a = none → e = .returned (.tuple #[.int .i64 0, .int .i64 0, .bool false])) ∧ w = w'
theorem tk_N (b : List UInt8) (x : Value) (a : Int) (w : World) (P : Nat → Prop) (hx : RdP w P 1 x b.length (b.map bv)) (ha : isI64 a) :
    Calls Tryz.prog 44 #[x, .int .i64 a] w (TakenN dN b a w) := by
  cases h : takeAt b a with
  | none =>
    refine (taken_no x b.length b a w hx.to_rd ha.1 ha.2 h).mono ?_
    rintro e w' ⟨rfl, rfl⟩
    exact ⟨fun n a' hd => (by rw [dN_none h] at hd; cases hd), fun _ => rfl, rfl⟩
  | some p =>
    obtain ⟨v, m⟩ := p
    refine (taken_yes x b.length b a v m w hx.to_rd ha.2 h).mono ?_
    rintro e w' ⟨rfl, rfl⟩
    refine ⟨fun n a' hd => ?_, fun hd => (by rw [dN_some h] at hd; cases hd), rfl⟩
    rw [dN_some h] at hd
    injection hd with hd
    injection hd with h1 h2
    subst h1 h2
    rfl
theorem tk_S (b : List UInt8) (x : Value) (a : Int) (w : World) (P : Nat → Prop) (hx : RdP w P 1 x b.length (b.map bv)) (ha : isI64 a) :
    Calls Tryz.prog 84 #[x, .int .i64 a] w (TakenN Psp.dS b a w) := by
  cases h : takeAt b a with
  | none =>
    refine (takes_no x b.length b a w hx.to_rd ha.1 ha.2 h).mono ?_
    rintro e w' ⟨rfl, rfl⟩
    exact ⟨fun n a' hd => (by unfold Psp.dS at hd; rw [dN_none h] at hd; cases hd), fun _ => rfl, rfl⟩
  | some p =>
    obtain ⟨v, m⟩ := p
    refine (takes_yes x b.length b a v m w hx.to_rd ha.2 h).mono ?_
    rintro e w' ⟨rfl, rfl⟩
    refine ⟨fun n a' hd => ?_, fun hd => (by unfold Psp.dS at hd; rw [dN_some h] at hd; cases hd), rfl⟩
    unfold Psp.dS at hd
    rw [dN_some h] at hd
    injection hd with hd
    injection hd with h1 h2
    subst h1 h2
    rfl

/-- The cells of the empty message. -/
abbrev zs : Array Value := #[.int .i64 0, .int .i64 0, .int .i64 0, .int .i64 0, .int .i64 0, .int .i64 0, .slice none 0 0, .slice none 0 0, .slice none 0 0, .slice none 0 0]
/-- A message's result cell and its variable's cell. -/
structure Pc (w0 W : World) (cs : Array Value) : Prop where
  vr : W.heap[w0.heap.size + 1]? = some (.cells cs 41 (0, 0))
  rr : W.heap[w0.heap.size]? = some (.cells zs 41 (0, 0))
  be : Below w0.heap.size w0 W
theorem Pc.lt {w0 W : World} {cs : Array Value} (h : Pc w0 W cs) : w0.heap.size + 1 < W.heap.size := (Array.getElem?_eq_some_iff.1 h.vr).1
theorem Pc.new (w0 : World) : Pc w0 ((w0.alloc (.cells zs 41)).alloc (.cells zs 41)) zs := by
  refine ⟨?_, ?_, (alloc_below w0 _).trans ((alloc_below _ _).mono (by simp))⟩
  · have := heap_alloc_new (w0.alloc (.cells zs 41)) (.cells zs 41)
    simpa using this
  · rw [(alloc_below _ _).block _ (by simp)]; exact heap_alloc_new w0 _
theorem Pc.call {w0 W W' : World} {cs : Array Value} (h : Pc w0 W cs) (hb : Below W.heap.size W W') : Pc w0 W' cs := by
  have := h.lt
  exact ⟨(hb.block _ (by omega)).trans h.vr, (hb.block _ (by omega)).trans h.rr, h.be.trans (hb.mono (by omega))⟩
theorem Pc.store {w0 W : World} {cs cs' : Array Value} (h : Pc w0 W cs) (i : Nat) (v : Value) (hc : cs.setIfInBounds i v = cs') : Pc w0 (W.setCell ⟨w0.heap.size + 1, i, none⟩ v) cs' := by
  refine ⟨?_, ?_, h.be.setCell (Nat.le_succ _) _⟩
  · rw [heap_setCell_same W _ i _ _ _ h.vr, hc]
  · exact (Below.heap_setCell W ⟨w0.heap.size + 1, i, none⟩ v _ (by show w0.heap.size ≠ w0.heap.size + 1; omega)).trans h.rr
theorem Pc.cell {w0 W : World} {cs : Array Value} (h : Pc w0 W cs) (i : Nat) {u : Value} (hi : cs[i]? = some u) : W.cell? ⟨w0.heap.size + 1, i, none⟩ = some u ∧ W.frozen? ⟨w0.heap.size + 1, i, none⟩ = false := by
  refine ⟨?_, frozen_of_row _ _ i _ _ h.vr⟩
  rw [cell_of_row _ _ i _ _ _ h.vr]; exact hi
theorem sizeM : (Tryz.prog.info? 41).map (·.size) = some 10 := by kernel_rfl
/-- The result's cell, where a value has been stored there. -/
theorem Pc.fin {w0 W : World} {cs : Array Value} (h : Pc w0 W cs) (l : List Value) (hl : l.length = 10) :
    (W.setCells w0.heap.size 0 l).heap[w0.heap.size]? = some (.cells l.toArray 41 (0, 0)) ∧ Below w0.heap.size w0 (W.setCells w0.heap.size 0 l) ∧ ∀ b, b ≠ w0.heap.size → (W.setCells w0.heap.size 0 l).heap[b]? = W.heap[b]? := by
  obtain ⟨h1, h2⟩ := row_store h.rr l hl
  exact ⟨h1, below_setCells h.be _ (Nat.le_refl _) l, h2⟩

/-- What a call that parses returns. -/
def TakenM (b : List UInt8) (w : World) (e : Ending) (w' : World) : Prop :=
  (∀ m, Psp.parseM b = some m → ∃ vb vo vc vp, e = .returned (.tuple #[.agg #[.int .i64 m.k, .int .i64 m.f, .int .i64 m.v, .int .i64 m.i, .int .i64 m.q, .int .i64 m.r, vb, vo, vc, vp], .bool true]) ∧ MsgOk w' (fun k => w.heap.size ≤ k) ⟨m, vb, vo, vc, vp⟩) ∧
  (Psp.parseM b = none → e = .returned (.tuple #[.agg zs, .bool false])) ∧ Below w.heap.size w w'
end Go.Proofs.YtadpkjgjciodnaaGreat
namespace Psp
open Go.Proofs.YtadpkjgjciodnaaGreat (dN)
/-- Parsing, in the order of the text. -/
theorem parse_chain {b : List UInt8} (h : b.length ≤ 65536) : parseM b = (dN b 0).bind fun k => (dN b k.2).bind fun f => (dN b f.2).bind fun v => (dN b v.2).bind fun i => (dN b i.2).bind fun q => (dS b q.2).bind fun r =>
    (dL dR b r.2).bind fun l => (dL dV b l.2).bind fun o => (dL dC b o.2).bind fun c => (dL dP b c.2).bind fun p => if p.2 = (b.length : Int) then some ⟨k.1, f.1, v.1, i.1, q.1, r.1, l.1, o.1, c.1, p.1⟩ else none := by
  unfold parseM dM
  simp only [Option.bind_assoc, Option.bind_map, Function.comp_def, h, and_true]
theorem parse_long {b : List UInt8} (h : ¬ b.length ≤ 65536) : parseM b = none := by
  unfold parseM
  simp only [h, and_false, if_false]
  cases dM b 0 <;> rfl
end Psp
end
section
namespace Go.Proofs.YtadpkjgjciodnaaGreat
open Go.RowKit
set_option linter.unusedVariables false
set_option linter.unusedSimpArgs false

theorem range_of_row {W : World} {g : Nat} {cs : Array Value} {T : TypeId} (h : W.heap[g]? = some (.cells cs T (0, 0))) : W.rangeAt g 0 cs.toList := fun j v hv => by
  rw [Nat.zero_add, cell_of_row _ _ j _ _ _ h]; simpa using hv
/-- A node's vote. -/
def balM (k n : Int) (c : Psp.Cert) : Psp.Msg := ⟨k, n, c.v, c.i, c.q, 0, c.b, [], [], []⟩

set_option maxRecDepth 100000 in
set_option maxHeartbeats 1000000 in
theorem rballot_m (k n : Int) (x : CertV) (w : World) (P : Nat → Prop) (hx : CertOk w P x) :
    Calls Tryz.prog 24 #[.int .i64 k, .int .i64 n, .agg (cv x).toArray] w fun e w' => e = .returned (.agg #[.int .i64 k, .int .i64 n, .int .i64 x.c.v, .int .i64 x.c.i, .int .i64 x.c.q, .int .i64 0, x.b, .slice none 0 0, .slice none 0 0, .slice none 0 0]) ∧ Below w.heap.size w w' := by
  obtain ⟨⟨v, i, q, lb, lo⟩, b, o⟩ := x
  obtain ⟨h1, h2⟩ := hx
  simp only at h1 h2
  obtain ⟨_, A1, c1, rfl, _, _, _⟩ := h1.parts
  obtain ⟨_, A2, c2, rfl, _, _, _⟩ := h2.parts
  show Calls Tryz.prog 24 #[.int .i64 k, .int .i64 n, .agg #[.int .i64 v, .int .i64 i, .int .i64 q, .slice A1 lb.length c1, .slice A2 lo.length c2]] w _
  clear h1 h2
  go_enter Tryz.func24, Tryz.ntmps24
  go_wp2_with fail
  have hh := heap_alloc_new (w.alloc (.cells #[.int .i64 v, .int .i64 i, .int .i64 q, .slice A1 lb.length c1, .slice A2 lo.length c2] 25)) (.cells #[.int .i64 k, .int .i64 n, .int .i64 v, .int .i64 i, .int .i64 q, .int .i64 0, .slice A1 lb.length c1, .slice none 0 0, .slice none 0 0, .slice none 0 0] 41)
  refine bodyPost_ret (v := .agg #[.int .i64 k, .int .i64 n, .int .i64 v, .int .i64 i, .int .i64 q, .int .i64 0, .slice A1 lb.length c1, .slice none 0 0, .slice none 0 0, .slice none 0 0]) ?_ rfl ?_
  · exact results_cell_row Tryz.results24 _ _ (w.heap.size + 1) _ _ _ _ rfl (by simpa using hh) Tryz.underlying41 rfl sizeM
  · exact ⟨rfl, (alloc_below w _).trans ((alloc_below _ _).mono (by simp))⟩


set_option maxRecDepth 100000 in
set_option maxHeartbeats 1000000 in
theorem ballot_m (k n : Int) (x : CertV) (w : World) (P : Nat → Prop) (hx : CertOk w P x) (hbig : x.c.b.length ≤ 1099511627776) :
    Calls Tryz.prog 50 #[.int .i64 k, .int .i64 n, .agg (cv x).toArray] w fun e w' => ∃ vb, e = .returned (.agg #[.int .i64 k, .int .i64 n, .int .i64 x.c.v, .int .i64 x.c.i, .int .i64 x.c.q, .int .i64 0, vb, .slice none 0 0, .slice none 0 0, .slice none 0 0]) ∧ RdR w' (fun b => w.heap.size ≤ b) vb x.c.b ∧ Below w.heap.size w w' := by
  obtain ⟨⟨v, i, q, lb, lo⟩, b, o⟩ := x
  obtain ⟨h1, h2⟩ := hx
  simp only at h1 h2 hbig
  obtain ⟨_, A1, c1, rfl, _, _, _⟩ := h1.parts
  obtain ⟨_, A2, c2, rfl, _, _, _⟩ := h2.parts
  show Calls Tryz.prog 50 #[.int .i64 k, .int .i64 n, .agg #[.int .i64 v, .int .i64 i, .int .i64 q, .slice A1 lb.length c1, .slice A2 lo.length c2]] w _
  have H1 := Lib.hid h1
  clear h1 h2
  go_enter Tryz.func50, Tryz.ntmps50
  go_wp2_with fail
  obtain ⟨W, hW⟩ : ∃ W, (w.alloc (.cells #[.int .i64 v, .int .i64 i, .int .i64 q, .slice A1 lb.length c1, .slice A2 lo.length c2] 25)).alloc (.cells zs 41) = W := ⟨_, rfl⟩
  have hb0 : Below w.heap.size w W := by rw [← hW]; exact (alloc_below w _).trans ((alloc_below _ _).mono (by simp))
  have hc0 : W.heap[w.heap.size]? = some (.cells #[.int .i64 v, .int .i64 i, .int .i64 q, .slice A1 lb.length c1, .slice A2 lo.length c2] 25 (0, 0)) := by rw [← hW]; exact ((alloc_below _ _).block _ (by simp)).trans (heap_alloc_new w _)
  have hr0 : W.heap[w.heap.size + 1]? = some (.cells zs 41 (0, 0)) := by rw [← hW]; have h := heap_alloc_new (w.alloc (.cells #[.int .i64 v, .int .i64 i, .int .i64 q, .slice A1 lb.length c1, .slice A2 lo.length c2] 25)) (.cells zs 41); simpa using h
  have hsz : W.heap.size = w.heap.size + 2 := by rw [← hW]; simp
  rw [show (w.alloc (.cells #[.int .i64 v, .int .i64 i, .int .i64 q, .slice A1 lb.length c1, .slice A2 lo.length c2] 25)).alloc (.cells #[.int .i64 0, .int .i64 0, .int .i64 0, .int .i64 0, .int .i64 0, .int .i64 0, .slice none 0 0, .slice none 0 0, .slice none 0 0, .slice none 0 0] 41) = W from hW]
  have HB := Lib.hid hb0
  have HR := Lib.hid hr0
  have Hone := Lib.hid (show ∀ u ∈ lb.flatMap rq, u.oneCell' = true from fun u hu => by obtain ⟨r, _, hr⟩ := List.mem_flatMap.1 hu; exact rq_one r u hr)
  have l0 := later_cell (w := W.drew) (show W.drew.cell? ⟨w.heap.size, 0, none⟩ = some (.int .i64 v) by rw [cell_of_row W.drew _ 0 _ _ _ hc0]; rfl)
  have l1 := later_cell (w := W.drew) (show W.drew.cell? ⟨w.heap.size, 1, none⟩ = some (.int .i64 i) by rw [cell_of_row W.drew _ 1 _ _ _ hc0]; rfl)
  have l2 := later_cell (w := W.drew) (show W.drew.cell? ⟨w.heap.size, 2, none⟩ = some (.int .i64 q) by rw [cell_of_row W.drew _ 2 _ _ _ hc0]; rfl)
  have l3 := later_cell (w := W.drew) (show W.drew.cell? ⟨w.heap.size, 3, none⟩ = some (.slice A1 lb.length c1) by rw [cell_of_row W.drew _ 3 _ _ _ hc0]; rfl)
  clear hW hb0 hr0 hc0
  refine wp_region_phases [(true, 0), (true, 1), (true, 2), (true, 3), (true, 4), (true, 5), (true, 6), (true, 7), (true, 8), (true, 9), (false, 10)] (by kernel_rfl) (by kernel_rfl) ?_
  simp only [phW, List.getElem?_cons_zero, List.getElem?_cons_succ, Option.toList, List.length_cons, List.length_nil, Nat.reduceAdd, List.drop_succ_cons, List.drop_zero]
  repeat (first | go_big_quiet_step (fail) | quiet_step (fail) | refine wpQuiet_nil ?_)
  clear l0 l1 l2 l3
  have Hrd := Lib.hid ((H1.out.keeps (Keeps.below HB.out.drew)).to_rd)
  go_wp2_with (at_builtin; refine wpList_app reqE rfl _ _ rfl W.heap.size _ 0 [] rfl (World.ownsRow_nil _ _ _ _) _ _ _ _ rfl Hrd.out Hone.out (by unfold maxLen; omega) (by omega) (by simp) ?_; intro v' w1 hown1 hg1 _; have hbel1 : Below W.drew.heap.size W.drew w1 := (Below.refl _ _).grown hg1 (Nat.le_refl _) (fun k hk => by simp [Act.eval, Value.ownBlock] at hk); clear hg1; rw [Nat.zero_add, List.nil_append] at hown1; obtain ⟨A', c', rfl, _, _, _⟩ := own_slice hown1)
  refine And.intro ⟨⟨w1, hbel1⟩, rfl⟩ ?_
  have hsz1 := hbel1.size
  have hr1 : w1.heap[w.heap.size + 1]? = _ := (hbel1.block (w.heap.size + 1) (by show w.heap.size + 1 < W.heap.size; omega)).trans HR.out
  have Hth := Lib.hid (row_there hr1)
  obtain ⟨s1, s2⟩ := row_store hr1 [.int .i64 k, .int .i64 n, .int .i64 v, .int .i64 i, .int .i64 q, .int .i64 0, .slice A' lb.length c', .slice none 0 0, .slice none 0 0, .slice none 0 0] rfl
  have T1 := Lib.hid s1
  have T2 := Lib.hid s2
  have T3 := Lib.hid (below_setCells (HB.out.drew.trans (hbel1.mono (by show w.heap.size ≤ W.heap.size; omega))) (w.heap.size + 1) (show w.heap.size ≤ w.heap.size + 1 by omega) [.int .i64 k, .int .i64 n, .int .i64 v, .int .i64 i, .int .i64 q, .int .i64 0, .slice A' lb.length c', .slice none 0 0, .slice none 0 0, .slice none 0 0])
  have HO := Lib.hid hown1
  clear hr1 s1 s2 hown1 hbel1
  go_wp2_with (first | (refine wpList_store_mid rfl 41 (.tmp 6) (.tmp 18) rfl (w.heap.size + 1) 0 #[.int .i64 k, .int .i64 n, .int .i64 v, .int .i64 i, .int .i64 q, .int .i64 0, .slice A' lb.length c', .slice none 0 0, .slice none 0 0, .slice none 0 0] rfl rfl Hth.out sizeM (by simp [Value.oneCell']) ?_))
  refine bodyPost_ret (v := .agg #[.int .i64 k, .int .i64 n, .int .i64 v, .int .i64 i, .int .i64 q, .int .i64 0, .slice A' lb.length c', .slice none 0 0, .slice none 0 0, .slice none 0 0]) ?_ rfl ?_
  · exact results_cell_row Tryz.results50 _ _ (w.heap.size + 1) _ _ _ _ rfl T1.out Tryz.underlying41 rfl sizeM
  · have hk := (RdP.of_own HO.out).keeps (P' := fun b => w.heap.size ≤ b) (w' := w1.setCells (w.heap.size + 1) 0 [.int .i64 k, .int .i64 n, .int .i64 v, .int .i64 i, .int .i64 q, .int .i64 0, .slice A' lb.length c', .slice none 0 0, .slice none 0 0, .slice none 0 0]) ⟨by rw [setCells_size]; exact Nat.le_refl _, fun b hb hlt => ⟨T2.out b (by omega), by omega⟩⟩
    exact ⟨_, rfl, hk, T3.out⟩
end Go.Proofs.YtadpkjgjciodnaaGreat
end
