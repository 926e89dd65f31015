/- Messages as values; numbers as bytes; the bytes that msgs.Body gathers. -/
import Derived.Test.YtipmjleohadoeaaGreatGhSa
import Derived.Test.YtipmjleohadoeaaGreatGfSa
import Derived.Test.YtipmjleohadoeaaGreatGaSa
namespace Go.Proofs.YtipmjleohadoeaaGreat
open Go.RowKit
set_option linter.unusedVariables false

/-- A message, and the slices in it. -/
structure MsgV where
  m : Psp.Msg
  b : Value
  o : Value
  c : Value
  p : Value
def mv (x : MsgV) : List Value := [iv x.m.k, iv x.m.f, iv x.m.v, iv x.m.i, iv x.m.q, iv x.m.r, x.b, x.o, x.c, x.p]
def MsgOk (w : World) (P : Nat → Prop) (x : MsgV) : Prop := RdR w P x.b x.m.b ∧ RdV w P x.o x.m.o ∧ RdC w P x.c x.m.c ∧ RdA w P x.p x.m.p
theorem RdR.keeps' {w w' : World} {P P' : Nat → Prop} {v : Value} {l : List Psp.Req} (h : RdR w P v l) (g : Keeps P P' w w') : RdR w' P' v l := RdP.keeps h g
theorem RdV.keeps' {w w' : World} {P P' : Nat → Prop} {v : Value} {l : List Psp.Vote} (h : RdV w P v l) (g : Keeps P P' w w') : RdV w' P' v l := RdP.keeps h g
theorem MsgOk.keeps {w w' : World} {P P' : Nat → Prop} {x : MsgV} (h : MsgOk w P x) (g : Keeps P P' w w') : MsgOk w' P' x := ⟨RdP.keeps h.1 g, RdP.keeps h.2.1 g, h.2.2.1.keeps g, h.2.2.2.keeps g⟩
theorem RdA.one {w : World} {P : Nat → Prop} {v : Value} {l : List Psp.Part} (h : RdA w P v l) : v.oneCell' = true := by obtain ⟨L, _, h2, _⟩ := h; exact h2.one
theorem MsgOk.one {w : World} {P : Nat → Prop} {x : MsgV} (h : MsgOk w P x) : ∀ v ∈ mv x, v.oneCell' = true := by
  intro v hv
  simp only [mv, List.mem_cons, List.not_mem_nil, or_false] at hv
  rcases hv with rfl | rfl | rfl | rfl | rfl | rfl | rfl | rfl | rfl | rfl
  · rfl
  · rfl
  · rfl
  · rfl
  · rfl
  · rfl
  · exact RdP.one h.1
  · exact RdP.one h.2.1
  · exact h.2.2.1.one
  · exact h.2.2.2.one
/-- The empty message. -/
def zM : Psp.Msg := ⟨0, 0, 0, 0, 0, 0, [], [], [], []⟩
theorem RdC.nil {w : World} {P : Nat → Prop} : RdC w P (.slice none 0 0) [] := ⟨[], rfl, RdP.none_, fun _ h => by cases h⟩
theorem RdA.nil {w : World} {P : Nat → Prop} : RdA w P (.slice none 0 0) [] := ⟨[], rfl, RdP.none_, fun _ h => by cases h⟩
theorem zM_ok {w : World} {P : Nat → Prop} : MsgOk w P ⟨zM, .slice none 0 0, .slice none 0 0, .slice none 0 0, .slice none 0 0⟩ := ⟨RdP.none_, RdP.none_, RdC.nil, RdA.nil⟩

theorem num_any (n : Int) (w : World) : Calls Tryz.prog 110 #[.int .i64 n] w (Bytes (Psp.encN n) (Psp.okN n) w) := by
  by_cases h : Psp.okN n = true
  · obtain ⟨h0, h1⟩ := (Psp.okN_iff n).1 h
    refine (number_ok n w h0 h1).mono ?_
    rintro e w' ⟨v, rfl, h2, h3⟩
    exact ⟨v, by rw [h], by rw [h]; exact h2, h3⟩
  · have h' : Psp.okN n = false := by simpa using h
    have h2 := mt (Psp.okN_iff n).2 h
    refine (number_no n w (by omega)).mono ?_
    rintro e w' ⟨rfl, rfl⟩
    exact ⟨_, by rw [h'], by rw [h']; exact World.ownsRow_nil _ _ _ _, Below.refl _ _⟩
theorem rnum_any (n : Int) (w : World) : Calls Tryz.prog 71 #[.int .i64 n] w (Bytes (Psp.encN n) (Psp.okN n) w) := by
  by_cases h : Psp.okN n = true
  · obtain ⟨h0, h1⟩ := (Psp.okN_iff n).1 h
    refine (r_number_ok n w h0 h1).mono ?_
    rintro e w' ⟨v, rfl, h2, h3⟩
    exact ⟨v, by rw [h], by rw [h]; exact h2, h3⟩
  · have h' : Psp.okN n = false := by simpa using h
    have h2 := mt (Psp.okN_iff n).2 h
    refine (r_number_no n w (by omega)).mono ?_
    rintro e w' ⟨rfl, rfl⟩
    exact ⟨_, by rw [h'], by rw [h']; exact World.ownsRow_nil _ _ _ _, Below.refl _ _⟩
theorem sgn_any (n : Int) (w : World) : Calls Tryz.prog 111 #[.int .i64 n] w (Bytes (Psp.encS n) (Psp.okS n) w) := by
  by_cases h : Psp.okS n = true
  · obtain ⟨h0, h1⟩ := (Psp.okS_iff n).1 h
    refine (signed_ok n w h0 h1).mono ?_
    rintro e w' ⟨v, rfl, h2, h3⟩
    exact ⟨v, by rw [h], by rw [h]; exact h2, h3⟩
  · have h' : Psp.okS n = false := by simpa using h
    have h2 := mt (Psp.okS_iff n).2 h
    refine (signed_no n w (by omega)).mono ?_
    rintro e w' ⟨rfl, rfl⟩
    exact ⟨_, by rw [h'], by rw [h']; exact World.ownsRow_nil _ _ _ _, Below.refl _ _⟩

/-! ### What msgs.Body gathers -/
/-- The message's box N, the bytes' cell N + 1, the flag's cell N + 1 + 1. -/
structure Wc (w0 wr : World) (N : Nat) (cs : Array Value) (v : Value) (out : List UInt8) (good : Bool) : Prop where
  box : wr.heap[N]? = some (.cells cs 56 (0, 0))
  oc : wr.heap[N + 1]? = some (.cells #[v] 49 (0, 0))
  gc : wr.heap[N + 1 + 1]? = some (.cells #[.bool good] 4 (0, 0))
  own : wr.ownsRow (N + 3) 5 1 v out.length (out.map bv)
  bel : Below N w0 wr
  eq : w0.heap.size = N
theorem Wc.lt {w0 wr : World} {N : Nat} {cs : Array Value} {v : Value} {out : List UInt8} {good : Bool} (h : Wc w0 wr N cs v out good) : N + 1 + 1 < wr.heap.size := (Array.getElem?_eq_some_iff.1 h.gc).1
theorem Wc.below {w0 wr w' : World} {N : Nat} {cs : Array Value} {v : Value} {out : List UInt8} {good : Bool} (h : Wc w0 wr N cs v out good) (hb : Below wr.heap.size wr w') : Wc w0 w' N cs v out good := by
  have := h.lt
  exact ⟨(hb.block N (by omega)).trans h.box, (hb.block (N + 1) (by omega)).trans h.oc, (hb.block (N + 1 + 1) (by omega)).trans h.gc, own_below h.own hb, h.bel.trans (hb.mono (by omega)), h.eq⟩
theorem Wc.cells {w0 wr : World} {N : Nat} {cs : Array Value} {v : Value} {out : List UInt8} {good : Bool} (h : Wc w0 wr N cs v out good) :
    wr.cell? ⟨N + 1, 0, none⟩ = some v ∧ wr.cell? ⟨N + 1 + 1, 0, none⟩ = some (.bool good) ∧ wr.frozen? ⟨N + 1, 0, none⟩ = false ∧ wr.frozen? ⟨N + 1 + 1, 0, none⟩ = false := by
  refine ⟨?_, ?_, frozen_of_row _ _ 0 _ _ h.oc, frozen_of_row _ _ 0 _ _ h.gc⟩
  · rw [cell_of_row _ _ 0 _ _ _ h.oc]; rfl
  · rw [cell_of_row _ _ 0 _ _ _ h.gc]; rfl
theorem Wc.msg {w0 wr : World} {N : Nat} {cs : Array Value} {v : Value} {out : List UInt8} {good : Bool} (h : Wc w0 wr N cs v out good) {j : Nat} {u : Value} (hj : cs[j]? = some u) : wr.cell? ⟨N, j, none⟩ = some u := by
  rw [cell_of_row _ _ j _ _ _ h.box]; exact hj

set_option maxRecDepth 100000 in
theorem gather (w0 w : World) (N : Nat) (cs : Array Value) (v : Value) (out : List UInt8) (good : Bool) (x : Value) (n : Nat) (e : List UInt8) (ok : Bool) (hI : Wc w0 w N cs v out good) (hx : RdP w (fun b => N + 1 + 1 < b) 1 x n (e.map bv))
    (hb : out.length + n ≤ 1099511627776) :
    Calls Tryz.prog 109 #[x, .bool ok, .pointer (some ⟨N + 1 + 1, 0, none⟩), .pointer (some ⟨N + 1, 0, none⟩)] w fun en w' => en = .returned (.tuple #[]) ∧ ∃ v', Wc w0 w' N cs v' (out ++ e) (good && ok) := by
  have hn : e.length = n := by have := hx.1; simpa using this
  obtain ⟨A, c, rfl, hc1, hc2, _⟩ := own_slice hI.own
  obtain ⟨k0, k1, z0, z1⟩ := hI.cells
  have hgs : (w.setCell ⟨N + 1 + 1, 0, none⟩ (.bool (good && ok))).cell? ⟨N + 1, 0, none⟩ = w.cell? ⟨N + 1, 0, none⟩ := by go_simp
  have hF1 : Fp (fun b => N ≤ b) w (w.setCell ⟨N + 1 + 1, 0, none⟩ (.bool (good && ok))) := (Fp.refl _ w).setCell (p := ⟨N + 1 + 1, 0, none⟩) (Or.inl (by show N ≤ N + 1 + 1; omega)) _
  have hF1' : Fp (fun b => b = N + 1 + 1) w (w.setCell ⟨N + 1 + 1, 0, none⟩ (.bool (good && ok))) := (Fp.refl (fun b => b = N + 1 + 1) w).setCell (p := ⟨N + 1 + 1, 0, none⟩) (Or.inl (show N + 1 + 1 = N + 1 + 1 from rfl)) _
  have hx1 := (hx.fp hF1' (fun b hb h => by omega)).to_rd
  have hown1 : (w.setCell ⟨N + 1 + 1, 0, none⟩ (.bool (good && ok))).ownsRow (N + 3) 5 1 (.slice A out.length c) out.length (out.map bv) := own_keep hI.own fun b hb => hF1'.block b (hI.own.lt b hb).2 (by have := (hI.own.lt b hb).1; omega)
  have hbd : ∀ u ∈ e.map bv, u.oneCell' = true := by intro u hu; obtain ⟨b, _, rfl⟩ := List.mem_map.1 hu; rfl
  have hlt := hI.lt
  have hsz : (w.setCell ⟨N + 1 + 1, 0, none⟩ (.bool (good && ok))).heap.size = w.heap.size := by simp [World.setCell]
  have fin : ∀ v' w3, w3.ownsRow (N + 3) 5 1 v' (out.length + n) (out.map bv ++ e.map bv) → (w.setCell ⟨N + 1 + 1, 0, none⟩ (.bool (good && ok))).grownBy w3 (Value.slice A out.length c).ownBlock →
      Wc w0 (w3.setCell ⟨N + 1, 0, none⟩ v') N cs v' (out ++ e) (good && ok) ∧ w3.cell? ⟨N + 1, 0, none⟩ = some (.slice A out.length c) ∧ w3.frozen? ⟨N + 1, 0, none⟩ = false := by
    intro v' w3 h3 hg3
    have ho : ∀ b, b < N + 3 → w3.heap[b]? = (w.setCell ⟨N + 1 + 1, 0, none⟩ (.bool (good && ok))).heap[b]? := fun b hb => hg3.block b (by rw [hsz]; omega) fun he => by have := (hI.own.lt b he.symm).1; omega
    have hoc : w3.heap[N + 1]? = some (.cells #[.slice A out.length c] 49 (0, 0)) := ((ho _ (by omega)).trans (Below.heap_setCell w ⟨N + 1 + 1, 0, none⟩ _ _ (by show N + 1 ≠ N + 1 + 1; omega))).trans hI.oc
    refine ⟨⟨?_, ?_, ?_, ?_, ?_, hI.eq⟩, ?_, frozen_of_row _ _ 0 _ _ hoc⟩
    · rw [Below.heap_setCell w3 ⟨N + 1, 0, none⟩ _ N (by show N ≠ N + 1; omega), ho N (by omega), Below.heap_setCell w ⟨N + 1 + 1, 0, none⟩ _ N (by show N ≠ N + 1 + 1; omega)]
      exact hI.box
    · rw [heap_setCell_same w3 (N + 1) 0 _ _ _ hoc]; rfl
    · rw [Below.heap_setCell w3 ⟨N + 1, 0, none⟩ _ (N + 1 + 1) (by show N + 1 + 1 ≠ N + 1; omega), ho (N + 1 + 1) (by omega), heap_setCell_same w (N + 1 + 1) 0 _ _ _ hI.gc]; rfl
    · rw [List.length_append, List.map_append, hn]
      exact own_keep h3 fun b hb => Below.heap_setCell w3 ⟨N + 1, 0, none⟩ _ b (by have := (h3.lt b hb).1; show b ≠ N + 1; omega)
    · refine hI.bel.trans ((((hF1.grown hg3 fun b hb => Or.inl (by have := (hI.own.lt b hb).1; show N ≤ b; omega)).setCell (p := ⟨N + 1, 0, none⟩) (Or.inl (by show N ≤ N + 1; omega)) _)).to_below (by omega) fun b _ h => h)
    · rw [cell_of_row _ _ 0 _ _ _ hoc]; rfl
  have Hfin := Lib.hid fin
  have Hbd := Lib.hid hbd
  clear hI hx hn fin hbd hF1 hF1'
  cases good <;> cases ok
  all_goals
    simp only [Bool.false_and, Bool.true_and] at hown1 hx1 Hfin hgs hsz
    have b1 : N + 3 ≤ w.heap.size := by omega
    go_enter Tryz.func109, Tryz.ntmps109
    go_wp2_with (at_builtin; refine wpList_app bytesE rfl _ _ rfl (N + 3) (.slice A out.length c) out.length (out.map bv) rfl hown1 _ x n (e.map bv) rfl hx1 Hbd.out (by unfold maxLen; omega) (by omega) (by rw [hsz]; omega) ?_; intro v' w3 h3 hg3 hb3; obtain ⟨A4, c4, rfl, _, _, _⟩ := own_slice h3; obtain ⟨q2, q0, q1⟩ := Hfin.out _ w3 h3 hg3; have H := Lib.hid q2; clear h3 hg3 hb3 q2)
    go_end0
    exact ⟨rfl, _, H.out⟩
end Go.Proofs.YtipmjleohadoeaaGreat
