/- Readers: a reader's block; the walks of reader.number, reader.signed. -/
import Derived.Test.YtadaejpodjhkdaaPh
import Derived.Test.YtadaejpodjhkdaaLater
namespace Psp
/-- The place behind what d takes, where something was taken up to here. -/
def nxt {α : Type} (d : Dec α) (b : List UInt8) (o : Option Int) : Option Int := (o.bind (d b)).map (·.2)
/-- x is what d takes, if it takes anything. -/
def Is {α : Type} (d : Dec α) (b : List UInt8) (o : Option Int) (x : α) : Prop := ∀ p, o.bind (d b) = some p → x = p.1
theorem nxt_none {α : Type} (d : Dec α) (b : List UInt8) : nxt d b none = none := rfl
theorem nxt_no {α : Type} {d : Dec α} {b : List UInt8} {a : Int} (h : d b a = none) : nxt d b (some a) = none := by simp [nxt, h]
theorem nxt_yes {α : Type} {d : Dec α} {b : List UInt8} {a a' : Int} {x : α} (h : d b a = some (x, a')) : nxt d b (some a) = some a' := by simp [nxt, h]
theorem is_none {α : Type} (d : Dec α) (b : List UInt8) (x : α) : Is d b none x := fun p h => by cases h
theorem is_no {α : Type} {d : Dec α} {b : List UInt8} {a : Int} (h : d b a = none) (x : α) : Is d b (some a) x := fun p hp => by simp [h] at hp
theorem is_yes {α : Type} {d : Dec α} {b : List UInt8} {a a' : Int} {x : α} (h : d b a = some (x, a')) : Is d b (some a) x := fun p hp => by
  simp [h] at hp; rw [← hp]
end Psp
namespace Go.Proofs.Ytadaejpodjhkdaa
open Go.RowKit
set_option linter.unusedVariables false

/-- A reader of type T: block g has the bytes' slice, the place, whether something was bad. o: the place, where nothing was. -/
structure Rs (T : TypeId) (w : World) (g : Nat) (x : Value) (o : Option Int) : Prop where
  ex : ∃ a bad, w.heap[g]? = some (.cells #[x, .int .i64 a, .bool bad] T (0, 0)) ∧ isI64 a ∧ (∀ c, o = some c → a = c ∧ bad = false) ∧ (o = none → bad = true)
section
variable {T : TypeId} {w w' : World} {g : Nat} {x : Value} {o : Option Int} {S : Nat → Prop}
theorem Rs.lt (h : Rs T w g x o) : g < w.heap.size := by
  obtain ⟨a, bad, h1, _⟩ := h.ex
  exact (Array.getElem?_eq_some_iff.1 h1).1
theorem Rs.keep (h : Rs T w g x o) (hk : w'.heap[g]? = w.heap[g]?) : Rs T w' g x o := by
  obtain ⟨a, bad, h1, h2⟩ := h.ex
  exact ⟨a, bad, hk.trans h1, h2⟩
theorem Rs.below (h : Rs T w g x o) (hb : Below w.heap.size w w') : Rs T w' g x o := h.keep (hb.block g h.lt)
theorem Rs.fp (h : Rs T w g x o) (hf : Fp S w w') (hS : ¬ S g) : Rs T w' g x o := h.keep (hf.block g h.lt hS)
theorem Rs.cells (h : Rs T w g x o) : ∃ a bad, w.cell? ⟨g, 0, none⟩ = some x ∧ w.cell? ⟨g, 1, none⟩ = some (.int .i64 a) ∧ w.cell? ⟨g, 2, none⟩ = some (.bool bad) ∧ w.frozen? ⟨g, 1, none⟩ = false ∧ w.frozen? ⟨g, 2, none⟩ = false ∧
    isI64 a ∧ (∀ c, o = some c → a = c ∧ bad = false) ∧ (o = none → bad = true) := by
  obtain ⟨a, bad, h1, h2, h3, h4⟩ := h.ex
  refine ⟨a, bad, ?_, ?_, ?_, frozen_of_row w g 1 _ _ h1, frozen_of_row w g 2 _ _ h1, h2, h3, h4⟩
  · rw [cell_of_row w g 0 _ _ _ h1]; rfl
  · rw [cell_of_row w g 1 _ _ _ h1]; rfl
  · rw [cell_of_row w g 2 _ _ _ h1]; rfl
theorem Rs.fail (h : Rs T w g x o) : Rs T (w.setCell ⟨g, 2, none⟩ (.bool true)) g x none ∧ Fp (fun k => k = g) w (w.setCell ⟨g, 2, none⟩ (.bool true)) := by
  obtain ⟨a, bad, h1, h2, h3, h4⟩ := h.ex
  refine ⟨⟨a, true, ?_, h2, (fun c hc => by cases hc), fun _ => rfl⟩, (Fp.refl (fun k => k = g) w).setCell (p := ⟨g, 2, none⟩) (Or.inl rfl) _⟩
  rw [heap_setCell_same w g 2 _ _ _ h1]; rfl
theorem Rs.move {c : Int} (h : Rs T w g x (some c)) {a' : Int} (ha : isI64 a') : Rs T (w.setCell ⟨g, 1, none⟩ (.int .i64 a')) g x (some a') ∧ Fp (fun k => k = g) w (w.setCell ⟨g, 1, none⟩ (.int .i64 a')) := by
  obtain ⟨a, bad, h1, h2, h3, h4⟩ := h.ex
  obtain ⟨rfl, rfl⟩ := h3 c rfl
  refine ⟨⟨a', false, ?_, ha, (fun c hc => ⟨by injection hc, rfl⟩), (fun h => by cases h)⟩, (Fp.refl (fun k => k = g) w).setCell (p := ⟨g, 1, none⟩) (Or.inl rfl) _⟩
  rw [heap_setCell_same w g 1 _ _ _ h1]; rfl
end

/-- What a call of number leaves behind. -/
def TookN (T : TypeId) (b : List UInt8) (x : Value) (g : Nat) (o : Option Int) (w : World) (e : Ending) (w' : World) : Prop :=
  ∃ n : Int, e = .returned (.int .i64 n) ∧ 0 ≤ n ∧ n < 1099511627776 ∧ Psp.Is dN b o n ∧ Rs T w' g x (Psp.nxt dN b o) ∧ Fp (fun k => k = g) w w'
def TookS (T : TypeId) (b : List UInt8) (x : Value) (g : Nat) (o : Option Int) (w : World) (e : Ending) (w' : World) : Prop :=
  ∃ n : Int, e = .returned (.int .i64 n) ∧ isI64 n ∧ Psp.Is Psp.dS b o n ∧ Rs T w' g x (Psp.nxt Psp.dS b o) ∧ Fp (fun k => k = g) w w'

theorem dN_none {b : List UInt8} {a : Int} (h : takeAt b a = none) : dN b a = none := by unfold dN; rw [h]; rfl
theorem dN_some {b : List UInt8} {a : Int} {v m : Nat} (h : takeAt b a = some (v, m)) : dN b a = some ((v : Int), a + (m : Int)) := by unfold dN; rw [h]; rfl

set_option maxRecDepth 100000 in
theorem rd_number (b : List UInt8) (x : Value) (g : Nat) (o : Option Int) (w : World) (P : Nat → Prop) (hx : RdP w P 1 x b.length (b.map bv)) (hR : Rs 102 w g x o) :
    Calls Try.prog 74 #[.pointer (some ⟨g, 0, none⟩)] w (TookN 102 b x g o w) := by
  obtain ⟨a, bad, k0, k1, k2, z1, z2, ha, hs, hn⟩ := hR.cells
  have HR := Lib.hid hR
  have hrd := hx.to_rd
  have Hrd := Lib.hid hrd
  obtain ⟨hbl, A, c, rfl, hb1, hb2, _⟩ := hx.parts
  obtain ⟨ha1, ha2⟩ := ha
  cases o with
  | none =>
    have hbad := hn rfl
    subst hbad
    clear hR hs hn hx hrd
    go_enter Try.func74, Try.ntmps74
    go_wp2_with fail
    go_ret
    exact ⟨0, rfl, by omega, by omega, Psp.is_none _ _ _, HR.out, Fp.refl _ _⟩
  | some p =>
    obtain ⟨hap, hbad⟩ := hs p rfl
    subst hap hbad
    have K0 := later_cell k0
    have K1 := later_cell k1
    have fin1 : ∀ w3, Below w.heap.size w w3 → w3.cell? ⟨g, 2, none⟩ = some (.bool false) ∧ w3.frozen? ⟨g, 2, none⟩ = false ∧ w3.cell? ⟨g, 1, none⟩ = some (.int .i64 a) ∧ w3.frozen? ⟨g, 1, none⟩ = false := fun w3 hb3 => by
      obtain ⟨a', bad', _, q1, q2, y1, y2, _, q3, _⟩ := (HR.out.below hb3).cells
      obtain ⟨rfl, rfl⟩ := q3 a rfl
      exact ⟨q2, y2, q1, y1⟩
    have Hfin := Lib.hid fin1
    clear hR hs hn hx hrd fin1
    cases ht : takeAt b a with
    | none =>
      have HT : Hid (∀ p : Later w, Calls Try.prog 85 #[.slice A b.length c, .int .i64 a] p.W fun e w' => e = .returned (.tuple #[.int .i64 0, .int .i64 0, .bool false]) ∧ p.W = w') :=
        Lib.hid fun p => taken_no _ _ b a p.W (Hrd.out.later (Nat.le_refl _) p) ha1 ha2 ht
      have Ht := Lib.hid ht
      clear ht
      go_enter Try.func74, Try.ntmps74
      go_wp2_with fail
      refine wp_region_later (by kernel_rfl) (by kernel_rfl) ?_
      repeat (first | go_big_quiet_step ((go_at_call 85; exact later_same _ (HT.out _))))
      refine wpQuiet_nil ?_
      intro w3 hw'
      have hb3 := later_out hw'
      clear hw'
      obtain ⟨q2, y2, q1, y1⟩ := Hfin.out w3 hb3
      have Hb3 := Lib.hid hb3
      clear hb3 k0 k1 k2 K0 K1
      go_wp2_with fail
      go_ret
      obtain ⟨f1, f2⟩ := (HR.out.below Hb3.out).fail
      exact ⟨0, rfl, by omega, by omega, Psp.is_no (dN_none Ht.out) _, by rw [Psp.nxt_no (dN_none Ht.out)]; exact f1, (Fp.of_below Hb3.out _).trans f2 fun k hk => Or.inl hk⟩
    | some vm =>
      obtain ⟨v, m⟩ := vm
      have hbd := takeAt_bd ht
      have HT : Hid (∀ p : Later w, Calls Try.prog 85 #[.slice A b.length c, .int .i64 a] p.W fun e w' => e = .returned (.tuple #[.int .i64 (v : Int), .int .i64 (a + (m : Int)), .bool true]) ∧ p.W = w') :=
        Lib.hid fun p => taken_yes _ _ b a v m p.W (Hrd.out.later (Nat.le_refl _) p) ha2 ht
      have Ht := Lib.hid ht
      obtain ⟨hb01, hb02, hb03, hb04⟩ := hbd
      clear ht
      go_enter Try.func74, Try.ntmps74
      go_wp2_with fail
      refine wp_region_later (by kernel_rfl) (by kernel_rfl) ?_
      repeat (first | go_big_quiet_step ((go_at_call 85; exact later_same _ (HT.out _))))
      refine wpQuiet_nil ?_
      intro w3 hw'
      have hb3 := later_out hw'
      clear hw'
      obtain ⟨q2, y2, q1, y1⟩ := Hfin.out w3 hb3
      have Hb3 := Lib.hid hb3
      clear hb3 k0 k1 k2 K0 K1
      go_wp2_with fail
      go_ret
      obtain ⟨f1, f2⟩ := (HR.out.below Hb3.out).move (a' := a + (m : Int)) ⟨by omega, by omega⟩
      exact ⟨(v : Int), rfl, by omega, by omega, Psp.is_yes (dN_some Ht.out), by rw [Psp.nxt_yes (dN_some Ht.out)]; exact f1, (Fp.of_below Hb3.out _).trans f2 fun k hk => Or.inl hk⟩

theorem nxt_S (b : List UInt8) (o : Option Int) : Psp.nxt Psp.dS b o = Psp.nxt dN b o := by
  cases o with
  | none => rfl
  | some a => unfold Psp.nxt Psp.dS; cases h : dN b a <;> simp [h]
theorem is_S {b : List UInt8} {o : Option Int} {n : Int} (h : Psp.Is dN b o n) : Psp.Is Psp.dS b o (Psp.zag n) := by
  intro p hp
  cases o with
  | none => cases hp
  | some a =>
    cases hd : dN b a with
    | none => simp [Psp.dS, hd] at hp
    | some q =>
      have := h q (by simp [hd])
      subst this
      simp [Psp.dS, hd] at hp
      rw [← hp]
theorem TookN.signed {T : TypeId} {b : List UInt8} {x : Value} {g : Nat} {o : Option Int} {w w' : World} {n : Int} (h3 : Psp.Is dN b o n) (h4 : Rs T w' g x (Psp.nxt dN b o)) (h5 : Fp (fun k => k = g) w w') : TookS T b x g o w (.returned (.int .i64 (Psp.zag n))) w' := by
  have := Psp.zag_bd n
  exact ⟨_, rfl, ⟨by omega, by omega⟩, is_S h3, by rw [nxt_S]; exact h4, h5⟩

theorem rd_signed (b : List UInt8) (x : Value) (g : Nat) (o : Option Int) (w : World) (P : Nat → Prop) (hx : RdP w P 1 x b.length (b.map bv)) (hR : Rs 102 w g x o) :
    Calls Try.prog 76 #[.pointer (some ⟨g, 0, none⟩)] w (TookS 102 b x g o w) := by
  have HX := Lib.hid hx
  have HR := Lib.hid hR
  clear hx hR
  go_enter Try.func76, Try.ntmps76
  go_wp2_with fail
  refine (rd_number b x g o w P HX.out HR.out).mono ?_
  rintro e w1 ⟨n, rfl, h1, h2, h3, h4, h5⟩
  have H := Lib.hid (TookN.signed h3 h4 h5)
  clear h3 h4 h5
  go_wp2_with (go_at_call 86; refine (zag_any _ _ (by omega) (by omega)).mono ?_; rintro e w' ⟨rfl, rfl⟩)
  go_ret
  exact H.out

end Go.Proofs.Ytadaejpodjhkdaa
