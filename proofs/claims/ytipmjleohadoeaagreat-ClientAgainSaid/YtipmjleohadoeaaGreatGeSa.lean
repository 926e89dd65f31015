/- Joined texts: OpenReq OpenW Rd Ch Rd2 Rd3. -/
import Derived.Test.YtipmjleohadoeaaGreatGbSa
import Derived.Deep.Fields
import Derived.Test.YtipmjleohadoeaaGreatGcSa
import Derived.ChangeSame
import Derived.Test.YtipmjleohadoeaaGreatGdSa
section
/- How requests are opened, as arguments and as elements of slices. -/
namespace Go.Proofs.YtipmjleohadoeaaGreat
open Go.RowKit Go.ChangeShapes Go.WideShapes
set_option linter.unusedVariables false

end Go.Proofs.YtipmjleohadoeaaGreat

end

section
/- How slices of things with slices in them are opened, as arguments: votes, certificates, parts. -/
namespace Go.Proofs.YtipmjleohadoeaaGreat
open Go.RowKit Go.ChangeShapes Go.WideShapes
set_option linter.unusedVariables false

def wfVote (v : Psp.Vote) : Prop := isI64 v.n ∧ isI64 v.s
/-- The numbers of a certificate, of a part are int64s. -/
def wfCert (c : Psp.Cert) : Prop := isI64 c.v ∧ isI64 c.i ∧ isI64 c.q ∧ (∀ r ∈ c.b, wfReq r) ∧ ∀ v ∈ c.o, wfVote v
def wfPart (p : Psp.Part) : Prop := isI64 p.f ∧ (∀ v ∈ p.o, wfVote v) ∧ (∀ c ∈ p.c, wfCert c) ∧ isI64 p.s
end Go.Proofs.YtipmjleohadoeaaGreat

end

section
/- Readers: a reader's block; the walks of reader.number, reader.signed. -/
namespace Psp
/-- The place behind what d takes, where something was taken up to here. -/
def nxt {α : Type} (d : Dec α) (b : List UInt8) (o : Option Int) : Option Int := (o.bind (d b)).map (·.2)
/-- x is what d takes, if it takes anything. -/
def Is {α : Type} (d : Dec α) (b : List UInt8) (o : Option Int) (x : α) : Prop := ∀ p, o.bind (d b) = some p → x = p.1
theorem nxt_no {α : Type} {d : Dec α} {b : List UInt8} {a : Int} (h : d b a = none) : nxt d b (some a) = none := by simp [nxt, h]
theorem nxt_yes {α : Type} {d : Dec α} {b : List UInt8} {a a' : Int} {x : α} (h : d b a = some (x, a')) : nxt d b (some a) = some a' := by simp [nxt, h]
theorem is_none {α : Type} (d : Dec α) (b : List UInt8) (x : α) : Is d b none x := fun p h => by cases h
theorem is_no {α : Type} {d : Dec α} {b : List UInt8} {a : Int} (h : d b a = none) (x : α) : Is d b (some a) x := fun p hp => by simp [h] at hp
theorem is_yes {α : Type} {d : Dec α} {b : List UInt8} {a a' : Int} {x : α} (h : d b a = some (x, a')) : Is d b (some a) x := fun p hp => by
  simp [h] at hp; rw [← hp]
end Psp
namespace Go.Proofs.YtipmjleohadoeaaGreat
open Go.RowKit
set_option linter.unusedVariables false

/-- A reader of type T: block g has the bytes' slice, the place, whether something was bad. o: the place, where nothing was. -/
structure Rs (T : TypeId) (w : World) (g : Nat) (x : Value) (o : Option Int) : Prop where
  ex : ∃ a bad, w.heap[g]? = some (.cells #[x, .int .i64 a, .bool bad] T (0, 0)) ∧ isI64 a ∧ (∀ c, o = some c → a = c ∧ bad = false) ∧ (o = none → bad = true)
section
variable {T : TypeId} {w w' : World} {g : Nat} {x : Value} {o : Option Int} {S : Nat → Prop}
theorem Rs.lt (h : Rs T w g x o) : g < w.heap.size := by
  obtain ⟨a, bad, h1, _⟩ := h.ex
  exact (Array.getElem?_eq_some_iff.1 h1).1
theorem Rs.keep (h : Rs T w g x o) (hk : w'.heap[g]? = w.heap[g]?) : Rs T w' g x o := by
  obtain ⟨a, bad, h1, h2⟩ := h.ex
  exact ⟨a, bad, hk.trans h1, h2⟩
theorem Rs.below (h : Rs T w g x o) (hb : Below w.heap.size w w') : Rs T w' g x o := h.keep (hb.block g h.lt)
theorem Rs.fp (h : Rs T w g x o) (hf : Fp S w w') (hS : ¬ S g) : Rs T w' g x o := h.keep (hf.block g h.lt hS)
theorem Rs.cells (h : Rs T w g x o) : ∃ a bad, w.cell? ⟨g, 0, none⟩ = some x ∧ w.cell? ⟨g, 1, none⟩ = some (.int .i64 a) ∧ w.cell? ⟨g, 2, none⟩ = some (.bool bad) ∧ w.frozen? ⟨g, 1, none⟩ = false ∧ w.frozen? ⟨g, 2, none⟩ = false ∧
    isI64 a ∧ (∀ c, o = some c → a = c ∧ bad = false) ∧ (o = none → bad = true) := by
  obtain ⟨a, bad, h1, h2, h3, h4⟩ := h.ex
  refine ⟨a, bad, ?_, ?_, ?_, frozen_of_row w g 1 _ _ h1, frozen_of_row w g 2 _ _ h1, h2, h3, h4⟩
  · rw [cell_of_row w g 0 _ _ _ h1]; rfl
  · rw [cell_of_row w g 1 _ _ _ h1]; rfl
  · rw [cell_of_row w g 2 _ _ _ h1]; rfl
theorem Rs.fail (h : Rs T w g x o) : Rs T (w.setCell ⟨g, 2, none⟩ (.bool true)) g x none ∧ Fp (fun k => k = g) w (w.setCell ⟨g, 2, none⟩ (.bool true)) := by
  obtain ⟨a, bad, h1, h2, h3, h4⟩ := h.ex
  refine ⟨⟨a, true, ?_, h2, (fun c hc => by cases hc), fun _ => rfl⟩, (Fp.refl (fun k => k = g) w).setCell (p := ⟨g, 2, none⟩) (Or.inl rfl) _⟩
  rw [heap_setCell_same w g 2 _ _ _ h1]; rfl
theorem Rs.move {c : Int} (h : Rs T w g x (some c)) {a' : Int} (ha : isI64 a') : Rs T (w.setCell ⟨g, 1, none⟩ (.int .i64 a')) g x (some a') ∧ Fp (fun k => k = g) w (w.setCell ⟨g, 1, none⟩ (.int .i64 a')) := by
  obtain ⟨a, bad, h1, h2, h3, h4⟩ := h.ex
  obtain ⟨rfl, rfl⟩ := h3 c rfl
  refine ⟨⟨a', false, ?_, ha, (fun c hc => ⟨by injection hc, rfl⟩), (fun h => by cases h)⟩, (Fp.refl (fun k => k = g) w).setCell (p := ⟨g, 1, none⟩) (Or.inl rfl) _⟩
  rw [heap_setCell_same w g 1 _ _ _ h1]; rfl
end

/-- What a call of number leaves behind. -/
def TookN (T : TypeId) (b : List UInt8) (x : Value) (g : Nat) (o : Option Int) (w : World) (e : Ending) (w' : World) : Prop :=
  ∃ n : Int, e = .returned (.int .i64 n) ∧ 0 ≤ n ∧ n < 1099511627776 ∧ Psp.Is dN b o n ∧ Rs T w' g x (Psp.nxt dN b o) ∧ Fp (fun k => k = g) w w'
def TookS (T : TypeId) (b : List UInt8) (x : Value) (g : Nat) (o : Option Int) (w : World) (e : Ending) (w' : World) : Prop :=
  ∃ n : Int, e = .returned (.int .i64 n) ∧ isI64 n ∧ Psp.Is Psp.dS b o n ∧ Rs T w' g x (Psp.nxt Psp.dS b o) ∧ Fp (fun k => k = g) w w'

theorem dN_none {b : List UInt8} {a : Int} (h : takeAt b a = none) : dN b a = none := by unfold dN; rw [h]; rfl
theorem dN_some {b : List UInt8} {a : Int} {v m : Nat} (h : takeAt b a = some (v, m)) : dN b a = some ((v : Int), a + (m : Int)) := by unfold dN; rw [h]; rfl

set_option maxRecDepth 100000 in
theorem rd_number (b : List UInt8) (x : Value) (g : Nat) (o : Option Int) (w : World) (P : Nat → Prop) (hx : RdP w P 1 x b.length (b.map bv)) (hR : Rs 215 w g x o) :
    Calls Tryz.prog 151 #[.pointer (some ⟨g, 0, none⟩)] w (TookN 215 b x g o w) := by
  obtain ⟨a, bad, k0, k1, k2, z1, z2, ha, hs, hn⟩ := hR.cells
  have HR := Lib.hid hR
  have hrd := hx.to_rd
  have Hrd := Lib.hid hrd
  obtain ⟨hbl, A, c, rfl, hb1, hb2, _⟩ := hx.parts
  obtain ⟨ha1, ha2⟩ := ha
  cases o with
  | none =>
    have hbad := hn rfl
    subst hbad
    clear hR hs hn hx hrd
    go_enter Tryz.func151, Tryz.ntmps151
    go_wp2_with fail
    go_ret
    exact ⟨0, rfl, by omega, by omega, Psp.is_none _ _ _, HR.out, Fp.refl _ _⟩
  | some p =>
    obtain ⟨hap, hbad⟩ := hs p rfl
    subst hap hbad
    have K0 := later_cell k0
    have K1 := later_cell k1
    have fin1 : ∀ w3, Below w.heap.size w w3 → w3.cell? ⟨g, 2, none⟩ = some (.bool false) ∧ w3.frozen? ⟨g, 2, none⟩ = false ∧ w3.cell? ⟨g, 1, none⟩ = some (.int .i64 a) ∧ w3.frozen? ⟨g, 1, none⟩ = false := fun w3 hb3 => by
      obtain ⟨a', bad', _, q1, q2, y1, y2, _, q3, _⟩ := (HR.out.below hb3).cells
      obtain ⟨rfl, rfl⟩ := q3 a rfl
      exact ⟨q2, y2, q1, y1⟩
    have Hfin := Lib.hid fin1
    clear hR hs hn hx hrd fin1
    cases ht : takeAt b a with
    | none =>
      have HT : Hid (∀ p : Later w, Calls Tryz.prog 59 #[.slice A b.length c, .int .i64 a] p.W fun e w' => e = .returned (.tuple #[.int .i64 0, .int .i64 0, .bool false]) ∧ p.W = w') :=
        Lib.hid fun p => taken_no _ _ b a p.W (Hrd.out.later (Nat.le_refl _) p) ha1 ha2 ht
      have Ht := Lib.hid ht
      clear ht
      go_enter Tryz.func151, Tryz.ntmps151
      go_wp2_with fail
      refine wp_region_later (by kernel_rfl) (by kernel_rfl) ?_
      repeat (first | go_big_quiet_step ((go_at_call 59; exact later_same _ (HT.out _))))
      refine wpQuiet_nil ?_
      intro w3 hw'
      have hb3 := later_out hw'
      clear hw'
      obtain ⟨q2, y2, q1, y1⟩ := Hfin.out w3 hb3
      have Hb3 := Lib.hid hb3
      clear hb3 k0 k1 k2 K0 K1
      go_wp2_with fail
      go_ret
      obtain ⟨f1, f2⟩ := (HR.out.below Hb3.out).fail
      exact ⟨0, rfl, by omega, by omega, Psp.is_no (dN_none Ht.out) _, by rw [Psp.nxt_no (dN_none Ht.out)]; exact f1, (Fp.of_below Hb3.out _).trans f2 fun k hk => Or.inl hk⟩
    | some vm =>
      obtain ⟨v, m⟩ := vm
      have hbd := takeAt_bd ht
      have HT : Hid (∀ p : Later w, Calls Tryz.prog 59 #[.slice A b.length c, .int .i64 a] p.W fun e w' => e = .returned (.tuple #[.int .i64 (v : Int), .int .i64 (a + (m : Int)), .bool true]) ∧ p.W = w') :=
        Lib.hid fun p => taken_yes _ _ b a v m p.W (Hrd.out.later (Nat.le_refl _) p) ha2 ht
      have Ht := Lib.hid ht
      obtain ⟨hb01, hb02, hb03, hb04⟩ := hbd
      clear ht
      go_enter Tryz.func151, Tryz.ntmps151
      go_wp2_with fail
      refine wp_region_later (by kernel_rfl) (by kernel_rfl) ?_
      repeat (first | go_big_quiet_step ((go_at_call 59; exact later_same _ (HT.out _))))
      refine wpQuiet_nil ?_
      intro w3 hw'
      have hb3 := later_out hw'
      clear hw'
      obtain ⟨q2, y2, q1, y1⟩ := Hfin.out w3 hb3
      have Hb3 := Lib.hid hb3
      clear hb3 k0 k1 k2 K0 K1
      go_wp2_with fail
      go_ret
      obtain ⟨f1, f2⟩ := (HR.out.below Hb3.out).move (a' := a + (m : Int)) ⟨by omega, by omega⟩
      exact ⟨(v : Int), rfl, by omega, by omega, Psp.is_yes (dN_some Ht.out), by rw [Psp.nxt_yes (dN_some Ht.out)]; exact f1, (Fp.of_below Hb3.out _).trans f2 fun k hk => Or.inl hk⟩

theorem nxt_S (b : List UInt8) (o : Option Int) : Psp.nxt Psp.dS b o = Psp.nxt dN b o := by
  cases o with
  | none => rfl
  | some a => unfold Psp.nxt Psp.dS; cases h : dN b a <;> simp [h]
theorem is_S {b : List UInt8} {o : Option Int} {n : Int} (h : Psp.Is dN b o n) : Psp.Is Psp.dS b o (Psp.zag n) := by
  intro p hp
  cases o with
  | none => cases hp
  | some a =>
    cases hd : dN b a with
    | none => simp [Psp.dS, hd] at hp
    | some q =>
      have := h q (by simp [hd])
      subst this
      simp [Psp.dS, hd] at hp
      rw [← hp]
theorem TookN.signed {T : TypeId} {b : List UInt8} {x : Value} {g : Nat} {o : Option Int} {w w' : World} {n : Int} (h3 : Psp.Is dN b o n) (h4 : Rs T w' g x (Psp.nxt dN b o)) (h5 : Fp (fun k => k = g) w w') : TookS T b x g o w (.returned (.int .i64 (Psp.zag n))) w' := by
  have := Psp.zag_bd n
  exact ⟨_, rfl, ⟨by omega, by omega⟩, is_S h3, by rw [nxt_S]; exact h4, h5⟩

theorem rd_signed (b : List UInt8) (x : Value) (g : Nat) (o : Option Int) (w : World) (P : Nat → Prop) (hx : RdP w P 1 x b.length (b.map bv)) (hR : Rs 215 w g x o) :
    Calls Tryz.prog 152 #[.pointer (some ⟨g, 0, none⟩)] w (TookS 215 b x g o w) := by
  have HX := Lib.hid hx
  have HR := Lib.hid hR
  clear hx hR
  go_enter Tryz.func152, Tryz.ntmps152
  go_wp2_with fail
  refine (rd_number b x g o w P HX.out HR.out).mono ?_
  rintro e w1 ⟨n, rfl, h1, h2, h3, h4, h5⟩
  have H := Lib.hid (TookN.signed h3 h4 h5)
  clear h3 h4 h5
  go_wp2_with (go_at_call 116; refine (zag_any _ _ (by omega) (by omega)).mono ?_; rintro e w' ⟨rfl, rfl⟩)
  go_ret
  exact H.out

end Go.Proofs.YtipmjleohadoeaaGreat

end

section
/- What is taken one behind the other. Plain. Printed by gen_rd.py. -/
namespace Go.Proofs.YtipmjleohadoeaaGreat
open Psp
theorem chain_V {b : List UInt8} {o : Option Int} {n : Int} {s : Int} (hn : Psp.Is dN b o n) (hs : Psp.Is dN b (Psp.nxt dN b o) s) :
    Psp.Is Psp.dV b o ⟨n, s⟩ ∧ Psp.nxt Psp.dV b o = (Psp.nxt dN b (Psp.nxt dN b o)) := by
  cases o with
  | none => exact ⟨Psp.is_none _ _ _, rfl⟩
  | some a0 =>
    cases g0 : dN b a0 with
    | none =>
      have hd : Psp.dV b a0 = none := by simp [Psp.dV, g0]
      refine ⟨Psp.is_no hd _, ?_⟩
      rw [Psp.nxt_no hd]
      simp [Psp.nxt, g0]
    | some p0 =>
      obtain ⟨y0, a1⟩ := p0
      have e0 : n = y0 := hn (y0, a1) (by simp [g0])
      subst e0
      cases g1 : dN b a1 with
      | none =>
        have hd : Psp.dV b a0 = none := by simp [Psp.dV, g0, g1]
        refine ⟨Psp.is_no hd _, ?_⟩
        rw [Psp.nxt_no hd]
        simp [Psp.nxt, g0, g1]
      | some p1 =>
        obtain ⟨y1, a2⟩ := p1
        have e1 : s = y1 := hs (y1, a2) (by simp [Psp.nxt, g0, g1])
        subst e1
        have hd : Psp.dV b a0 = some (⟨n, s⟩, a2) := by simp [Psp.dV, g0, g1]
        refine ⟨Psp.is_yes hd, ?_⟩
        rw [Psp.nxt_yes hd]
        simp [Psp.nxt, g0, g1]
theorem chain_R {b : List UInt8} {o : Option Int} {c : Int} {t : Int} {k : Int} {y : Int} {v : Int} {s : Int} (hc : Psp.Is dN b o c) (ht : Psp.Is dN b (Psp.nxt dN b o) t) (hk : Psp.Is dN b (Psp.nxt dN b (Psp.nxt dN b o)) k) (hy : Psp.Is Psp.dS b (Psp.nxt dN b (Psp.nxt dN b (Psp.nxt dN b o))) y) (hv : Psp.Is Psp.dS b (Psp.nxt Psp.dS b (Psp.nxt dN b (Psp.nxt dN b (Psp.nxt dN b o)))) v) (hs : Psp.Is dN b (Psp.nxt Psp.dS b (Psp.nxt Psp.dS b (Psp.nxt dN b (Psp.nxt dN b (Psp.nxt dN b o))))) s) :
    Psp.Is Psp.dR b o ⟨c, t, k, y, v, s⟩ ∧ Psp.nxt Psp.dR b o = (Psp.nxt dN b (Psp.nxt Psp.dS b (Psp.nxt Psp.dS b (Psp.nxt dN b (Psp.nxt dN b (Psp.nxt dN b o)))))) := by
  cases o with
  | none => exact ⟨Psp.is_none _ _ _, rfl⟩
  | some a0 =>
    cases g0 : dN b a0 with
    | none =>
      have hd : Psp.dR b a0 = none := by simp [Psp.dR, g0]
      refine ⟨Psp.is_no hd _, ?_⟩
      rw [Psp.nxt_no hd]
      simp [Psp.nxt, g0]
    | some p0 =>
      obtain ⟨y0, a1⟩ := p0
      have e0 : c = y0 := hc (y0, a1) (by simp [g0])
      subst e0
      cases g1 : dN b a1 with
      | none =>
        have hd : Psp.dR b a0 = none := by simp [Psp.dR, g0, g1]
        refine ⟨Psp.is_no hd _, ?_⟩
        rw [Psp.nxt_no hd]
        simp [Psp.nxt, g0, g1]
      | some p1 =>
        obtain ⟨y1, a2⟩ := p1
        have e1 : t = y1 := ht (y1, a2) (by simp [Psp.nxt, g0, g1])
        subst e1
        cases g2 : dN b a2 with
        | none =>
          have hd : Psp.dR b a0 = none := by simp [Psp.dR, g0, g1, g2]
          refine ⟨Psp.is_no hd _, ?_⟩
          rw [Psp.nxt_no hd]
          simp [Psp.nxt, g0, g1, g2]
        | some p2 =>
          obtain ⟨y2, a3⟩ := p2
          have e2 : k = y2 := hk (y2, a3) (by simp [Psp.nxt, g0, g1, g2])
          subst e2
          cases g3 : Psp.dS b a3 with
          | none =>
            have hd : Psp.dR b a0 = none := by simp [Psp.dR, g0, g1, g2, g3]
            refine ⟨Psp.is_no hd _, ?_⟩
            rw [Psp.nxt_no hd]
            simp [Psp.nxt, g0, g1, g2, g3]
          | some p3 =>
            obtain ⟨y3, a4⟩ := p3
            have e3 : y = y3 := hy (y3, a4) (by simp [Psp.nxt, g0, g1, g2, g3])
            subst e3
            cases g4 : Psp.dS b a4 with
            | none =>
              have hd : Psp.dR b a0 = none := by simp [Psp.dR, g0, g1, g2, g3, g4]
              refine ⟨Psp.is_no hd _, ?_⟩
              rw [Psp.nxt_no hd]
              simp [Psp.nxt, g0, g1, g2, g3, g4]
            | some p4 =>
              obtain ⟨y4, a5⟩ := p4
              have e4 : v = y4 := hv (y4, a5) (by simp [Psp.nxt, g0, g1, g2, g3, g4])
              subst e4
              cases g5 : dN b a5 with
              | none =>
                have hd : Psp.dR b a0 = none := by simp [Psp.dR, g0, g1, g2, g3, g4, g5]
                refine ⟨Psp.is_no hd _, ?_⟩
                rw [Psp.nxt_no hd]
                simp [Psp.nxt, g0, g1, g2, g3, g4, g5]
              | some p5 =>
                obtain ⟨y5, a6⟩ := p5
                have e5 : s = y5 := hs (y5, a6) (by simp [Psp.nxt, g0, g1, g2, g3, g4, g5])
                subst e5
                have hd : Psp.dR b a0 = some (⟨c, t, k, y, v, s⟩, a6) := by simp [Psp.dR, g0, g1, g2, g3, g4, g5]
                refine ⟨Psp.is_yes hd, ?_⟩
                rw [Psp.nxt_yes hd]
                simp [Psp.nxt, g0, g1, g2, g3, g4, g5]
theorem chain_C {b : List UInt8} {o : Option Int} {v : Int} {i : Int} {q : Int} {l : List Psp.Req} {m : List Psp.Vote} (hv : Psp.Is dN b o v) (hi : Psp.Is dN b (Psp.nxt dN b o) i) (hq : Psp.Is dN b (Psp.nxt dN b (Psp.nxt dN b o)) q) (hl : Psp.Is (Psp.dL Psp.dR) b (Psp.nxt dN b (Psp.nxt dN b (Psp.nxt dN b o))) l) (hm : Psp.Is (Psp.dL Psp.dV) b (Psp.nxt (Psp.dL Psp.dR) b (Psp.nxt dN b (Psp.nxt dN b (Psp.nxt dN b o)))) m) :
    Psp.Is Psp.dC b o ⟨v, i, q, l, m⟩ ∧ Psp.nxt Psp.dC b o = (Psp.nxt (Psp.dL Psp.dV) b (Psp.nxt (Psp.dL Psp.dR) b (Psp.nxt dN b (Psp.nxt dN b (Psp.nxt dN b o))))) := by
  cases o with
  | none => exact ⟨Psp.is_none _ _ _, rfl⟩
  | some a0 =>
    cases g0 : dN b a0 with
    | none =>
      have hd : Psp.dC b a0 = none := by simp [Psp.dC, g0]
      refine ⟨Psp.is_no hd _, ?_⟩
      rw [Psp.nxt_no hd]
      simp [Psp.nxt, g0]
    | some p0 =>
      obtain ⟨y0, a1⟩ := p0
      have e0 : v = y0 := hv (y0, a1) (by simp [g0])
      subst e0
      cases g1 : dN b a1 with
      | none =>
        have hd : Psp.dC b a0 = none := by simp [Psp.dC, g0, g1]
        refine ⟨Psp.is_no hd _, ?_⟩
        rw [Psp.nxt_no hd]
        simp [Psp.nxt, g0, g1]
      | some p1 =>
        obtain ⟨y1, a2⟩ := p1
        have e1 : i = y1 := hi (y1, a2) (by simp [Psp.nxt, g0, g1])
        subst e1
        cases g2 : dN b a2 with
        | none =>
          have hd : Psp.dC b a0 = none := by simp [Psp.dC, g0, g1, g2]
          refine ⟨Psp.is_no hd _, ?_⟩
          rw [Psp.nxt_no hd]
          simp [Psp.nxt, g0, g1, g2]
        | some p2 =>
          obtain ⟨y2, a3⟩ := p2
          have e2 : q = y2 := hq (y2, a3) (by simp [Psp.nxt, g0, g1, g2])
          subst e2
          cases g3 : (Psp.dL Psp.dR) b a3 with
          | none =>
            have hd : Psp.dC b a0 = none := by simp [Psp.dC, g0, g1, g2, g3]
            refine ⟨Psp.is_no hd _, ?_⟩
            rw [Psp.nxt_no hd]
            simp [Psp.nxt, g0, g1, g2, g3]
          | some p3 =>
            obtain ⟨y3, a4⟩ := p3
            have e3 : l = y3 := hl (y3, a4) (by simp [Psp.nxt, g0, g1, g2, g3])
            subst e3
            cases g4 : (Psp.dL Psp.dV) b a4 with
            | none =>
              have hd : Psp.dC b a0 = none := by simp [Psp.dC, g0, g1, g2, g3, g4]
              refine ⟨Psp.is_no hd _, ?_⟩
              rw [Psp.nxt_no hd]
              simp [Psp.nxt, g0, g1, g2, g3, g4]
            | some p4 =>
              obtain ⟨y4, a5⟩ := p4
              have e4 : m = y4 := hm (y4, a5) (by simp [Psp.nxt, g0, g1, g2, g3, g4])
              subst e4
              have hd : Psp.dC b a0 = some (⟨v, i, q, l, m⟩, a5) := by simp [Psp.dC, g0, g1, g2, g3, g4]
              refine ⟨Psp.is_yes hd, ?_⟩
              rw [Psp.nxt_yes hd]
              simp [Psp.nxt, g0, g1, g2, g3, g4]
theorem chain_P {b : List UInt8} {o : Option Int} {f : Int} {m : List Psp.Vote} {l : List Psp.Cert} {s : Int} (hf : Psp.Is dN b o f) (hm : Psp.Is (Psp.dL Psp.dV) b (Psp.nxt dN b o) m) (hl : Psp.Is (Psp.dL Psp.dC) b (Psp.nxt (Psp.dL Psp.dV) b (Psp.nxt dN b o)) l) (hs : Psp.Is dN b (Psp.nxt (Psp.dL Psp.dC) b (Psp.nxt (Psp.dL Psp.dV) b (Psp.nxt dN b o))) s) :
    Psp.Is Psp.dP b o ⟨f, m, l, s⟩ ∧ Psp.nxt Psp.dP b o = (Psp.nxt dN b (Psp.nxt (Psp.dL Psp.dC) b (Psp.nxt (Psp.dL Psp.dV) b (Psp.nxt dN b o)))) := by
  cases o with
  | none => exact ⟨Psp.is_none _ _ _, rfl⟩
  | some a0 =>
    cases g0 : dN b a0 with
    | none =>
      have hd : Psp.dP b a0 = none := by simp [Psp.dP, g0]
      refine ⟨Psp.is_no hd _, ?_⟩
      rw [Psp.nxt_no hd]
      simp [Psp.nxt, g0]
    | some p0 =>
      obtain ⟨y0, a1⟩ := p0
      have e0 : f = y0 := hf (y0, a1) (by simp [g0])
      subst e0
      cases g1 : (Psp.dL Psp.dV) b a1 with
      | none =>
        have hd : Psp.dP b a0 = none := by simp [Psp.dP, g0, g1]
        refine ⟨Psp.is_no hd _, ?_⟩
        rw [Psp.nxt_no hd]
        simp [Psp.nxt, g0, g1]
      | some p1 =>
        obtain ⟨y1, a2⟩ := p1
        have e1 : m = y1 := hm (y1, a2) (by simp [Psp.nxt, g0, g1])
        subst e1
        cases g2 : (Psp.dL Psp.dC) b a2 with
        | none =>
          have hd : Psp.dP b a0 = none := by simp [Psp.dP, g0, g1, g2]
          refine ⟨Psp.is_no hd _, ?_⟩
          rw [Psp.nxt_no hd]
          simp [Psp.nxt, g0, g1, g2]
        | some p2 =>
          obtain ⟨y2, a3⟩ := p2
          have e2 : l = y2 := hl (y2, a3) (by simp [Psp.nxt, g0, g1, g2])
          subst e2
          cases g3 : dN b a3 with
          | none =>
            have hd : Psp.dP b a0 = none := by simp [Psp.dP, g0, g1, g2, g3]
            refine ⟨Psp.is_no hd _, ?_⟩
            rw [Psp.nxt_no hd]
            simp [Psp.nxt, g0, g1, g2, g3]
          | some p3 =>
            obtain ⟨y3, a4⟩ := p3
            have e3 : s = y3 := hs (y3, a4) (by simp [Psp.nxt, g0, g1, g2, g3])
            subst e3
            have hd : Psp.dP b a0 = some (⟨f, m, l, s⟩, a4) := by simp [Psp.dP, g0, g1, g2, g3]
            refine ⟨Psp.is_yes hd, ?_⟩
            rw [Psp.nxt_yes hd]
            simp [Psp.nxt, g0, g1, g2, g3]
end Go.Proofs.YtipmjleohadoeaaGreat

end

section
/- A reader's vote, req. Printed by gen_rd2.py. -/
namespace Go.Proofs.YtipmjleohadoeaaGreat
open Go.RowKit
set_option linter.unusedVariables false

/-- A struct's result cell, its variable's cell and a reader, in a world that has come of w0. -/
structure Two (RT T : TypeId) (w0 W : World) (g : Nat) (cs zs : Array Value) (x : Value) (o : Option Int) : Prop where
  rs : Rs RT W g x o
  vr : W.heap[w0.heap.size + 1]? = some (.cells cs T (0, 0))
  rr : W.heap[w0.heap.size]? = some (.cells zs T (0, 0))
  fp : Fp (fun k => k = g) w0 W
  hg : g < w0.heap.size
section
variable {RT T : TypeId} {w0 W W' : World} {g : Nat} {cs zs : Array Value} {x : Value} {o o' : Option Int}
theorem Two.new (h : Rs RT w0 g x o) (zs : Array Value) (T : TypeId) : Two RT T w0 ((w0.alloc (.cells zs T)).alloc (.cells zs T)) g zs zs x o := by
  have hb : Below w0.heap.size w0 ((w0.alloc (.cells zs T)).alloc (.cells zs T)) := (alloc_below w0 _).trans ((alloc_below _ _).mono (by simp))
  exact ⟨h.below hb, heap_alloc2_new w0 _ _, ((alloc_below (w0.alloc _) _).block w0.heap.size (by simp)).trans (heap_alloc_new w0 _), Fp.of_below hb _, h.lt⟩
theorem Two.lt1 (h : Two RT T w0 W g cs zs x o) : w0.heap.size + 1 < W.heap.size := (Array.getElem?_eq_some_iff.1 h.vr).1
theorem Two.call (h : Two RT T w0 W g cs zs x o) (hr : Rs RT W' g x o') (hf : Fp (fun k => k = g) W W') : Two RT T w0 W' g cs zs x o' := by
  have := h.hg
  have := h.lt1
  exact ⟨hr, (hf.block _ h.lt1 (by omega)).trans h.vr, (hf.block _ (by omega) (by omega)).trans h.rr, h.fp.trans hf fun k hk => Or.inl hk, h.hg⟩
theorem Two.store (h : Two RT T w0 W g cs zs x o) (i : Nat) (v : Value) {cs' : Array Value} (hc : cs.setIfInBounds i v = cs') : Two RT T w0 (W.setCell ⟨w0.heap.size + 1, i, none⟩ v) g cs' zs x o := by
  have hg := h.hg
  subst hc
  refine ⟨h.rs.keep (Below.heap_setCell W ⟨w0.heap.size + 1, i, none⟩ _ g (by simp; omega)), heap_setCell_same W _ i _ _ v h.vr, (Below.heap_setCell W ⟨w0.heap.size + 1, i, none⟩ _ _ (by simp)).trans h.rr, h.fp.setCell (p := ⟨w0.heap.size + 1, i, none⟩) (Or.inr (by simp)) _, hg⟩
theorem Two.cell (h : Two RT T w0 W g cs zs x o) (i : Nat) (hi : i < cs.size) : W.cell? ⟨w0.heap.size + 1, i, none⟩ = some cs[i] ∧ W.frozen? ⟨w0.heap.size + 1, i, none⟩ = false := by
  refine ⟨?_, frozen_of_row W _ i _ _ h.vr⟩
  rw [cell_of_row W _ i _ _ _ h.vr, Array.getElem?_eq_getElem hi]
theorem Two.range (h : Two RT T w0 W g cs zs x o) (l : List Value) (hl : l.toArray = cs) : W.rangeAt (w0.heap.size + 1) 0 l := fun j v hv => by
  subst hl
  rw [Nat.zero_add, cell_of_row W _ j _ _ _ h.vr]
  simpa using hv
theorem Two.there (h : Two RT T w0 W g cs zs x o) : W.there w0.heap.size 0 zs.size := fun j hj => by
  refine ⟨?_, frozen_of_row W _ (0 + j) _ _ h.rr⟩
  rw [Nat.zero_add, cell_of_row W _ j _ _ _ h.rr]
  simp [hj]
/-- The result's cell, when the value is stored there. -/
theorem Two.result (h : Two RT T w0 W g cs zs x o) (l : List Value) (hl : l.length = zs.size) : (W.setCells w0.heap.size 0 l).heap[w0.heap.size]? = some (.cells l.toArray T (0, 0)) ∧ Rs RT (W.setCells w0.heap.size 0 l) g x o ∧ Fp (fun k => k = g) w0 (W.setCells w0.heap.size 0 l) ∧ ∀ b, b ≠ w0.heap.size → (W.setCells w0.heap.size 0 l).heap[b]? = W.heap[b]? := by
  have hg := h.hg
  have key : ∀ (vs : List Value) (k : Nat) (W : World) (pre : List Value), W.heap[w0.heap.size]? = some (.cells (pre ++ zs.toList.drop k).toArray T (0, 0)) → pre.length = k → k + vs.length = zs.size → (W.setCells w0.heap.size k vs).heap[w0.heap.size]? = some (.cells (pre ++ vs).toArray T (0, 0)) := by
    intro vs
    induction vs with
    | nil =>
      intro k W pre h1 h2 h3
      rw [List.drop_eq_nil_of_le (by simp at h3 ⊢; omega)] at h1
      exact h1
    | cons v vs ih =>
      intro k W pre h1 h2 h3
      have h4 : (W.setCell ⟨w0.heap.size, k, none⟩ v).heap[w0.heap.size]? = some (.cells ((pre ++ [v]) ++ zs.toList.drop (k + 1)).toArray T (0, 0)) := by
        rw [heap_setCell_same W _ k _ _ v h1]
        congr 2
        have hk : k < zs.toList.length := by simp at h3 ⊢; omega
        rw [List.drop_eq_getElem_cons hk]
        apply Array.ext'
        simp [h2]
      have := ih (k + 1) _ (pre ++ [v]) h4 (by simp [h2]) (by simp at h3 ⊢; omega)
      simpa [World.setCells] using this
  have oth : ∀ (vs : List Value) (k : Nat) (W : World) (b : Nat), b ≠ w0.heap.size → (W.setCells w0.heap.size k vs).heap[b]? = W.heap[b]? := by
    intro vs
    induction vs with
    | nil => intro k W b _; rfl
    | cons v vs ih =>
      intro k W b hb
      exact (ih (k + 1) _ b hb).trans (Below.heap_setCell W ⟨w0.heap.size, k, none⟩ _ b hb)
  refine ⟨by simpa using key l 0 W [] (by simpa using h.rr) rfl (by simpa using hl), h.rs.keep (oth l 0 W g (by omega)), h.fp.setCells (Or.inr (Nat.le_refl _)) _, fun b hb => oth l 0 W b hb⟩
end
/-- What a call that reads a struct leaves behind. -/
def TookV (RT : TypeId) {α : Type} (d : Psp.Dec α) (f : α → List Value) (b : List UInt8) (x : Value) (g : Nat) (o : Option Int) (w : World) (e : Ending) (w' : World) : Prop :=
  ∃ a : α, e = .returned (.agg (f a).toArray) ∧ Psp.Is d b o a ∧ Rs RT w' g x (Psp.nxt d b o) ∧ Fp (fun k => k = g) w w'

set_option maxRecDepth 100000 in
set_option maxHeartbeats 1000000 in
theorem rd_vote (b : List UInt8) (x : Value) (g : Nat) (o : Option Int) (w : World) (hx : RdP w (fun k => k ≠ g) 1 x b.length (b.map bv)) (hR : Rs 215 w g x o) :
    Calls Tryz.prog 120 #[.pointer (some ⟨g, 0, none⟩)] w (TookV 215 Psp.dV vt b x g o w) := by
  have t0 := Two.new hR #[.int .i64 0, .int .i64 0] 166
  have HX := Lib.hid hx
  have T0 := Lib.hid t0
  clear hx hR t0
  go_enter Tryz.func120, Tryz.ntmps120
  go_wp2_with fail
  refine (rd_number b x g _ _ (fun k => k ≠ g) (HX.out.fp T0.out.fp (fun k hk => hk)) T0.out.rs).mono ?_
  rintro e w1 ⟨n, rfl, h1, h2, h3, h4, h5⟩
  have t1 := T0.out.call h4 h5
  obtain ⟨x0, z0⟩ := t1.cell 0 (by simp)
  simp only [List.getElem_toArray, List.getElem_cons_zero] at x0
  have T1 := Lib.hid (t1.store 0 (.int .i64 n) (cs' := #[.int .i64 n, .int .i64 0]) rfl)
  have E0 := Lib.hid h3
  clear h1 h2 h3 h4 h5 t1
  go_wp2_with fail
  refine (rd_number b x g _ _ (fun k => k ≠ g) (HX.out.fp T1.out.fp (fun k hk => hk)) T1.out.rs).mono ?_
  rintro e w2 ⟨s, rfl, h1, h2, h3, h4, h5⟩
  have t1 := T1.out.call h4 h5
  obtain ⟨x1, z1⟩ := t1.cell 1 (by simp)
  simp only [List.getElem_toArray, List.getElem_cons_zero, List.getElem_cons_succ] at x1
  have T2 := Lib.hid (t1.store 1 (.int .i64 s) (cs' := #[.int .i64 n, .int .i64 s]) rfl)
  have E1 := Lib.hid h3
  clear h1 h2 h3 h4 h5 t1 x0 z0
  have hrg := T2.out.range [.int .i64 n, .int .i64 s] rfl
  have Hrg := Lib.hid hrg
  have hth := T2.out.there
  have Hth := Lib.hid hth
  clear hrg hth
  go_wp2_with (first | (refine list_load rfl 166 (.tmp 3) rfl (w.heap.size + 1) 0 rfl [.int .i64 n, .int .i64 s] _ ?_ Tryz.underlying166 rfl sizeV ?_; exact Hrg.out) | (refine wpList_store_mid rfl 166 (.tmp 2) _ rfl w.heap.size 0 #[.int .i64 n, .int .i64 s] rfl rfl Hth.out sizeV (by simp [Value.oneCell']) ?_))
  obtain ⟨r1, r2, r3, _⟩ := T2.out.result [.int .i64 n, .int .i64 s] rfl
  refine bodyPost_ret (v := .agg #[.int .i64 n, .int .i64 s]) ?_ rfl ?_
  · exact results_cell_row Tryz.results120 _ _ w.heap.size _ _ _ _ rfl r1 Tryz.underlying166 rfl sizeV
  · obtain ⟨c1, c2⟩ := chain_V E0.out E1.out
    exact ⟨⟨n, s⟩, rfl, c1, by rw [c2]; exact r2, r3⟩

set_option maxRecDepth 100000 in
set_option maxHeartbeats 1000000 in
theorem rd_req (b : List UInt8) (x : Value) (g : Nat) (o : Option Int) (w : World) (hx : RdP w (fun k => k ≠ g) 1 x b.length (b.map bv)) (hR : Rs 215 w g x o) :
    Calls Tryz.prog 118 #[.pointer (some ⟨g, 0, none⟩)] w (TookV 215 Psp.dR rq b x g o w) := by
  have t0 := Two.new hR #[.int .i64 0, .int .i64 0, .int .i64 0, .int .i64 0, .int .i64 0, .int .i64 0] 42
  have HX := Lib.hid hx
  have T0 := Lib.hid t0
  clear hx hR t0
  go_enter Tryz.func118, Tryz.ntmps118
  go_wp2_with fail
  refine (rd_number b x g _ _ (fun k => k ≠ g) (HX.out.fp T0.out.fp (fun k hk => hk)) T0.out.rs).mono ?_
  rintro e w1 ⟨c, rfl, h1, h2, h3, h4, h5⟩
  have t1 := T0.out.call h4 h5
  obtain ⟨x0, z0⟩ := t1.cell 0 (by simp)
  simp only [List.getElem_toArray, List.getElem_cons_zero] at x0
  have T1 := Lib.hid (t1.store 0 (.int .i64 c) (cs' := #[.int .i64 c, .int .i64 0, .int .i64 0, .int .i64 0, .int .i64 0, .int .i64 0]) rfl)
  have E0 := Lib.hid h3
  clear h1 h2 h3 h4 h5 t1
  go_wp2_with fail
  refine (rd_number b x g _ _ (fun k => k ≠ g) (HX.out.fp T1.out.fp (fun k hk => hk)) T1.out.rs).mono ?_
  rintro e w2 ⟨t, rfl, h1, h2, h3, h4, h5⟩
  have t1 := T1.out.call h4 h5
  obtain ⟨x1, z1⟩ := t1.cell 1 (by simp)
  simp only [List.getElem_toArray, List.getElem_cons_zero, List.getElem_cons_succ] at x1
  have T2 := Lib.hid (t1.store 1 (.int .i64 t) (cs' := #[.int .i64 c, .int .i64 t, .int .i64 0, .int .i64 0, .int .i64 0, .int .i64 0]) rfl)
  have E1 := Lib.hid h3
  clear h1 h2 h3 h4 h5 t1 x0 z0
  go_wp2_with fail
  refine (rd_number b x g _ _ (fun k => k ≠ g) (HX.out.fp T2.out.fp (fun k hk => hk)) T2.out.rs).mono ?_
  rintro e w3 ⟨k, rfl, h1, h2, h3, h4, h5⟩
  have t1 := T2.out.call h4 h5
  obtain ⟨x2, z2⟩ := t1.cell 2 (by simp)
  simp only [List.getElem_toArray, List.getElem_cons_zero, List.getElem_cons_succ] at x2
  have T3 := Lib.hid (t1.store 2 (.int .i64 k) (cs' := #[.int .i64 c, .int .i64 t, .int .i64 k, .int .i64 0, .int .i64 0, .int .i64 0]) rfl)
  have E2 := Lib.hid h3
  clear h1 h2 h3 h4 h5 t1 x1 z1
  go_wp2_with fail
  refine (rd_signed b x g _ _ (fun k => k ≠ g) (HX.out.fp T3.out.fp (fun k hk => hk)) T3.out.rs).mono ?_
  rintro e w4 ⟨y, rfl, h1, h3, h4, h5⟩
  have t1 := T3.out.call h4 h5
  obtain ⟨x3, z3⟩ := t1.cell 3 (by simp)
  simp only [List.getElem_toArray, List.getElem_cons_zero, List.getElem_cons_succ] at x3
  have T4 := Lib.hid (t1.store 3 (.int .i64 y) (cs' := #[.int .i64 c, .int .i64 t, .int .i64 k, .int .i64 y, .int .i64 0, .int .i64 0]) rfl)
  have E3 := Lib.hid h3
  clear h1 h3 h4 h5 t1 x2 z2
  go_wp2_with fail
  refine (rd_signed b x g _ _ (fun k => k ≠ g) (HX.out.fp T4.out.fp (fun k hk => hk)) T4.out.rs).mono ?_
  rintro e w5 ⟨v, rfl, h1, h3, h4, h5⟩
  have t1 := T4.out.call h4 h5
  obtain ⟨x4, z4⟩ := t1.cell 4 (by simp)
  simp only [List.getElem_toArray, List.getElem_cons_zero, List.getElem_cons_succ] at x4
  have T5 := Lib.hid (t1.store 4 (.int .i64 v) (cs' := #[.int .i64 c, .int .i64 t, .int .i64 k, .int .i64 y, .int .i64 v, .int .i64 0]) rfl)
  have E4 := Lib.hid h3
  clear h1 h3 h4 h5 t1 x3 z3
  go_wp2_with fail
  refine (rd_number b x g _ _ (fun k => k ≠ g) (HX.out.fp T5.out.fp (fun k hk => hk)) T5.out.rs).mono ?_
  rintro e w6 ⟨s, rfl, h1, h2, h3, h4, h5⟩
  have t1 := T5.out.call h4 h5
  obtain ⟨x5, z5⟩ := t1.cell 5 (by simp)
  simp only [List.getElem_toArray, List.getElem_cons_zero, List.getElem_cons_succ] at x5
  have T6 := Lib.hid (t1.store 5 (.int .i64 s) (cs' := #[.int .i64 c, .int .i64 t, .int .i64 k, .int .i64 y, .int .i64 v, .int .i64 s]) rfl)
  have E5 := Lib.hid h3
  clear h1 h2 h3 h4 h5 t1 x4 z4
  have hrg := T6.out.range [.int .i64 c, .int .i64 t, .int .i64 k, .int .i64 y, .int .i64 v, .int .i64 s] rfl
  have Hrg := Lib.hid hrg
  have hth := T6.out.there
  have Hth := Lib.hid hth
  clear hrg hth
  go_wp2_with (first | (refine list_load rfl 42 (.tmp 3) rfl (w.heap.size + 1) 0 rfl [.int .i64 c, .int .i64 t, .int .i64 k, .int .i64 y, .int .i64 v, .int .i64 s] _ ?_ Tryz.underlying42 rfl sizeR ?_; exact Hrg.out) | (refine wpList_store_mid rfl 42 (.tmp 2) _ rfl w.heap.size 0 #[.int .i64 c, .int .i64 t, .int .i64 k, .int .i64 y, .int .i64 v, .int .i64 s] rfl rfl Hth.out sizeR (by simp [Value.oneCell']) ?_))
  obtain ⟨r1, r2, r3, _⟩ := T6.out.result [.int .i64 c, .int .i64 t, .int .i64 k, .int .i64 y, .int .i64 v, .int .i64 s] rfl
  refine bodyPost_ret (v := .agg #[.int .i64 c, .int .i64 t, .int .i64 k, .int .i64 y, .int .i64 v, .int .i64 s]) ?_ rfl ?_
  · exact results_cell_row Tryz.results118 _ _ w.heap.size _ _ _ _ rfl r1 Tryz.underlying42 rfl sizeR
  · obtain ⟨c1, c2⟩ := chain_R E0.out E1.out E2.out E3.out E4.out E5.out
    exact ⟨⟨c, t, k, y, v, s⟩, rfl, c1, by rw [c2]; exact r2, r3⟩

end Go.Proofs.YtipmjleohadoeaaGreat

end

section
/- A reader's lists: taken of requests, of votes. Printed by gen_rd3.py. -/
namespace Psp
open Go.Proofs.YtipmjleohadoeaaGreat
/-- Where xs of n have been taken, o' is the place. -/
structure Many {α : Type} (d : Dec α) (b : List UInt8) (n : Nat) (o1 : Option Int) (xs : List α) (o' : Option Int) : Prop where
  no : o' = none → o1.bind (dMany d b n) = none
  yes : ∀ a', o' = some a' → o1.bind (dMany d b n) = (dMany d b (n - xs.length) a').map fun q => (xs ++ q.1, q.2)
section
variable {α : Type} {d : Dec α} {b : List UInt8} {n : Nat} {o1 o' : Option Int} {xs : List α}
theorem Many.start : Many d b n o1 [] o1 := by
  refine ⟨fun h => by rw [h]; rfl, fun a' h => ?_⟩
  rw [h]
  simp
theorem Many.step {a' : Int} {y : α} (h : Many d b n o1 xs (some a')) (hk : xs.length < n) (hy : Is d b (some a') y) : Many d b n o1 (xs ++ [y]) (nxt d b (some a')) := by
  have h1 := h.yes a' rfl
  obtain ⟨m, hm⟩ : ∃ m, n - xs.length = m + 1 := ⟨n - xs.length - 1, by omega⟩
  rw [hm] at h1
  have hm2 : n - (xs ++ [y]).length = m := by rw [List.length_append, List.length_singleton]; omega
  cases hd : d b a' with
  | none =>
    rw [nxt_no hd]
    refine ⟨fun _ => ?_, fun a hc => by cases hc⟩
    rw [h1]; simp [dMany, hd]
  | some p =>
    obtain ⟨z, c⟩ := p
    have : y = z := hy (z, c) (by simp [hd])
    subst this
    rw [nxt_yes hd]
    refine ⟨(fun hc => by cases hc), fun a hc => ?_⟩
    injection hc with hc
    subst hc
    rw [h1, hm2]
    simp [dMany, hd, Option.map_map]
    cases dMany d b m c <;> simp
theorem Many.done {a' : Int} (h : Many d b n o1 xs (some a')) (hk : xs.length = n) : o1.bind (dMany d b n) = some (xs, a') := by
  rw [h.yes a' rfl, hk, Nat.sub_self]
  simp [dMany]
theorem dL_of {o : Option Int} {m : Int} (hn : Is dN b o m) (h : m ≤ 256) : o.bind (dL d b) = (nxt dN b o).bind (dMany d b m.toNat) := by
  cases o with
  | none => rfl
  | some a =>
    cases hd : dN b a with
    | none => simp [dL, hd, nxt]
    | some p =>
      have := hn p (by simp [hd])
      subst this
      simp [dL, hd, nxt, h]
theorem dL_big {o : Option Int} {m : Int} (hn : Is dN b o m) (h : 256 < m) : o.bind (dL d b) = none := by
  cases o with
  | none => rfl
  | some a =>
    cases hd : dN b a with
    | none => simp [dL, hd]
    | some p =>
      have := hn p (by simp [hd])
      subst this
      simp [dL, hd]
      omega
theorem nxt_of {α : Type} {d : Dec α} {o : Option Int} {x : α} {a : Int} (h : o.bind (d b) = some (x, a)) : nxt d b o = some a ∧ Is d b o x := ⟨by unfold nxt; rw [h]; rfl, fun p hp => by rw [h] at hp; injection hp with hp; rw [← hp]⟩
theorem nxt_not {α : Type} {d : Dec α} {o : Option Int} (h : o.bind (d b) = none) : nxt d b o = none ∧ ∀ x, Is d b o x := ⟨by unfold nxt; rw [h]; rfl, fun x p hp => by rw [h] at hp; cases hp⟩
end
end Psp
namespace Go.Proofs.YtipmjleohadoeaaGreat
open Go.RowKit
set_option linter.unusedVariables false

/-- What a call that reads a list leaves behind. RD: how the list reads in memory. -/
def TookL (RT : TypeId) {α : Type} (d : Psp.Dec α) (RD : World → (Nat → Prop) → Value → List α → Prop) (b : List UInt8) (x : Value) (g : Nat) (o : Option Int) (w : World) (e : Ending) (w' : World) : Prop :=
  ∃ (v : Value) (l : List α), e = .returned v ∧ RD w' (fun k => w.heap.size ≤ k) v l ∧ Psp.Is (Psp.dL d) b o l ∧ Rs RT w' g x (Psp.nxt (Psp.dL d) b o) ∧ Fp (fun k => k = g) w w'
def RdR (w : World) (P : Nat → Prop) (v : Value) (l : List Psp.Req) : Prop := RdP w P 6 v l.length (l.flatMap rq)
def RdV (w : World) (P : Nat → Prop) (v : Value) (l : List Psp.Vote) : Prop := RdP w P 2 v l.length (l.flatMap vt)
theorem nil_R (w : World) (P : Nat → Prop) : RdR w P (.slice none 0 0) [] := RdP.none_
theorem nil_V (w : World) (P : Nat → Prop) : RdV w P (.slice none 0 0) [] := RdP.none_
theorem nil_C (w : World) (P : Nat → Prop) : RdC w P (.slice none 0 0) [] := ⟨[], rfl, RdP.none_, fun x hx => by cases hx⟩
theorem nil_A (w : World) (P : Nat → Prop) : RdA w P (.slice none 0 0) [] := ⟨[], rfl, RdP.none_, fun x hx => by cases hx⟩
theorem zeroV (t : Psp.Vote) : (Tryz.prog.info? 166).map (fun i => (i.zero.map (·.cells.size), i.size)) = some (some (vt t).length, (vt t).length) := by
  show _ = some (some 2, 2)
  kernel_rfl
theorem zeroR (t : Psp.Req) : (Tryz.prog.info? 42).map (fun i => (i.zero.map (·.cells.size), i.size)) = some (some (rq t).length, (rq t).length) := by
  show _ = some (some 6, 6)
  kernel_rfl
def lenOf : Value → Nat | .slice _ n _ => n | _ => 0
theorem votE : Elem Tryz.prog 52 166 2 16 := ⟨Tryz.underlying52, by kernel_rfl, by decide⟩

/-- What the loop keeps. -/
structure TInvV (b : List UInt8) (x : Value) (g : Nat) (o o1 : Option Int) (n : Nat) (w w' : World) (out : Value) (xs : List Psp.Vote) (o' : Option Int) : Prop where
  n256 : n ≤ 256
  le : xs.length ≤ n
  own : w'.ownsRow w.heap.size 166 2 out xs.length (xs.flatMap vt)
  many : Psp.Many Psp.dV b n o1 (xs) o'
  rs : Rs 215 w' g x o'
  fp : Fp (fun k => k = g) w w'
/-- How the rounds of taken go: to the end, or to the next round. -/
def TJV (b : List UInt8) (x : Value) (g : Nat) (o o1 : Option Int) (n : Nat) (w : World) (lab : Nat) (a' : Act) (w' : World) : Prop :=
  (lab = 0 ∧ o.bind (Psp.dL Psp.dV b) = none ∧ Fp (fun k => k = g) w w' ∧ (∃ o', Rs 215 w' g x o') ∧ ∃ u1 u2 u3 u5 u6 u7 u8 u9 u10 u11 u12 u13 u14 u15 u16 u17 u18 u19 u20 u21 u22 u23 u24 u25 u26 u27 u28 : Value, a' = { tmps := #[.pointer (some ⟨g, 0, none⟩), u1, u2, u3, .slice none 0 0, u5, u6, u7, u8, u9, u10, u11, u12, u13, u14, u15, u16, u17, u18, u19, u20, u21, u22, u23, u24, u25, u26, u27, u28], defers := [] }) ∨
  (lab = 1 ∧ ∃ (out : Value) (xs : List Psp.Vote) (o' : Option Int), TInvV b x g o o1 n w w' out xs o' ∧ ∃ u2 u3 u7 u8 u9 u10 u11 u12 u13 u14 u15 u16 u17 u18 u19 u20 u21 u22 u23 u24 u25 u26 u27 u28 : Value, a' = { tmps := #[.pointer (some ⟨g, 0, none⟩), .func (.func 120) #[] #[], u2, u3, .slice none 0 0, out, .int .i64 (n : Int), u7, u8, u9, u10, u11, u12, u13, u14, u15, u16, u17, u18, u19, u20, u21, u22, u23, u24, u25, u26, u27, u28], defers := [] })

theorem TInvV.next {b : List UInt8} {x : Value} {g : Nat} {o o1 : Option Int} {n m c5 : Nat} {w w' w1 w2 : World} {A5 : Option Addr} {xs : List Psp.Vote} {a : Int} {t : Psp.Vote} {v' : Value} (h : TInvV b x g o o1 n w w' (.slice A5 m c5) xs (some a))
    (hm : xs.length = m) (hlt : m < n) (h3 : Psp.Is Psp.dV b (some a) t) (h4 : Rs 215 w1 g x (Psp.nxt Psp.dV b (some a))) (h5 : Fp (fun k => k = g) w' w1) (hg : g < w.heap.size) (hown1 : w1.ownsRow w.heap.size 166 2 (.slice A5 m c5) m (xs.flatMap vt))
    (hown2 : w2.ownsRow w.heap.size 166 2 v' (m + 1) (xs.flatMap vt ++ (vt t).toArray.toList)) (hg2 : w1.grownBy w2 (Value.slice A5 m c5).ownBlock) (hv2 : v'.ownBlock = (Value.slice A5 m c5).ownBlock ∨ v'.ownBlock = some (w1.heap.size + 1)) :
    TInvV b x g o o1 n w w2 v' (xs ++ [t]) (Psp.nxt Psp.dV b (some a)) := by
  have hz := h.fp.size
  have hz1 := h5.size
  have hgo : (Value.slice A5 m c5).ownBlock ≠ some g := fun he => by have := (hown1.lt g he).1; omega
  refine ⟨h.n256, by rw [List.length_append]; simp; omega, ?_, h.many.step (by omega) h3, h4.keep (hg2.block g (by omega) (fun he => hgo he.symm)), (h.fp.trans h5 fun k hk => Or.inl hk).grown hg2 fun k hk => Or.inr (hown1.lt k hk).1⟩
  rw [List.length_append, List.flatMap_append, hm]
  simpa using hown2

set_option maxRecDepth 100000 in
set_option maxHeartbeats 2000000 in
theorem rd_takenV (b : List UInt8) (x : Value) (g : Nat) (o : Option Int) (w : World) (hx : RdP w (fun k => k ≠ g) 1 x b.length (b.map bv)) (hR : Rs 215 w g x o) :
    Calls Tryz.prog 153 #[.pointer (some ⟨g, 0, none⟩), .func (.func 120) #[] #[]] w (TookL 215 Psp.dV RdV b x g o w) := by
  have HX := Lib.hid hx
  have HR := Lib.hid hR
  have hg := hR.lt
  clear hx hR
  go_enter Tryz.func153, Tryz.ntmps153
  go_wp2_with fail
  refine wp_scope_hops (fun lab a' w' => ∃ n : Nat, Psp.Is dN b o (n : Int) ∧ TJV b x g o (Psp.nxt dN b o) n w lab a' w') (fun lab a' _ => if lab = 0 then 0 else 300 - lenOf (a'.tmps.getD 5 undef)) ?_ ?_
  · rintro lab a' w' ⟨n, hn, ⟨rfl, hnone, hF, ⟨o', hrs⟩, u1, u2, u3, u5, u6, u7, u8, u9, u10, u11, u12, u13, u14, u15, u16, u17, u18, u19, u20, u21, u22, u23, u24, u25, u26, u27, u28, rfl⟩ | ⟨rfl, out, xs, o', hI, u2, u3, u7, u8, u9, u10, u11, u12, u13, u14, u15, u16, u17, u18, u19, u20, u21, u22, u23, u24, u25, u26, u27, u28, rfl⟩⟩
    · refine ⟨_, rfl, ?_⟩
      obtain ⟨a, bad, k0, k1, k2, z1, z2, _, _, _⟩ := hrs.cells
      have Hrs := Lib.hid hrs
      have HF := Lib.hid hF
      have Hno := Lib.hid hnone
      clear hrs hF hnone hn k0 k1 z1
      go_wp2_with fail
      go_ret
      obtain ⟨f1, f2⟩ := Hrs.out.fail
      obtain ⟨q1, q2⟩ := Psp.nxt_not Hno.out
      exact ⟨_, [], rfl, nil_V _ _, q2 _, by rw [q1]; exact f1, HF.out.trans f2 fun k hk => Or.inl hk⟩
    · refine ⟨_, rfl, ?_⟩
      obtain ⟨A5, c5, e5, _, _, _⟩ := own_slice hI.own
      subst e5
      obtain ⟨a, bad, k0, k1, k2, z1, z2, _, hs, hnn⟩ := hI.rs.cells
      have hle := hI.le
      have h256 := hI.n256
      have HI := Lib.hid hI
      have Hn := Lib.hid hn
      cases o' with
      | none =>
        have hbad := hnn rfl
        subst hbad
        have hdn : o.bind (Psp.dL Psp.dV b) = none := by
          rw [Psp.dL_of Hn.out (by omega), Int.toNat_natCast]
          exact HI.out.many.no rfl
        have Hdn := Lib.hid hdn
        clear hI hn hs hnn hdn k0 k1 z1
        go_wp2_with fail
        go_step3
        exact ⟨⟨n, Hn.out, .inl ⟨rfl, Hdn.out, HI.out.fp, ⟨_, HI.out.rs⟩, _, _, _, _, _, _, _, _, _, _, _, _, _, _, _, _, _, _, _, _, _, _, _, _, _, _, _, rfl⟩⟩, by simp [lenOf]; omega⟩
      | some p =>
        obtain ⟨hap, hbad⟩ := hs p rfl
        subst hap hbad
        clear hI hn hs hnn k0 k1 z1
        by_cases hk : xs.length = n
        · have hkb : ((xs.length : Int) == (n : Int)) = true := by simp; omega
          have hd := Psp.nxt_of ((Psp.dL_of (d := Psp.dV) Hn.out (by omega)).trans (by rw [Int.toNat_natCast]; exact HI.out.many.done hk))
          have Hd := Lib.hid hd
          obtain ⟨m, hm⟩ : ∃ m, xs.length = m := ⟨_, rfl⟩
          have hfin : RdV w' (fun k => w.heap.size ≤ k) (.slice A5 m c5) (xs) := by rw [← hm]; exact (RdP.of_own HI.out.own).mono fun b _ hb => hb.2
          have Hfin := Lib.hid hfin
          clear hfin
          have Hm := Lib.hid hm
          rw [hm] at hkb
          rw [hm]
          clear hd hk hm hle
          go_wp2_with fail
          go_ret
          exact ⟨_, _, rfl, Hfin.out, Hd.out.2, by rw [Hd.out.1]; exact HI.out.rs, HI.out.fp⟩
        · have hkb : ((xs.length : Int) == (n : Int)) = false := by simp; omega
          have hlt : xs.length < n := by omega
          have hz := HI.out.fp.size
          obtain ⟨m, hm⟩ : ∃ m, xs.length = m := ⟨_, rfl⟩
          have Hm := Lib.hid hm
          rw [hm] at hkb hlt HI
          rw [hm]
          clear hk hm hle
          go_wp2_with fail
          refine (rd_vote b x g _ _ (HX.out.fp HI.out.fp (fun k hk => hk)) HI.out.rs).mono ?_
          rintro e w1 ⟨t, rfl, h3, h4, h5⟩
          have hz1 := h5.size
          have hown1 : w1.ownsRow w.heap.size 166 2 (.slice A5 m c5) m (xs.flatMap vt) := by have h := HI.out.own; rw [Hm.out] at h; exact own_keep h fun b hb => h5.block b (HI.out.own.lt b hb).2 (by have := (HI.out.own.lt b hb).1; omega)
          have Hown1 := Lib.hid hown1
          have H3 := Lib.hid h3
          have H4 := Lib.hid h4
          have H5 := Lib.hid h5
          clear hown1 h3 h4 h5
          go_wp2_with (first | (refine list_build1 rfl 52 (.tmp 23) rfl 166 (vt t) rfl Tryz.underlying52 (zeroV t) (by simp [vt]) (by simp [vt]) ?_) | (at_builtin; refine wpList_app1 votE rfl _ _ rfl w.heap.size _ m _ rfl Hown1.out (vt t).toArray rfl rfl (by simp [vt, iv, Value.oneCell']) (by omega) (by decide) (by omega) ?_; intro v' w2 hown2 hg2 hb2 hv2; have HN := Lib.hid (TInvV.next HI.out Hm.out hlt H3.out H4.out H5.out hg Hown1.out hown2 hg2 hv2); clear hown2 hg2 hb2 hv2; obtain ⟨A6, c6, e6, _, _, _⟩ := own_slice HN.out.own; have E6 := Lib.hid e6; clear e6))
          go_step3
          refine ⟨⟨n, Hn.out, .inr ⟨rfl, _, _, _, HN.out, _, _, _, _, _, _, _, _, _, _, _, _, _, _, _, _, _, _, _, _, _, _, _, _, rfl⟩⟩, ?_⟩
          show 300 - lenOf _ < 300 - _
          rw [show lenOf _ = m + 1 from by rw [E6.out]; simp [lenOf, Hm.out]]
          show 300 - (m + 1) < 300 - m
          omega
  · intro H
    have HH := Lib.hid H
    clear H
    go_wp2_with fail
    refine (rd_number b x g o _ (fun k => k ≠ g) HX.out HR.out).mono ?_
    rintro e w1 ⟨n0, rfl, h1, h2, h3, h4, h5⟩
    obtain ⟨n, rfl⟩ : ∃ n : Nat, n0 = (n : Int) := ⟨n0.toNat, by omega⟩
    have H3 := Lib.hid h3
    have H4 := Lib.hid h4
    have H5 := Lib.hid h5
    clear h3 h4 h5
    by_cases h256 : 256 < n
    · have d1 : decide (256 < (n : Int)) = true := by simp; omega
      go_wp2_with fail
      go_step3
      exact ⟨n, H3.out, .inl ⟨rfl, Psp.dL_big H3.out (by omega), H5.out, ⟨_, H4.out⟩, _, _, _, _, _, _, _, _, _, _, _, _, _, _, _, _, _, _, _, _, _, _, _, _, _, _, _, rfl⟩⟩
    · have d1 : decide (256 < (n : Int)) = false := by simp; omega
      have hst : TInvV b x g o (Psp.nxt dN b o) n w w1 (.slice none 0 0) [] (Psp.nxt dN b o) := ⟨by omega, by simp, World.ownsRow_nil _ _ _ _, Psp.Many.start, H4.out, H5.out⟩
      have Hst := Lib.hid hst
      clear hst
      go_wp2_with fail
      go_step3
      simp only [Exit.then]
      rename_i hK
      refine hK _ _ (HH.out 1 _ _ ⟨n, H3.out, .inr ⟨rfl, _, _, _, Hst.out, _, _, _, _, _, _, _, _, _, _, _, _, _, _, _, _, _, _, _, _, _, _, _, _, rfl⟩⟩ _ rfl)

/-- What the loop keeps. -/
structure TInvR (b : List UInt8) (x : Value) (g : Nat) (o o1 : Option Int) (n : Nat) (w w' : World) (out : Value) (xs : List Psp.Req) (o' : Option Int) : Prop where
  n256 : n ≤ 256
  le : xs.length ≤ n
  own : w'.ownsRow w.heap.size 42 6 out xs.length (xs.flatMap rq)
  many : Psp.Many Psp.dR b n o1 (xs) o'
  rs : Rs 215 w' g x o'
  fp : Fp (fun k => k = g) w w'
/-- How the rounds of taken go: to the end, or to the next round. -/
def TJR (b : List UInt8) (x : Value) (g : Nat) (o o1 : Option Int) (n : Nat) (w : World) (lab : Nat) (a' : Act) (w' : World) : Prop :=
  (lab = 0 ∧ o.bind (Psp.dL Psp.dR b) = none ∧ Fp (fun k => k = g) w w' ∧ (∃ o', Rs 215 w' g x o') ∧ ∃ u1 u2 u3 u5 u6 u7 u8 u9 u10 u11 u12 u13 u14 u15 u16 u17 u18 u19 u20 u21 u22 u23 u24 u25 u26 u27 u28 : Value, a' = { tmps := #[.pointer (some ⟨g, 0, none⟩), u1, u2, u3, .slice none 0 0, u5, u6, u7, u8, u9, u10, u11, u12, u13, u14, u15, u16, u17, u18, u19, u20, u21, u22, u23, u24, u25, u26, u27, u28], defers := [] }) ∨
  (lab = 1 ∧ ∃ (out : Value) (xs : List Psp.Req) (o' : Option Int), TInvR b x g o o1 n w w' out xs o' ∧ ∃ u2 u3 u7 u8 u9 u10 u11 u12 u13 u14 u15 u16 u17 u18 u19 u20 u21 u22 u23 u24 u25 u26 u27 u28 : Value, a' = { tmps := #[.pointer (some ⟨g, 0, none⟩), .func (.func 118) #[] #[], u2, u3, .slice none 0 0, out, .int .i64 (n : Int), u7, u8, u9, u10, u11, u12, u13, u14, u15, u16, u17, u18, u19, u20, u21, u22, u23, u24, u25, u26, u27, u28], defers := [] })

theorem TInvR.next {b : List UInt8} {x : Value} {g : Nat} {o o1 : Option Int} {n m c5 : Nat} {w w' w1 w2 : World} {A5 : Option Addr} {xs : List Psp.Req} {a : Int} {t : Psp.Req} {v' : Value} (h : TInvR b x g o o1 n w w' (.slice A5 m c5) xs (some a))
    (hm : xs.length = m) (hlt : m < n) (h3 : Psp.Is Psp.dR b (some a) t) (h4 : Rs 215 w1 g x (Psp.nxt Psp.dR b (some a))) (h5 : Fp (fun k => k = g) w' w1) (hg : g < w.heap.size) (hown1 : w1.ownsRow w.heap.size 42 6 (.slice A5 m c5) m (xs.flatMap rq))
    (hown2 : w2.ownsRow w.heap.size 42 6 v' (m + 1) (xs.flatMap rq ++ (rq t).toArray.toList)) (hg2 : w1.grownBy w2 (Value.slice A5 m c5).ownBlock) (hv2 : v'.ownBlock = (Value.slice A5 m c5).ownBlock ∨ v'.ownBlock = some (w1.heap.size + 1)) :
    TInvR b x g o o1 n w w2 v' (xs ++ [t]) (Psp.nxt Psp.dR b (some a)) := by
  have hz := h.fp.size
  have hz1 := h5.size
  have hgo : (Value.slice A5 m c5).ownBlock ≠ some g := fun he => by have := (hown1.lt g he).1; omega
  refine ⟨h.n256, by rw [List.length_append]; simp; omega, ?_, h.many.step (by omega) h3, h4.keep (hg2.block g (by omega) (fun he => hgo he.symm)), (h.fp.trans h5 fun k hk => Or.inl hk).grown hg2 fun k hk => Or.inr (hown1.lt k hk).1⟩
  rw [List.length_append, List.flatMap_append, hm]
  simpa using hown2

set_option maxRecDepth 100000 in
set_option maxHeartbeats 2000000 in
theorem rd_takenR (b : List UInt8) (x : Value) (g : Nat) (o : Option Int) (w : World) (hx : RdP w (fun k => k ≠ g) 1 x b.length (b.map bv)) (hR : Rs 215 w g x o) :
    Calls Tryz.prog 150 #[.pointer (some ⟨g, 0, none⟩), .func (.func 118) #[] #[]] w (TookL 215 Psp.dR RdR b x g o w) := by
  have HX := Lib.hid hx
  have HR := Lib.hid hR
  have hg := hR.lt
  clear hx hR
  go_enter Tryz.func150, Tryz.ntmps150
  go_wp2_with fail
  refine wp_scope_hops (fun lab a' w' => ∃ n : Nat, Psp.Is dN b o (n : Int) ∧ TJR b x g o (Psp.nxt dN b o) n w lab a' w') (fun lab a' _ => if lab = 0 then 0 else 300 - lenOf (a'.tmps.getD 5 undef)) ?_ ?_
  · rintro lab a' w' ⟨n, hn, ⟨rfl, hnone, hF, ⟨o', hrs⟩, u1, u2, u3, u5, u6, u7, u8, u9, u10, u11, u12, u13, u14, u15, u16, u17, u18, u19, u20, u21, u22, u23, u24, u25, u26, u27, u28, rfl⟩ | ⟨rfl, out, xs, o', hI, u2, u3, u7, u8, u9, u10, u11, u12, u13, u14, u15, u16, u17, u18, u19, u20, u21, u22, u23, u24, u25, u26, u27, u28, rfl⟩⟩
    · refine ⟨_, rfl, ?_⟩
      obtain ⟨a, bad, k0, k1, k2, z1, z2, _, _, _⟩ := hrs.cells
      have Hrs := Lib.hid hrs
      have HF := Lib.hid hF
      have Hno := Lib.hid hnone
      clear hrs hF hnone hn k0 k1 z1
      go_wp2_with fail
      go_ret
      obtain ⟨f1, f2⟩ := Hrs.out.fail
      obtain ⟨q1, q2⟩ := Psp.nxt_not Hno.out
      exact ⟨_, [], rfl, nil_R _ _, q2 _, by rw [q1]; exact f1, HF.out.trans f2 fun k hk => Or.inl hk⟩
    · refine ⟨_, rfl, ?_⟩
      obtain ⟨A5, c5, e5, _, _, _⟩ := own_slice hI.own
      subst e5
      obtain ⟨a, bad, k0, k1, k2, z1, z2, _, hs, hnn⟩ := hI.rs.cells
      have hle := hI.le
      have h256 := hI.n256
      have HI := Lib.hid hI
      have Hn := Lib.hid hn
      cases o' with
      | none =>
        have hbad := hnn rfl
        subst hbad
        have hdn : o.bind (Psp.dL Psp.dR b) = none := by
          rw [Psp.dL_of Hn.out (by omega), Int.toNat_natCast]
          exact HI.out.many.no rfl
        have Hdn := Lib.hid hdn
        clear hI hn hs hnn hdn k0 k1 z1
        go_wp2_with fail
        go_step3
        exact ⟨⟨n, Hn.out, .inl ⟨rfl, Hdn.out, HI.out.fp, ⟨_, HI.out.rs⟩, _, _, _, _, _, _, _, _, _, _, _, _, _, _, _, _, _, _, _, _, _, _, _, _, _, _, _, rfl⟩⟩, by simp [lenOf]; omega⟩
      | some p =>
        obtain ⟨hap, hbad⟩ := hs p rfl
        subst hap hbad
        clear hI hn hs hnn k0 k1 z1
        by_cases hk : xs.length = n
        · have hkb : ((xs.length : Int) == (n : Int)) = true := by simp; omega
          have hd := Psp.nxt_of ((Psp.dL_of (d := Psp.dR) Hn.out (by omega)).trans (by rw [Int.toNat_natCast]; exact HI.out.many.done hk))
          have Hd := Lib.hid hd
          obtain ⟨m, hm⟩ : ∃ m, xs.length = m := ⟨_, rfl⟩
          have hfin : RdR w' (fun k => w.heap.size ≤ k) (.slice A5 m c5) (xs) := by rw [← hm]; exact (RdP.of_own HI.out.own).mono fun b _ hb => hb.2
          have Hfin := Lib.hid hfin
          clear hfin
          have Hm := Lib.hid hm
          rw [hm] at hkb
          rw [hm]
          clear hd hk hm hle
          go_wp2_with fail
          go_ret
          exact ⟨_, _, rfl, Hfin.out, Hd.out.2, by rw [Hd.out.1]; exact HI.out.rs, HI.out.fp⟩
        · have hkb : ((xs.length : Int) == (n : Int)) = false := by simp; omega
          have hlt : xs.length < n := by omega
          have hz := HI.out.fp.size
          obtain ⟨m, hm⟩ : ∃ m, xs.length = m := ⟨_, rfl⟩
          have Hm := Lib.hid hm
          rw [hm] at hkb hlt HI
          rw [hm]
          clear hk hm hle
          go_wp2_with fail
          refine (rd_req b x g _ _ (HX.out.fp HI.out.fp (fun k hk => hk)) HI.out.rs).mono ?_
          rintro e w1 ⟨t, rfl, h3, h4, h5⟩
          have hz1 := h5.size
          have hown1 : w1.ownsRow w.heap.size 42 6 (.slice A5 m c5) m (xs.flatMap rq) := by have h := HI.out.own; rw [Hm.out] at h; exact own_keep h fun b hb => h5.block b (HI.out.own.lt b hb).2 (by have := (HI.out.own.lt b hb).1; omega)
          have Hown1 := Lib.hid hown1
          have H3 := Lib.hid h3
          have H4 := Lib.hid h4
          have H5 := Lib.hid h5
          clear hown1 h3 h4 h5
          go_wp2_with (first | (refine list_build1 rfl 51 (.tmp 23) rfl 42 (rq t) rfl Tryz.underlying51 (zeroR t) (by simp [rq]) (by simp [rq]) ?_) | (at_builtin; refine wpList_app1 reqE rfl _ _ rfl w.heap.size _ m _ rfl Hown1.out (rq t).toArray rfl rfl (by simp [rq, iv, Value.oneCell']) (by omega) (by decide) (by omega) ?_; intro v' w2 hown2 hg2 hb2 hv2; have HN := Lib.hid (TInvR.next HI.out Hm.out hlt H3.out H4.out H5.out hg Hown1.out hown2 hg2 hv2); clear hown2 hg2 hb2 hv2; obtain ⟨A6, c6, e6, _, _, _⟩ := own_slice HN.out.own; have E6 := Lib.hid e6; clear e6))
          go_step3
          refine ⟨⟨n, Hn.out, .inr ⟨rfl, _, _, _, HN.out, _, _, _, _, _, _, _, _, _, _, _, _, _, _, _, _, _, _, _, _, _, _, _, _, rfl⟩⟩, ?_⟩
          show 300 - lenOf _ < 300 - _
          rw [show lenOf _ = m + 1 from by rw [E6.out]; simp [lenOf, Hm.out]]
          show 300 - (m + 1) < 300 - m
          omega
  · intro H
    have HH := Lib.hid H
    clear H
    go_wp2_with fail
    refine (rd_number b x g o _ (fun k => k ≠ g) HX.out HR.out).mono ?_
    rintro e w1 ⟨n0, rfl, h1, h2, h3, h4, h5⟩
    obtain ⟨n, rfl⟩ : ∃ n : Nat, n0 = (n : Int) := ⟨n0.toNat, by omega⟩
    have H3 := Lib.hid h3
    have H4 := Lib.hid h4
    have H5 := Lib.hid h5
    clear h3 h4 h5
    by_cases h256 : 256 < n
    · have d1 : decide (256 < (n : Int)) = true := by simp; omega
      go_wp2_with fail
      go_step3
      exact ⟨n, H3.out, .inl ⟨rfl, Psp.dL_big H3.out (by omega), H5.out, ⟨_, H4.out⟩, _, _, _, _, _, _, _, _, _, _, _, _, _, _, _, _, _, _, _, _, _, _, _, _, _, _, _, rfl⟩⟩
    · have d1 : decide (256 < (n : Int)) = false := by simp; omega
      have hst : TInvR b x g o (Psp.nxt dN b o) n w w1 (.slice none 0 0) [] (Psp.nxt dN b o) := ⟨by omega, by simp, World.ownsRow_nil _ _ _ _, Psp.Many.start, H4.out, H5.out⟩
      have Hst := Lib.hid hst
      clear hst
      go_wp2_with fail
      go_step3
      simp only [Exit.then]
      rename_i hK
      refine hK _ _ (HH.out 1 _ _ ⟨n, H3.out, .inr ⟨rfl, _, _, _, Hst.out, _, _, _, _, _, _, _, _, _, _, _, _, _, _, _, _, _, _, _, _, _, _, _, _, rfl⟩⟩ _ rfl)

end Go.Proofs.YtipmjleohadoeaaGreat

end
