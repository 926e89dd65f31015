/- The walks of the reference's pen. Printed by gen_pen.py. -/
import Derived.Test.YtnlnkcljehafkaaPd
import Derived.Test.YtnlnkcljehafkaaRef1
namespace Go.Proofs.Ytnlnkcljehafkaa
open Go.RowKit
set_option linter.unusedVariables false

theorem WrS.flag {T : TypeId} {w : World} {S : Nat → Prop} {g : Nat} {out : List UInt8} {bad : Bool} (h : Wr T w S g out bad) (ok : Bool) : WrS T [] ok 0 S g out bad w S out (bad || !ok) (w.setCell ⟨g, 1, none⟩ (.bool (bad || !ok))) := by
  obtain ⟨h1, h2⟩ := h.setBad (bad || !ok)
  exact ⟨⟨rfl, fun _ => by simp, by simp⟩, h1, h2, fun k hk => Or.inl hk, fun k hk => hk⟩
/-- Where it is bad it stays so, whatever else would be written. -/
theorem WrS.stop {T : TypeId} {e e' : List UInt8} {ok ok' : Bool} {n : Nat} {S S' : Nat → Prop} {g : Nat} {out out' : List UInt8} {bad : Bool} {w w' : World} (h : WrS T e ok n S g out bad w S' out' true w') (ho : ok' = true → ok = true) : WrS T e' ok' n S g out bad w S' out' true w' := by
  refine ⟨⟨?_, (fun hb => by cases hb), h.wrote.islen⟩, h.wr, h.fp, h.sub, h.sup⟩
  have h1 := h.wrote.isbad
  cases bad with
  | true => rfl
  | false =>
    cases ok' with
    | false => rfl
    | true => rw [ho rfl] at h1; exact h1

theorem r_zig_all (n : Int) (w : World) : Calls Try.prog 66 #[.int .i64 n] w fun e w' => e = .returned (.int .i64 (Psp.zig n)) ∧ w = w' := by
  by_cases h : -549755813888 ≤ n ∧ n < 549755813888
  · exact r_zig_any n w (by omega) (by omega)
  · have hz : Psp.zig n = 0 := by unfold Psp.zig; rw [if_pos (by omega)]
    rw [hz]
    clear hz
    by_cases h1 : n < -549755813888
    · go_enter Try.func66, Try.ntmps66
      go_wp2
      go_ret
      exact ⟨rfl, rfl⟩
    · have h2 : 549755813888 ≤ n := by omega
      clear h
      go_enter Try.func66, Try.ntmps66
      go_wp2
      go_ret
      exact ⟨rfl, rfl⟩

/-- The common end of number: the flag is set, the bytes are put behind what was written. -/
theorem pen_fin (x : Value) (n : Nat) (e : List UInt8) (ok : Bool) (S : Nat → Prop) (g : Nat) (out : List UInt8) (bad : Bool) (w : World) (hW : Wr 83 w S g out bad)
    (hx : RdP w (fun b => ¬ S b) 1 x n (e.map bv)) (hb : out.length + n ≤ 1099511627776) :
    ∃ A c, w.cell? ⟨g, 0, none⟩ = some (.slice A out.length c) ∧ w.cell? ⟨g, 1, none⟩ = some (.bool bad) ∧ w.frozen? ⟨g, 0, none⟩ = false ∧ w.frozen? ⟨g, 1, none⟩ = false ∧
      (w.setCell ⟨g, 1, none⟩ (.bool (bad || !ok))).ownsRow 0 5 1 (.slice A out.length c) out.length (out.map bv) ∧ Rd (w.setCell ⟨g, 1, none⟩ (.bool (bad || !ok))) (w.setCell ⟨g, 1, none⟩ (.bool (bad || !ok))).heap.size 1 x n (e.map bv) ∧
      ∀ v' w3, w3.ownsRow 0 5 1 v' (out.length + n) (out.map bv ++ e.map bv) → (w.setCell ⟨g, 1, none⟩ (.bool (bad || !ok))).grownBy w3 (Value.slice A out.length c).ownBlock → (v'.ownBlock = (Value.slice A out.length c).ownBlock ∨ v'.ownBlock = some (w.setCell ⟨g, 1, none⟩ (.bool (bad || !ok))).heap.size) →
        WrOk 83 e ok n S g out bad w (.returned (.tuple #[])) (w3.setCell ⟨g, 0, none⟩ v') ∧ w3.cell? ⟨g, 0, none⟩ = some (.slice A out.length c) ∧ w3.frozen? ⟨g, 0, none⟩ = false := by
  have hn : e.length = n := by have := hx.1; simpa using this
  have hgs : (w.setCell ⟨g, 1, none⟩ (.bool (bad || !ok))).cell? ⟨g, 0, none⟩ = w.cell? ⟨g, 0, none⟩ := by go_simp
  obtain ⟨hW1, hF1⟩ := hW.setBad (bad || !ok)
  obtain ⟨A, c, hc1, hc2, k0, k1, z0, z1, hown, hS⟩ := hW.cells
  obtain ⟨A', c', _, _, k0', _, _, _, hown1, hS1⟩ := hW1.cells
  rw [hgs, k0] at k0'
  injection k0' with k0'
  injection k0' with e1 _ e2
  subst e1 e2
  have hx1 := (hx.fp hF1 (fun b hb => hb)).to_rd
  refine ⟨A, c, k0, k1, z0, z1, hown1, hx1, ?_⟩
  intro v' w3 h3 hg3 hb3
  have hk0 : (w.setCell ⟨g, 1, none⟩ (.bool (bad || !ok))).cell? ⟨g, 0, none⟩ = some (.slice A out.length c) := by rw [hgs]; exact k0
  refine ⟨?_, hW1.grown hk0 hg3⟩
  obtain ⟨h4, h5⟩ := hW1.append hk0 (by rw [hn]; exact h3) hg3 hb3
  have hsz : (w.setCell ⟨g, 1, none⟩ (.bool (bad || !ok))).heap.size = w.heap.size := by simp [World.setCell]
  refine ⟨rfl, out ++ e, bad || !ok, ⟨rfl, fun _ => rfl, by rw [List.length_append, hn]; exact Nat.le_refl _⟩, ?_, hF1.trans h5 fun k hk => Or.inl hk⟩
  rw [hsz] at h4
  exact h4.wider (fun k hk => by simpa [World.setCell] using hk) (fun k hk => h4.lt k (by simpa [World.setCell] using hk))

set_option maxRecDepth 100000 in
theorem pen_number (n : Int) (S : Nat → Prop) (g : Nat) (out : List UInt8) (bad : Bool) (w : World) (hW : Wr 83 w S g out bad) (hb : out.length + 6 ≤ 1099511627776) :
    Calls Try.prog 60 #[.pointer (some ⟨g, 0, none⟩), .int .i64 n] w (WrOk 83 (Psp.encN n) (Psp.okN n) 6 S g out bad w) := by
  have HW := Lib.hid hW
  clear hW
  have hbd : ∀ u ∈ (Psp.encN n).map bv, u.oneCell' = true := by intro u hu; obtain ⟨b, _, rfl⟩ := List.mem_map.1 hu; rfl
  have Hbd := Lib.hid hbd
  clear hbd
  by_cases hok : Psp.okN n = true
  · obtain ⟨y0, y1⟩ := (Psp.okN_iff n).1 hok
    have hl6 := (Psp.encN_len hok).2
    have Hok := Lib.hid hok
    clear hok
    go_enter Try.func60, Try.ntmps60
    go_wp2_with fail
    refine (r_number_ok n _ y0 y1).mono ?_
    rintro e w1 ⟨v, rfl, hown, hbel⟩
    have hr : RdP w1 (fun b => ¬ S b) 1 v (Psp.encN n).length ((Psp.encN n).map bv) := (RdP.of_own hown).mono fun b _ hb hs => by have := HW.out.lt b hs; omega
    obtain ⟨A, c, k0, k1, z0, z1, hown1, hx1, hfin⟩ := pen_fin v _ _ true S g out bad w1 (HW.out.below hbel) hr (by omega)
    have Hfin := Lib.hid hfin
    have Hbel := Lib.hid hbel
    clear hfin hbel hown hr
    cases bad
    all_goals
      simp only [Bool.false_or, Bool.true_or, Bool.not_true] at hown1 hx1 Hfin
      go_wp2_with (at_builtin; refine wpList_app bytesE rfl _ _ rfl 0 (.slice A out.length c) out.length (out.map bv) rfl hown1 _ v _ ((Psp.encN n).map bv) rfl hx1 Hbd.out (by unfold maxLen; omega) (by omega) (by omega) ?_; intro v' w3 h3 hg3 hb3; obtain ⟨A4, c4, rfl, _, _, _⟩ := own_slice h3; obtain ⟨hq, q0, q1⟩ := Hfin.out _ w3 h3 hg3 hb3; have H := Lib.hid hq; clear h3 hg3 hb3 hq)
      go_end0
      obtain ⟨_, o2, b2, r1, r2, r3⟩ := H.out.from_ Hbel.out
      exact ⟨rfl, o2, b2, by rw [Hok.out]; exact r1.more hl6, r2, r3⟩
  · have hok' : Psp.okN n = false := by simpa using hok
    have hy2 := mt (Psp.okN_iff n).2 hok
    have Hok := Lib.hid hok'
    clear hok hok'
    go_enter Try.func60, Try.ntmps60
    go_wp2_with fail
    refine (r_number_no n _ (by omega)).mono ?_
    rintro e w1 ⟨rfl, rfl⟩
    obtain ⟨A, c, k0, k1, z0, z1, hown1, hx1, hfin⟩ := pen_fin (.slice none 0 0) 0 [] false S g out bad w HW.out RdP.none_ (by omega)
    have Hfin := Lib.hid hfin
    clear hfin
    cases bad
    all_goals
      simp only [Bool.false_or, Bool.true_or, Bool.not_false] at hown1 hx1 Hfin
      go_wp2_with (at_builtin; refine wpList_app bytesE rfl _ _ rfl 0 (.slice A out.length c) out.length (out.map bv) rfl hown1 _ (.slice none 0 0) 0 [] rfl hx1 (by simp) (by unfold maxLen; omega) (by omega) (by omega) ?_; intro v' w3 h3 hg3 hb3; obtain ⟨A4, c4, rfl, _, _, _⟩ := own_slice h3; obtain ⟨hq, q0, q1⟩ := Hfin.out _ w3 h3 hg3 hb3; have H := Lib.hid hq; clear h3 hg3 hb3 hq)
      go_end0
      obtain ⟨_, o2, b2, r1, r2, r3⟩ := H.out
      refine ⟨rfl, o2, b2, ⟨by rw [Hok.out]; exact r1.isbad, (fun hb => by rw [r1.isbad] at hb; simp at hb), by have := r1.islen; omega⟩, r2, r3⟩

set_option maxRecDepth 100000 in
theorem pen_signed (n : Int) (S : Nat → Prop) (g : Nat) (out : List UInt8) (bad : Bool) (w : World) (hW : Wr 83 w S g out bad) (hb : out.length + 6 ≤ 1099511627776) :
    Calls Try.prog 61 #[.pointer (some ⟨g, 0, none⟩), .int .i64 n] w (WrOk 83 (Psp.encS n) (Psp.okS n) 6 S g out bad w) := by
  have hz := Psp.zig_bd n
  have hzo : Psp.okN (Psp.zig n) = true := (Psp.okN_iff _).2 ⟨hz.1, hz.2⟩
  have h1 := WrS.flag hW (Psp.okS n)
  have H1 := Lib.hid h1
  obtain ⟨A, c, hc1, hc2, k0, k1, z0, z1, hown, hS⟩ := hW.cells
  have fin : ∀ en w2, WrOk 83 (Psp.encN (Psp.zig n)) (Psp.okN (Psp.zig n)) 6 S g out (bad || !Psp.okS n) (w.setCell ⟨g, 1, none⟩ (.bool (bad || !Psp.okS n))) en w2 → en = .returned (.tuple #[]) ∧ WrOk 83 (Psp.encS n) (Psp.okS n) 6 S g out bad w (.returned (.tuple #[])) w2 := by
    intro en w2 hc
    obtain ⟨rfl, S2, o2, b2, h2⟩ := H1.out.step hc
    exact ⟨rfl, (h2.of (by simp [Psp.encS, Psp.encN]) (by rw [hzo, Bool.and_true])).done (by omega)⟩
  have Hfin := Lib.hid fin
  have Hw1 := Lib.hid h1.wr
  clear h1 hW hown hS hz hzo fin H1
  by_cases c1 : n < -549755813888
  · have ho : Psp.okS n = false := by unfold Psp.okS; rw [decide_eq_false (by omega)]
    cases bad
    all_goals
      simp only [ho, Bool.false_or, Bool.true_or, Bool.not_false] at Hfin Hw1 ⊢
      go_enter Try.func61, Try.ntmps61
      go_wp2_with (go_at_call 66; refine (r_zig_all n _).mono ?_; rintro e w' ⟨rfl, rfl⟩)
      refine (pen_number (Psp.zig n) S g out _ _ Hw1.out (by omega)).mono ?_
      intro e w2 hc
      obtain ⟨rfl, h3⟩ := Hfin.out _ _ hc
      have H3 := Lib.hid h3
      clear h3 hc
      go_wp2_with fail
      go_end0
      exact H3.out
  · by_cases c2 : 549755813888 ≤ n
    · have ho : Psp.okS n = false := by unfold Psp.okS; rw [decide_eq_false (by omega)]
      cases bad
      all_goals
        simp only [ho, Bool.false_or, Bool.true_or, Bool.not_false] at Hfin Hw1 ⊢
        go_enter Try.func61, Try.ntmps61
        go_wp2_with (go_at_call 66; refine (r_zig_all n _).mono ?_; rintro e w' ⟨rfl, rfl⟩)
        refine (pen_number (Psp.zig n) S g out _ _ Hw1.out (by omega)).mono ?_
        intro e w2 hc
        obtain ⟨rfl, h3⟩ := Hfin.out _ _ hc
        have H3 := Lib.hid h3
        clear h3 hc
        go_wp2_with fail
        go_end0
        exact H3.out
    · have ho : Psp.okS n = true := by unfold Psp.okS; rw [decide_eq_true (by omega)]
      cases bad
      all_goals
        simp only [ho, Bool.false_or, Bool.true_or, Bool.not_true] at Hfin Hw1 ⊢
        go_enter Try.func61, Try.ntmps61
        go_wp2_with (go_at_call 66; refine (r_zig_all n _).mono ?_; rintro e w' ⟨rfl, rfl⟩)
        refine (pen_number (Psp.zig n) S g out _ _ Hw1.out (by omega)).mono ?_
        intro e w2 hc
        obtain ⟨rfl, h3⟩ := Hfin.out _ _ hc
        have H3 := Lib.hid h3
        clear h3 hc
        go_wp2_with fail
        go_end0
        exact H3.out

end Go.Proofs.Ytnlnkcljehafkaa
