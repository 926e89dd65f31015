/- Joined texts: Pq Pr Ps Same Pe Pf Ph. -/
import Derived.Test.YtipmjleohadoeaaGreatGcSa
import Derived.Test.YtipmjleohadoeaaGreatGaSa
import Derived.Test.YtipmjleohadoeaaGreatProg
import Derived.WalkKit
import Derived.WalkSpells
import Derived.BigQuiet
import Derived.Deep.QuietTactic
section
/- The walks of the reference's pen. Printed by gen_pen.py. -/
namespace Go.Proofs.YtipmjleohadoeaaGreat
open Go.RowKit
set_option linter.unusedVariables false

theorem WrS.flag {T : TypeId} {w : World} {S : Nat → Prop} {g : Nat} {out : List UInt8} {bad : Bool} (h : Wr T w S g out bad) (ok : Bool) : WrS T [] ok 0 S g out bad w S out (bad || !ok) (w.setCell ⟨g, 1, none⟩ (.bool (bad || !ok))) := by
  obtain ⟨h1, h2⟩ := h.setBad (bad || !ok)
  exact ⟨⟨rfl, fun _ => by simp, by simp⟩, h1, h2, fun k hk => Or.inl hk, fun k hk => hk⟩
/-- Where it is bad it stays so, whatever else would be written. -/
theorem WrS.stop {T : TypeId} {e e' : List UInt8} {ok ok' : Bool} {n : Nat} {S S' : Nat → Prop} {g : Nat} {out out' : List UInt8} {bad : Bool} {w w' : World} (h : WrS T e ok n S g out bad w S' out' true w') (ho : ok' = true → ok = true) : WrS T e' ok' n S g out bad w S' out' true w' := by
  refine ⟨⟨?_, (fun hb => by cases hb), h.wrote.islen⟩, h.wr, h.fp, h.sub, h.sup⟩
  have h1 := h.wrote.isbad
  cases bad with
  | true => rfl
  | false =>
    cases ok' with
    | false => rfl
    | true => rw [ho rfl] at h1; exact h1

theorem r_zig_all (n : Int) (w : World) : Calls Tryz.prog 98 #[.int .i64 n] w fun e w' => e = .returned (.int .i64 (Psp.zig n)) ∧ w = w' := by
  by_cases h : -549755813888 ≤ n ∧ n < 549755813888
  · exact r_zig_any n w (by omega) (by omega)
  · have hz : Psp.zig n = 0 := by unfold Psp.zig; rw [if_pos (by omega)]
    rw [hz]
    clear hz
    by_cases h1 : n < -549755813888
    · go_enter Tryz.func98, Tryz.ntmps98
      go_wp2
      go_ret
      exact ⟨rfl, rfl⟩
    · have h2 : 549755813888 ≤ n := by omega
      clear h
      go_enter Tryz.func98, Tryz.ntmps98
      go_wp2
      go_ret
      exact ⟨rfl, rfl⟩

/-- The common end of number: the flag is set, the bytes are put behind what was written. -/
theorem pen_fin (x : Value) (n : Nat) (e : List UInt8) (ok : Bool) (S : Nat → Prop) (g : Nat) (out : List UInt8) (bad : Bool) (w : World) (hW : Wr 131 w S g out bad)
    (hx : RdP w (fun b => ¬ S b) 1 x n (e.map bv)) (hb : out.length + n ≤ 1099511627776) :
    ∃ A c, w.cell? ⟨g, 0, none⟩ = some (.slice A out.length c) ∧ w.cell? ⟨g, 1, none⟩ = some (.bool bad) ∧ w.frozen? ⟨g, 0, none⟩ = false ∧ w.frozen? ⟨g, 1, none⟩ = false ∧
      (w.setCell ⟨g, 1, none⟩ (.bool (bad || !ok))).ownsRow 0 5 1 (.slice A out.length c) out.length (out.map bv) ∧ Rd (w.setCell ⟨g, 1, none⟩ (.bool (bad || !ok))) (w.setCell ⟨g, 1, none⟩ (.bool (bad || !ok))).heap.size 1 x n (e.map bv) ∧
      ∀ v' w3, w3.ownsRow 0 5 1 v' (out.length + n) (out.map bv ++ e.map bv) → (w.setCell ⟨g, 1, none⟩ (.bool (bad || !ok))).grownBy w3 (Value.slice A out.length c).ownBlock → (v'.ownBlock = (Value.slice A out.length c).ownBlock ∨ v'.ownBlock = some (w.setCell ⟨g, 1, none⟩ (.bool (bad || !ok))).heap.size) →
        WrOk 131 e ok n S g out bad w (.returned (.tuple #[])) (w3.setCell ⟨g, 0, none⟩ v') ∧ w3.cell? ⟨g, 0, none⟩ = some (.slice A out.length c) ∧ w3.frozen? ⟨g, 0, none⟩ = false := by
  have hn : e.length = n := by have := hx.1; simpa using this
  have hgs : (w.setCell ⟨g, 1, none⟩ (.bool (bad || !ok))).cell? ⟨g, 0, none⟩ = w.cell? ⟨g, 0, none⟩ := by go_simp
  obtain ⟨hW1, hF1⟩ := hW.setBad (bad || !ok)
  obtain ⟨A, c, hc1, hc2, k0, k1, z0, z1, hown, hS⟩ := hW.cells
  obtain ⟨A', c', _, _, k0', _, _, _, hown1, hS1⟩ := hW1.cells
  rw [hgs, k0] at k0'
  injection k0' with k0'
  injection k0' with e1 _ e2
  subst e1 e2
  have hx1 := (hx.fp hF1 (fun b hb => hb)).to_rd
  refine ⟨A, c, k0, k1, z0, z1, hown1, hx1, ?_⟩
  intro v' w3 h3 hg3 hb3
  have hk0 : (w.setCell ⟨g, 1, none⟩ (.bool (bad || !ok))).cell? ⟨g, 0, none⟩ = some (.slice A out.length c) := by rw [hgs]; exact k0
  refine ⟨?_, hW1.grown hk0 hg3⟩
  obtain ⟨h4, h5⟩ := hW1.append hk0 (by rw [hn]; exact h3) hg3 hb3
  have hsz : (w.setCell ⟨g, 1, none⟩ (.bool (bad || !ok))).heap.size = w.heap.size := by simp [World.setCell]
  refine ⟨rfl, out ++ e, bad || !ok, ⟨rfl, fun _ => rfl, by rw [List.length_append, hn]; exact Nat.le_refl _⟩, ?_, hF1.trans h5 fun k hk => Or.inl hk⟩
  rw [hsz] at h4
  exact h4.wider (fun k hk => by simpa [World.setCell] using hk) (fun k hk => h4.lt k (by simpa [World.setCell] using hk))

set_option maxRecDepth 100000 in
theorem pen_number (n : Int) (S : Nat → Prop) (g : Nat) (out : List UInt8) (bad : Bool) (w : World) (hW : Wr 131 w S g out bad) (hb : out.length + 6 ≤ 1099511627776) :
    Calls Tryz.prog 64 #[.pointer (some ⟨g, 0, none⟩), .int .i64 n] w (WrOk 131 (Psp.encN n) (Psp.okN n) 6 S g out bad w) := by
  have HW := Lib.hid hW
  clear hW
  have hbd : ∀ u ∈ (Psp.encN n).map bv, u.oneCell' = true := by intro u hu; obtain ⟨b, _, rfl⟩ := List.mem_map.1 hu; rfl
  have Hbd := Lib.hid hbd
  clear hbd
  by_cases hok : Psp.okN n = true
  · obtain ⟨y0, y1⟩ := (Psp.okN_iff n).1 hok
    have hl6 := (Psp.encN_len hok).2
    have Hok := Lib.hid hok
    clear hok
    go_enter Tryz.func64, Tryz.ntmps64
    go_wp2_with fail
    refine (r_number_ok n _ y0 y1).mono ?_
    rintro e w1 ⟨v, rfl, hown, hbel⟩
    have hr : RdP w1 (fun b => ¬ S b) 1 v (Psp.encN n).length ((Psp.encN n).map bv) := (RdP.of_own hown).mono fun b _ hb hs => by have := HW.out.lt b hs; omega
    obtain ⟨A, c, k0, k1, z0, z1, hown1, hx1, hfin⟩ := pen_fin v _ _ true S g out bad w1 (HW.out.below hbel) hr (by omega)
    have Hfin := Lib.hid hfin
    have Hbel := Lib.hid hbel
    clear hfin hbel hown hr
    cases bad
    all_goals
      simp only [Bool.false_or, Bool.true_or, Bool.not_true] at hown1 hx1 Hfin
      go_wp2_with (at_builtin; refine wpList_app bytesE rfl _ _ rfl 0 (.slice A out.length c) out.length (out.map bv) rfl hown1 _ v _ ((Psp.encN n).map bv) rfl hx1 Hbd.out (by unfold maxLen; omega) (by omega) (by omega) ?_; intro v' w3 h3 hg3 hb3; obtain ⟨A4, c4, rfl, _, _, _⟩ := own_slice h3; obtain ⟨hq, q0, q1⟩ := Hfin.out _ w3 h3 hg3 hb3; have H := Lib.hid hq; clear h3 hg3 hb3 hq)
      go_end0
      obtain ⟨_, o2, b2, r1, r2, r3⟩ := H.out.from_ Hbel.out
      exact ⟨rfl, o2, b2, by rw [Hok.out]; exact r1.more hl6, r2, r3⟩
  · have hok' : Psp.okN n = false := by simpa using hok
    have hy2 := mt (Psp.okN_iff n).2 hok
    have Hok := Lib.hid hok'
    clear hok hok'
    go_enter Tryz.func64, Tryz.ntmps64
    go_wp2_with fail
    refine (r_number_no n _ (by omega)).mono ?_
    rintro e w1 ⟨rfl, rfl⟩
    obtain ⟨A, c, k0, k1, z0, z1, hown1, hx1, hfin⟩ := pen_fin (.slice none 0 0) 0 [] false S g out bad w HW.out RdP.none_ (by omega)
    have Hfin := Lib.hid hfin
    clear hfin
    cases bad
    all_goals
      simp only [Bool.false_or, Bool.true_or, Bool.not_false] at hown1 hx1 Hfin
      go_wp2_with (at_builtin; refine wpList_app bytesE rfl _ _ rfl 0 (.slice A out.length c) out.length (out.map bv) rfl hown1 _ (.slice none 0 0) 0 [] rfl hx1 (by simp) (by unfold maxLen; omega) (by omega) (by omega) ?_; intro v' w3 h3 hg3 hb3; obtain ⟨A4, c4, rfl, _, _, _⟩ := own_slice h3; obtain ⟨hq, q0, q1⟩ := Hfin.out _ w3 h3 hg3 hb3; have H := Lib.hid hq; clear h3 hg3 hb3 hq)
      go_end0
      obtain ⟨_, o2, b2, r1, r2, r3⟩ := H.out
      refine ⟨rfl, o2, b2, ⟨by rw [Hok.out]; exact r1.isbad, (fun hb => by rw [r1.isbad] at hb; simp at hb), by have := r1.islen; omega⟩, r2, r3⟩

set_option maxRecDepth 100000 in
theorem pen_signed (n : Int) (S : Nat → Prop) (g : Nat) (out : List UInt8) (bad : Bool) (w : World) (hW : Wr 131 w S g out bad) (hb : out.length + 6 ≤ 1099511627776) :
    Calls Tryz.prog 65 #[.pointer (some ⟨g, 0, none⟩), .int .i64 n] w (WrOk 131 (Psp.encS n) (Psp.okS n) 6 S g out bad w) := by
  have hz := Psp.zig_bd n
  have hzo : Psp.okN (Psp.zig n) = true := (Psp.okN_iff _).2 ⟨hz.1, hz.2⟩
  have h1 := WrS.flag hW (Psp.okS n)
  have H1 := Lib.hid h1
  obtain ⟨A, c, hc1, hc2, k0, k1, z0, z1, hown, hS⟩ := hW.cells
  have fin : ∀ en w2, WrOk 131 (Psp.encN (Psp.zig n)) (Psp.okN (Psp.zig n)) 6 S g out (bad || !Psp.okS n) (w.setCell ⟨g, 1, none⟩ (.bool (bad || !Psp.okS n))) en w2 → en = .returned (.tuple #[]) ∧ WrOk 131 (Psp.encS n) (Psp.okS n) 6 S g out bad w (.returned (.tuple #[])) w2 := by
    intro en w2 hc
    obtain ⟨rfl, S2, o2, b2, h2⟩ := H1.out.step hc
    exact ⟨rfl, (h2.of (by simp [Psp.encS, Psp.encN]) (by rw [hzo, Bool.and_true])).done (by omega)⟩
  have Hfin := Lib.hid fin
  have Hw1 := Lib.hid h1.wr
  clear h1 hW hown hS hz hzo fin H1
  by_cases c1 : n < -549755813888
  · have ho : Psp.okS n = false := by unfold Psp.okS; rw [decide_eq_false (by omega)]
    cases bad
    all_goals
      simp only [ho, Bool.false_or, Bool.true_or, Bool.not_false] at Hfin Hw1 ⊢
      go_enter Tryz.func65, Tryz.ntmps65
      go_wp2_with (go_at_call 98; refine (r_zig_all n _).mono ?_; rintro e w' ⟨rfl, rfl⟩)
      refine (pen_number (Psp.zig n) S g out _ _ Hw1.out (by omega)).mono ?_
      intro e w2 hc
      obtain ⟨rfl, h3⟩ := Hfin.out _ _ hc
      have H3 := Lib.hid h3
      clear h3 hc
      go_wp2_with fail
      go_end0
      exact H3.out
  · by_cases c2 : 549755813888 ≤ n
    · have ho : Psp.okS n = false := by unfold Psp.okS; rw [decide_eq_false (by omega)]
      cases bad
      all_goals
        simp only [ho, Bool.false_or, Bool.true_or, Bool.not_false] at Hfin Hw1 ⊢
        go_enter Tryz.func65, Tryz.ntmps65
        go_wp2_with (go_at_call 98; refine (r_zig_all n _).mono ?_; rintro e w' ⟨rfl, rfl⟩)
        refine (pen_number (Psp.zig n) S g out _ _ Hw1.out (by omega)).mono ?_
        intro e w2 hc
        obtain ⟨rfl, h3⟩ := Hfin.out _ _ hc
        have H3 := Lib.hid h3
        clear h3 hc
        go_wp2_with fail
        go_end0
        exact H3.out
    · have ho : Psp.okS n = true := by unfold Psp.okS; rw [decide_eq_true (by omega)]
      cases bad
      all_goals
        simp only [ho, Bool.false_or, Bool.true_or, Bool.not_true] at Hfin Hw1 ⊢
        go_enter Tryz.func65, Tryz.ntmps65
        go_wp2_with (go_at_call 98; refine (r_zig_all n _).mono ?_; rintro e w' ⟨rfl, rfl⟩)
        refine (pen_number (Psp.zig n) S g out _ _ Hw1.out (by omega)).mono ?_
        intro e w2 hc
        obtain ⟨rfl, h3⟩ := Hfin.out _ _ hc
        have H3 := Lib.hid h3
        clear h3 hc
        go_wp2_with fail
        go_end0
        exact H3.out

set_option maxRecDepth 100000 in
theorem pen_list (n : Nat) (S : Nat → Prop) (g : Nat) (out : List UInt8) (bad : Bool) (w : World) (hW : Wr 131 w S g out bad) (hb : out.length + 6 ≤ 1099511627776) :
    Calls Tryz.prog 99 #[.pointer (some ⟨g, 0, none⟩), .int .i64 (n : Int)] w (WrOk 131 (Psp.encN n) (decide (n ≤ 256)) 6 S g out bad w) := by
  have h1 := WrS.flag hW (decide (n ≤ 256))
  have H1 := Lib.hid h1
  obtain ⟨A, c, hc1, hc2, k0, k1, z0, z1, hown, hS⟩ := hW.cells
  have fin : ∀ en w2, WrOk 131 (Psp.encN n) (Psp.okN n) 6 S g out (bad || !decide (n ≤ 256)) (w.setCell ⟨g, 1, none⟩ (.bool (bad || !decide (n ≤ 256)))) en w2 → en = .returned (.tuple #[]) ∧ WrOk 131 (Psp.encN n) (decide (n ≤ 256)) 6 S g out bad w (.returned (.tuple #[])) w2 := by
    intro en w2 hc
    obtain ⟨rfl, S2, o2, b2, h2⟩ := H1.out.step hc
    refine ⟨rfl, (h2.of (by simp) ?_).done (by omega)⟩
    by_cases h : n ≤ 256
    · rw [decide_eq_true h]; simp [Psp.okN]; omega
    · rw [decide_eq_false h]; rfl
  have Hfin := Lib.hid fin
  have Hw1 := Lib.hid h1.wr
  clear h1 hW hown hS fin H1
  by_cases h : n ≤ 256
  · have d1 : decide (256 < (n : Int)) = false := by simp; omega
    cases bad
    all_goals
      simp only [decide_eq_true h, Bool.false_or, Bool.true_or, Bool.not_true] at Hfin Hw1 ⊢
      go_enter Tryz.func99, Tryz.ntmps99
      go_wp2_with fail
      refine (pen_number (n : Int) S g out _ _ Hw1.out (by omega)).mono ?_
      intro e w2 hc
      obtain ⟨rfl, h3⟩ := Hfin.out _ _ hc
      have H3 := Lib.hid h3
      clear h3 hc
      go_wp2_with fail
      go_end0
      exact H3.out
  · have d1 : decide (256 < (n : Int)) = true := by simp; omega
    cases bad
    all_goals
      simp only [decide_eq_false h, Bool.false_or, Bool.true_or, Bool.not_false] at Hfin Hw1 ⊢
      go_enter Tryz.func99, Tryz.ntmps99
      go_wp2_with fail
      refine (pen_number (n : Int) S g out _ _ Hw1.out (by omega)).mono ?_
      intro e w2 hc
      obtain ⟨rfl, h3⟩ := Hfin.out _ _ hc
      have H3 := Lib.hid h3
      clear h3 hc
      go_wp2_with fail
      go_end0
      exact H3.out

end Go.Proofs.YtipmjleohadoeaaGreat

end

section
/- The walks of the reference's pen: requests, lists, certificates, parts. Printed by gen_pen2.py. -/
namespace Go.Proofs.YtipmjleohadoeaaGreat
open Go.RowKit
set_option linter.unusedVariables false

set_option maxRecDepth 100000 in
theorem pen_req (c t k y v s : Int) (S : Nat → Prop) (g : Nat) (out : List UInt8) (bad : Bool) (w : World) (hW : Wr 131 w S g out bad) (hb : out.length + 36 ≤ 1099511627776) :
    Calls Tryz.prog 100 #[.pointer (some ⟨g, 0, none⟩), .agg #[.int .i64 c, .int .i64 t, .int .i64 k, .int .i64 y, .int .i64 v, .int .i64 s]] w (WrOk 131 (Psp.encR ⟨c, t, k, y, v, s⟩) (Psp.okR ⟨c, t, k, y, v, s⟩) 36 S g out bad w) := by
  have HW := Lib.hid (hW.below (alloc_below w (.cells #[.int .i64 c, .int .i64 t, .int .i64 k, .int .i64 y, .int .i64 v, .int .i64 s] 42)))
  have hS : ¬ S w.heap.size := hW.off (Nat.le_refl _)
  have Hl0 := Lib.hid (lies_new w [iv c, iv t, iv k, iv y, iv v, iv s] 42 _ rfl)
  have hz0 : w.heap.size < (w.alloc (.cells #[.int .i64 c, .int .i64 t, .int .i64 k, .int .i64 y, .int .i64 v, .int .i64 s] 42)).heap.size := by simp
  have Hz0 := Lib.hid hz0
  clear hW hz0
  go_enter Tryz.func100, Tryz.ntmps100
  go_wp2_with fail
  refine (pen_number c S _ out bad _ (WrS.start HW.out).wr (by omega)).mono ?_
  intro e w1 hc
  obtain ⟨rfl, S1, o1, b1, h1⟩ := (WrS.start HW.out).step hc
  have hbx := h1.lies Hl0.out Hz0.out hS
  have x1 := hbx.at_ (j := 1) (by simp)
  simp only [Nat.zero_add, List.getElem_cons_succ, List.getElem_cons_zero, iv] at x1
  have hl1 := h1.wrote.islen
  have H1 := Lib.hid h1
  clear hc h1 hbx
  go_wp2_with fail
  refine (pen_number t S1 _ o1 b1 _ H1.out.wr (by omega)).mono ?_
  intro e w2 hc
  obtain ⟨rfl, S2, o2, b2, h2⟩ := H1.out.step hc
  have hbx := h2.lies Hl0.out Hz0.out hS
  have x2 := hbx.at_ (j := 2) (by simp)
  simp only [Nat.zero_add, List.getElem_cons_succ, List.getElem_cons_zero, iv] at x2
  have hl2 := h2.wrote.islen
  have H2 := Lib.hid h2
  clear hc h2 hbx x1
  go_wp2_with fail
  refine (pen_number k S2 _ o2 b2 _ H2.out.wr (by omega)).mono ?_
  intro e w3 hc
  obtain ⟨rfl, S3, o3, b3, h3⟩ := H2.out.step hc
  have hbx := h3.lies Hl0.out Hz0.out hS
  have x3 := hbx.at_ (j := 3) (by simp)
  simp only [Nat.zero_add, List.getElem_cons_succ, List.getElem_cons_zero, iv] at x3
  have hl3 := h3.wrote.islen
  have H3 := Lib.hid h3
  clear hc h3 hbx x2
  go_wp2_with fail
  refine (pen_signed y S3 _ o3 b3 _ H3.out.wr (by omega)).mono ?_
  intro e w4 hc
  obtain ⟨rfl, S4, o4, b4, h4⟩ := H3.out.step hc
  have hbx := h4.lies Hl0.out Hz0.out hS
  have x4 := hbx.at_ (j := 4) (by simp)
  simp only [Nat.zero_add, List.getElem_cons_succ, List.getElem_cons_zero, iv] at x4
  have hl4 := h4.wrote.islen
  have H4 := Lib.hid h4
  clear hc h4 hbx x3
  go_wp2_with fail
  refine (pen_signed v S4 _ o4 b4 _ H4.out.wr (by omega)).mono ?_
  intro e w5 hc
  obtain ⟨rfl, S5, o5, b5, h5⟩ := H4.out.step hc
  have hbx := h5.lies Hl0.out Hz0.out hS
  have x5 := hbx.at_ (j := 5) (by simp)
  simp only [Nat.zero_add, List.getElem_cons_succ, List.getElem_cons_zero, iv] at x5
  have hl5 := h5.wrote.islen
  have H5 := Lib.hid h5
  clear hc h5 hbx x4
  go_wp2_with fail
  refine (pen_number s S5 _ o5 b5 _ H5.out.wr (by omega)).mono ?_
  intro e w6 hc
  obtain ⟨rfl, S6, o6, b6, h6⟩ := H5.out.step hc
  have H6 := Lib.hid h6
  clear hc h6 x5
  go_wp2_with fail
  go_end0
  exact ((H6.out.of (by simp [Psp.encR]) (by simp [Psp.okR, Bool.and_assoc])).done (by omega)).from_ (alloc_below _ _)

set_option maxRecDepth 100000 in
theorem pen_batch (l : List Psp.Req) (n : Nat) (x : Value) (S : Nat → Prop) (g : Nat) (out : List UInt8) (bad : Bool) (w : World) (hW : Wr 131 w S g out bad) (hn : l.length = n)
    (hx : RdP w (fun b => ¬ S b) 6 x n (l.flatMap rq)) (hb : out.length + 9222 ≤ 1099511627776) :
    Calls Tryz.prog 66 #[.pointer (some ⟨g, 0, none⟩), x] w (WrOk 131 (Psp.encL Psp.encR l) (Psp.okL Psp.okR l) 9222 S g out bad w) := by
  have he : l.length = n := by exact hn
  have He := Lib.hid he
  have Hn := Lib.hid hn
  obtain ⟨hxl, A, cp, rfl, hc1, hc2, hxc⟩ := hx.parts
  have Hxc := Lib.hid hxc
  have HW := Lib.hid hW
  have Hle := Lib.hid (show Psp.encL Psp.encR l = Psp.encN n ++ l.flatMap Psp.encR by unfold Psp.encL; rw [he])
  have Hlo := Lib.hid (show Psp.okL Psp.okR l = (decide (n ≤ 256) && l.all Psp.okR) by unfold Psp.okL; rw [he])
  clear hW hn he hx hxl hxc
  go_enter Tryz.func66, Tryz.ntmps66
  go_wp2_with fail
  refine (pen_list n S g out bad _ HW.out (by omega)).mono ?_
  intro e w2 hc
  obtain ⟨rfl, S2, o2, b2, h2⟩ := (WrS.start HW.out).step hc
  have h3 : WrS 131 (Psp.encN n ++ (l.take 0).flatMap Psp.encR) (decide (n ≤ 256) && (l.take 0).all Psp.okR) (6 + 0 * 36) S g out bad w S2 o2 b2 w2 := h2.of (by simp) (by simp)
  have H3 := Lib.hid h3
  clear hc h2 h3
  go_wp2_with fail
  go_loopw [4] (fun i wr => ∃ (k : Nat) (S' : Nat → Prop) (out' : List UInt8) (bad' : Bool), i = .int .i64 (k : Int) ∧ k ≤ n ∧ WrS 131 (Psp.encN n ++ (l.take k).flatMap Psp.encR) (decide (n ≤ 256) && (l.take k).all Psp.okR) (6 + k * 36) S g out bad w S' out' bad' wr ∧ (0 < k → n ≤ 256)) (fun i _ => n - (intOf i).toNat)
  case atStart => exact ⟨0, S2, o2, b2, rfl, Nat.zero_le _, H3.out, fun h => absurd h (by omega)⟩
  case round =>
    obtain ⟨k, S', out', bad', rfl, hk, hI, hk0⟩ := hrel
    have hkb : k * 36 ≤ 256 * 36 := by
      rcases Nat.eq_zero_or_pos k with h | h
      · exact Nat.mul_le_mul_right _ (by omega)
      · exact Nat.mul_le_mul_right _ (by have := hk0 h; omega)
    obtain ⟨A3, c3, _, _, q0, q1, _, _, _, _⟩ := hI.wr.cells
    clear q0
    by_cases hlt : k < n
    · cases bad' with
      | true =>
        have hstop := (hI.stop (e' := Psp.encL Psp.encR l) (ok' := Psp.okL Psp.okR l) (fun h => by
          rw [Hlo.out, Bool.and_eq_true] at h
          rw [Bool.and_eq_true]
          exact ⟨h.1, List.all_eq_true.2 fun x hx => List.all_eq_true.1 h.2 x (List.mem_of_mem_take hx)⟩)).done (m := 9222) (by omega)
        have Hstop := Lib.hid hstop
        clear hstop hI
        go_wp2_with fail
        go_end0
        exact Hstop.out
      | false =>
        have hn256 : n ≤ 256 := by
          have h1 := hI.wrote.isbad
          by_cases h : n ≤ 256
          · exact h
          · rw [decide_eq_false h] at h1; simp at h1
        have hk256 : (k + 1) * 36 ≤ 256 * 36 := Nat.mul_le_mul_right _ (by omega)
        rw [Nat.succ_mul] at hk256
        obtain ⟨b, o, hAe, hbS, hbw, hlies⟩ := Hxc.out (by omega)
        subst hAe
        have hkl : k < l.length := by have := Hn.out; omega
        have hkl2 : k < l.length := by have := He.out; omega
        have hfl := Psp.flat_step Psp.encR hkl2
        have hal := Psp.all_step Psp.okR hkl2
        have hl0 := hI.wrote.islen
        obtain ⟨t, ht⟩ : ∃ t, l[k] = t := ⟨_, rfl⟩
        have hrw : ∀ (W : World), Lies W b o (l.flatMap rq) → W.rangeAt b (o + k * 6) (rq t) := fun W hW => by have := range_elem (f := rq) (k := 6) (fun _ => rfl) hW hkl; rwa [ht] at this
        rw [ht] at hfl hal
        have Hrw := Lib.hid hrw
        have Hlies := Lib.hid hlies
        have Hfl := Lib.hid hfl
        have Hal := Lib.hid hal
        have H0 := Lib.hid hI
        clear hlies hrw hfl hal hI hkl hkl2 ht hk0
        have Hrg := Lib.hid (Hrw.out _ (H0.out.lies Hlies.out hbw hbS))
        go_wp2_with (refine list_load rfl 42 (.tmp 25) rfl b (o + k * 6) rfl [.int .i64 t.c, .int .i64 t.t, .int .i64 t.k, .int .i64 t.y, .int .i64 t.v, .int .i64 t.s] _ ?_ Tryz.underlying42 rfl sizeR ?_; exact Hrg.out)
        refine (pen_req t.c t.t t.k t.y t.v t.s S' _ out' false _ H0.out.wr (by omega)).mono ?_
        intro e w1x hc
        obtain ⟨rfl, S1x, o1x, b1x, h1⟩ := H0.out.step hc
        have hl1 := h1.wrote.islen
        have H1 := Lib.hid h1
        clear hc h1 q1
        have h9 := H1.out.of (show _ = Psp.encN n ++ (l.take (k + 1)).flatMap Psp.encR by rw [Hfl.out]; simp [Psp.encR]) (show _ = (decide (n ≤ 256) && (l.take (k + 1)).all Psp.okR) by rw [Hal.out]; simp [Psp.okR, Bool.and_assoc])
        have H9 := Lib.hid h9
        clear h9
        go_wp2_with fail
        go_roundw
        case rel => exact ⟨k + 1, S1x, o1x, b1x, by go_num, by omega, ⟨H9.out.wrote.more (by rw [Nat.succ_mul]; omega), H9.out.wr, H9.out.fp, H9.out.sub, H9.out.sup⟩, fun _ => hn256⟩
        case measure => simp [intOf]; omega
    · obtain rfl : k = n := by omega
      have hE := He.out
      rw [List.take_of_length_le (by omega)] at hI
      have hd := (hI.of Hle.out.symm Hlo.out.symm).done (m := 9222) (by omega)
      have Hd := Lib.hid hd
      clear hd hI hE
      cases bad'
      all_goals
        go_wp2_with fail
        go_end0
        exact Hd.out

set_option maxRecDepth 100000 in
theorem pen_votes (l : List Psp.Vote) (n : Nat) (x : Value) (S : Nat → Prop) (g : Nat) (out : List UInt8) (bad : Bool) (w : World) (hW : Wr 131 w S g out bad) (hn : l.length = n)
    (hx : RdP w (fun b => ¬ S b) 2 x n (l.flatMap vt)) (hb : out.length + 3078 ≤ 1099511627776) :
    Calls Tryz.prog 67 #[.pointer (some ⟨g, 0, none⟩), x] w (WrOk 131 (Psp.encL Psp.encV l) (Psp.okL Psp.okV l) 3078 S g out bad w) := by
  have he : l.length = n := by exact hn
  have He := Lib.hid he
  have Hn := Lib.hid hn
  obtain ⟨hxl, A, cp, rfl, hc1, hc2, hxc⟩ := hx.parts
  have Hxc := Lib.hid hxc
  have HW := Lib.hid hW
  have Hle := Lib.hid (show Psp.encL Psp.encV l = Psp.encN n ++ l.flatMap Psp.encV by unfold Psp.encL; rw [he])
  have Hlo := Lib.hid (show Psp.okL Psp.okV l = (decide (n ≤ 256) && l.all Psp.okV) by unfold Psp.okL; rw [he])
  clear hW hn he hx hxl hxc
  go_enter Tryz.func67, Tryz.ntmps67
  go_wp2_with fail
  refine (pen_list n S g out bad _ HW.out (by omega)).mono ?_
  intro e w2 hc
  obtain ⟨rfl, S2, o2, b2, h2⟩ := (WrS.start HW.out).step hc
  have h3 : WrS 131 (Psp.encN n ++ (l.take 0).flatMap Psp.encV) (decide (n ≤ 256) && (l.take 0).all Psp.okV) (6 + 0 * 12) S g out bad w S2 o2 b2 w2 := h2.of (by simp) (by simp)
  have H3 := Lib.hid h3
  clear hc h2 h3
  go_wp2_with fail
  go_loopw [4] (fun i wr => ∃ (k : Nat) (S' : Nat → Prop) (out' : List UInt8) (bad' : Bool), i = .int .i64 (k : Int) ∧ k ≤ n ∧ WrS 131 (Psp.encN n ++ (l.take k).flatMap Psp.encV) (decide (n ≤ 256) && (l.take k).all Psp.okV) (6 + k * 12) S g out bad w S' out' bad' wr ∧ (0 < k → n ≤ 256)) (fun i _ => n - (intOf i).toNat)
  case atStart => exact ⟨0, S2, o2, b2, rfl, Nat.zero_le _, H3.out, fun h => absurd h (by omega)⟩
  case round =>
    obtain ⟨k, S', out', bad', rfl, hk, hI, hk0⟩ := hrel
    have hkb : k * 12 ≤ 256 * 12 := by
      rcases Nat.eq_zero_or_pos k with h | h
      · exact Nat.mul_le_mul_right _ (by omega)
      · exact Nat.mul_le_mul_right _ (by have := hk0 h; omega)
    obtain ⟨A3, c3, _, _, q0, q1, _, _, _, _⟩ := hI.wr.cells
    clear q0
    by_cases hlt : k < n
    · cases bad' with
      | true =>
        have hstop := (hI.stop (e' := Psp.encL Psp.encV l) (ok' := Psp.okL Psp.okV l) (fun h => by
          rw [Hlo.out, Bool.and_eq_true] at h
          rw [Bool.and_eq_true]
          exact ⟨h.1, List.all_eq_true.2 fun x hx => List.all_eq_true.1 h.2 x (List.mem_of_mem_take hx)⟩)).done (m := 3078) (by omega)
        have Hstop := Lib.hid hstop
        clear hstop hI
        go_wp2_with fail
        go_end0
        exact Hstop.out
      | false =>
        have hn256 : n ≤ 256 := by
          have h1 := hI.wrote.isbad
          by_cases h : n ≤ 256
          · exact h
          · rw [decide_eq_false h] at h1; simp at h1
        have hk256 : (k + 1) * 12 ≤ 256 * 12 := Nat.mul_le_mul_right _ (by omega)
        rw [Nat.succ_mul] at hk256
        obtain ⟨b, o, hAe, hbS, hbw, hlies⟩ := Hxc.out (by omega)
        subst hAe
        have hkl : k < l.length := by have := Hn.out; omega
        have hkl2 : k < l.length := by have := He.out; omega
        have hfl := Psp.flat_step Psp.encV hkl2
        have hal := Psp.all_step Psp.okV hkl2
        have hl0 := hI.wrote.islen
        obtain ⟨t, ht⟩ : ∃ t, l[k] = t := ⟨_, rfl⟩
        have hrw : ∀ (W : World), Lies W b o (l.flatMap vt) → W.rangeAt b (o + k * 2) (vt t) := fun W hW => by have := range_elem (f := vt) (k := 2) (fun _ => rfl) hW hkl; rwa [ht] at this
        rw [ht] at hfl hal
        have Hrw := Lib.hid hrw
        have Hlies := Lib.hid hlies
        have Hfl := Lib.hid hfl
        have Hal := Lib.hid hal
        have H0 := Lib.hid hI
        clear hlies hrw hfl hal hI hkl hkl2 ht hk0
        have y0 := Hrw.out _ (H0.out.lies Hlies.out hbw hbS) 0 _ rfl
        simp only [Nat.add_zero, iv] at y0
        go_wp2_with fail
        refine (pen_number t.n S' _ out' false _ H0.out.wr (by omega)).mono ?_
        intro e w1x hc
        obtain ⟨rfl, S1x, o1x, b1x, h1⟩ := H0.out.step hc
        have hl1 := h1.wrote.islen
        have H1 := Lib.hid h1
        clear hc h1 y0 q1
        have y1 := Hrw.out _ (H1.out.lies Hlies.out hbw hbS) 1 _ rfl
        simp only [iv] at y1
        go_wp2_with fail
        refine (pen_number t.s S1x _ o1x b1x _ H1.out.wr (by omega)).mono ?_
        intro e w2x hc
        obtain ⟨rfl, S2x, o2x, b2x, h2⟩ := H1.out.step hc
        have hl2 := h2.wrote.islen
        have H2 := Lib.hid h2
        clear hc h2 y1
        have h9 := H2.out.of (show _ = Psp.encN n ++ (l.take (k + 1)).flatMap Psp.encV by rw [Hfl.out]; simp [Psp.encV]) (show _ = (decide (n ≤ 256) && (l.take (k + 1)).all Psp.okV) by rw [Hal.out]; simp [Psp.okV, Bool.and_assoc])
        have H9 := Lib.hid h9
        clear h9
        go_wp2_with fail
        go_roundw
        case rel => exact ⟨k + 1, S2x, o2x, b2x, by go_num, by omega, ⟨H9.out.wrote.more (by rw [Nat.succ_mul]; omega), H9.out.wr, H9.out.fp, H9.out.sub, H9.out.sup⟩, fun _ => hn256⟩
        case measure => simp [intOf]; omega
    · obtain rfl : k = n := by omega
      have hE := He.out
      rw [List.take_of_length_le (by omega)] at hI
      have hd := (hI.of Hle.out.symm Hlo.out.symm).done (m := 3078) (by omega)
      have Hd := Lib.hid hd
      clear hd hI hE
      cases bad'
      all_goals
        go_wp2_with fail
        go_end0
        exact Hd.out

set_option maxRecDepth 100000 in
theorem pen_certs (l : List CertV) (n : Nat) (x : Value) (S : Nat → Prop) (g : Nat) (out : List UInt8) (bad : Bool) (w : World) (hW : Wr 131 w S g out bad) (hn : l.length = n)
    (hx : RdP w (fun b => ¬ S b) 5 x n (l.flatMap cv)) (hc : ∀ y ∈ l, CertOk w (fun b => ¬ S b) y) (hb : out.length + 3153414 ≤ 1099511627776) :
    Calls Tryz.prog 68 #[.pointer (some ⟨g, 0, none⟩), x] w (WrOk 131 (Psp.encL Psp.encC (l.map (·.c))) (Psp.okL Psp.okC (l.map (·.c))) 3153414 S g out bad w) := by
  have he : (l.map (·.c)).length = n := by rw [List.length_map]; exact hn
  have He := Lib.hid he
  have Hn := Lib.hid hn
  obtain ⟨hxl, A, cp, rfl, hc1, hc2, hxc⟩ := hx.parts
  have Hxc := Lib.hid hxc
  have HW := Lib.hid hW
  have Hle := Lib.hid (show Psp.encL Psp.encC (l.map (·.c)) = Psp.encN n ++ (l.map (·.c)).flatMap Psp.encC by unfold Psp.encL; rw [he])
  have Hlo := Lib.hid (show Psp.okL Psp.okC (l.map (·.c)) = (decide (n ≤ 256) && (l.map (·.c)).all Psp.okC) by unfold Psp.okL; rw [he])
  clear hW hn he hx hxl hxc
  go_enter Tryz.func68, Tryz.ntmps68
  go_wp2_with fail
  refine (pen_list n S g out bad _ HW.out (by omega)).mono ?_
  intro e w2 hc
  obtain ⟨rfl, S2, o2, b2, h2⟩ := (WrS.start HW.out).step hc
  have h3 : WrS 131 (Psp.encN n ++ ((l.map (·.c)).take 0).flatMap Psp.encC) (decide (n ≤ 256) && ((l.map (·.c)).take 0).all Psp.okC) (6 + 0 * 12318) S g out bad w S2 o2 b2 w2 := h2.of (by simp) (by simp)
  have H3 := Lib.hid h3
  clear hc h2 h3
  go_wp2_with fail
  go_loopw [4] (fun i wr => ∃ (k : Nat) (S' : Nat → Prop) (out' : List UInt8) (bad' : Bool), i = .int .i64 (k : Int) ∧ k ≤ n ∧ WrS 131 (Psp.encN n ++ ((l.map (·.c)).take k).flatMap Psp.encC) (decide (n ≤ 256) && ((l.map (·.c)).take k).all Psp.okC) (6 + k * 12318) S g out bad w S' out' bad' wr ∧ (0 < k → n ≤ 256)) (fun i _ => n - (intOf i).toNat)
  case atStart => exact ⟨0, S2, o2, b2, rfl, Nat.zero_le _, H3.out, fun h => absurd h (by omega)⟩
  case round =>
    obtain ⟨k, S', out', bad', rfl, hk, hI, hk0⟩ := hrel
    have hkb : k * 12318 ≤ 256 * 12318 := by
      rcases Nat.eq_zero_or_pos k with h | h
      · exact Nat.mul_le_mul_right _ (by omega)
      · exact Nat.mul_le_mul_right _ (by have := hk0 h; omega)
    obtain ⟨A3, c3, _, _, q0, q1, _, _, _, _⟩ := hI.wr.cells
    clear q0
    by_cases hlt : k < n
    · cases bad' with
      | true =>
        have hstop := (hI.stop (e' := Psp.encL Psp.encC (l.map (·.c))) (ok' := Psp.okL Psp.okC (l.map (·.c))) (fun h => by
          rw [Hlo.out, Bool.and_eq_true] at h
          rw [Bool.and_eq_true]
          exact ⟨h.1, List.all_eq_true.2 fun x hx => List.all_eq_true.1 h.2 x (List.mem_of_mem_take hx)⟩)).done (m := 3153414) (by omega)
        have Hstop := Lib.hid hstop
        clear hstop hI
        go_wp2_with fail
        go_end0
        exact Hstop.out
      | false =>
        have hn256 : n ≤ 256 := by
          have h1 := hI.wrote.isbad
          by_cases h : n ≤ 256
          · exact h
          · rw [decide_eq_false h] at h1; simp at h1
        have hk256 : (k + 1) * 12318 ≤ 256 * 12318 := Nat.mul_le_mul_right _ (by omega)
        rw [Nat.succ_mul] at hk256
        obtain ⟨b, o, hAe, hbS, hbw, hlies⟩ := Hxc.out (by omega)
        subst hAe
        have hkl : k < l.length := by have := Hn.out; omega
        have hkl2 : k < (l.map (·.c)).length := by have := He.out; omega
        have hfl := Psp.flat_step Psp.encC hkl2
        have hal := Psp.all_step Psp.okC hkl2
        have hl0 := hI.wrote.islen
        obtain ⟨t, ht⟩ : ∃ t, l[k] = t := ⟨_, rfl⟩
        have hrw : ∀ (W : World), Lies W b o (l.flatMap cv) → W.rangeAt b (o + k * 5) (cv t) := fun W hW => by have := range_elem (f := cv) (k := 5) (fun _ => rfl) hW hkl; rwa [ht] at this
        rw [List.getElem_map, ht] at hfl hal
        have hok := hc t (by rw [← ht]; exact List.getElem_mem hkl)
        have Hok := Lib.hid hok
        obtain ⟨_, A5, c5, e5, _, _, _⟩ := hok.1.parts
        obtain ⟨_, A6, c6, e6, _, _, _⟩ := hok.2.parts
        have E5 := Lib.hid e5
        have E6 := Lib.hid e6
        clear hok e5 e6
        have Hrw := Lib.hid hrw
        have Hlies := Lib.hid hlies
        have Hfl := Lib.hid hfl
        have Hal := Lib.hid hal
        have H0 := Lib.hid hI
        clear hlies hrw hfl hal hI hkl hkl2 ht hk0
        have y0 := Hrw.out _ (H0.out.lies Hlies.out hbw hbS) 0 _ rfl
        simp only [Nat.add_zero, iv] at y0
        go_wp2_with fail
        refine (pen_number t.c.v S' _ out' false _ H0.out.wr (by omega)).mono ?_
        intro e w1x hc
        obtain ⟨rfl, S1x, o1x, b1x, h1⟩ := H0.out.step hc
        have hl1 := h1.wrote.islen
        have H1 := Lib.hid h1
        clear hc h1 y0 q1
        have y1 := Hrw.out _ (H1.out.lies Hlies.out hbw hbS) 1 _ rfl
        simp only [iv] at y1
        go_wp2_with fail
        refine (pen_number t.c.i S1x _ o1x b1x _ H1.out.wr (by omega)).mono ?_
        intro e w2x hc
        obtain ⟨rfl, S2x, o2x, b2x, h2⟩ := H1.out.step hc
        have hl2 := h2.wrote.islen
        have H2 := Lib.hid h2
        clear hc h2 y1
        have y2 := Hrw.out _ (H2.out.lies Hlies.out hbw hbS) 2 _ rfl
        simp only [iv] at y2
        go_wp2_with fail
        refine (pen_number t.c.q S2x _ o2x b2x _ H2.out.wr (by omega)).mono ?_
        intro e w3x hc
        obtain ⟨rfl, S3x, o3x, b3x, h3⟩ := H2.out.step hc
        have hl3 := h3.wrote.islen
        have H3 := Lib.hid h3
        clear hc h3 y2
        have y3 := Hrw.out _ (H3.out.lies Hlies.out hbw hbS) 3 _ rfl
        go_wp2_with fail
        refine (pen_batch t.c.b _ _ S3x _ o3x b3x _ H3.out.wr rfl (H3.out.rd Hok.out.1) (by omega)).mono ?_
        intro e w4x hc
        obtain ⟨rfl, S4x, o4x, b4x, h4⟩ := H3.out.step hc
        have hl4 := h4.wrote.islen
        have H4 := Lib.hid h4
        clear hc h4 y3
        have y4 := Hrw.out _ (H4.out.lies Hlies.out hbw hbS) 4 _ rfl
        go_wp2_with fail
        refine (pen_votes t.c.o _ _ S4x _ o4x b4x _ H4.out.wr rfl (H4.out.rd Hok.out.2) (by omega)).mono ?_
        intro e w5x hc
        obtain ⟨rfl, S5x, o5x, b5x, h5⟩ := H4.out.step hc
        have hl5 := h5.wrote.islen
        have H5 := Lib.hid h5
        clear hc h5 y4
        have h9 := H5.out.of (show _ = Psp.encN n ++ ((l.map (·.c)).take (k + 1)).flatMap Psp.encC by rw [Hfl.out]; simp [Psp.encC]) (show _ = (decide (n ≤ 256) && ((l.map (·.c)).take (k + 1)).all Psp.okC) by rw [Hal.out]; simp [Psp.okC, Bool.and_assoc])
        have H9 := Lib.hid h9
        clear h9
        go_wp2_with fail
        go_roundw
        case rel => exact ⟨k + 1, S5x, o5x, b5x, by go_num, by omega, ⟨H9.out.wrote.more (by rw [Nat.succ_mul]; omega), H9.out.wr, H9.out.fp, H9.out.sub, H9.out.sup⟩, fun _ => hn256⟩
        case measure => simp [intOf]; omega
    · obtain rfl : k = n := by omega
      have hE := He.out
      rw [List.take_of_length_le (by omega)] at hI
      have hd := (hI.of Hle.out.symm Hlo.out.symm).done (m := 3153414) (by omega)
      have Hd := Lib.hid hd
      clear hd hI hE
      cases bad'
      all_goals
        go_wp2_with fail
        go_end0
        exact Hd.out

set_option maxRecDepth 100000 in
theorem pen_certs2 (l : List Psp.Cert) (x : Value) (S : Nat → Prop) (g : Nat) (out : List UInt8) (bad : Bool) (w : World) (hW : Wr 131 w S g out bad) (hx : RdC w (fun b => ¬ S b) x l) (hb : out.length + 3153414 ≤ 1099511627776) :
    Calls Tryz.prog 68 #[.pointer (some ⟨g, 0, none⟩), x] w (WrOk 131 (Psp.encL Psp.encC l) (Psp.okL Psp.okC l) 3153414 S g out bad w) := by
  obtain ⟨L, h0, h1, h2⟩ := hx
  rw [← h0]
  exact pen_certs L L.length x S g out bad w hW rfl h1 h2 hb

set_option maxRecDepth 100000 in
theorem pen_parts (l : List PartV) (n : Nat) (x : Value) (S : Nat → Prop) (g : Nat) (out : List UInt8) (bad : Bool) (w : World) (hW : Wr 131 w S g out bad) (hn : l.length = n)
    (hx : RdP w (fun b => ¬ S b) 4 x n (l.flatMap pv)) (hc : ∀ y ∈ l, PartOk w (fun b => ¬ S b) y) (hb : out.length + 808065030 ≤ 1099511627776) :
    Calls Tryz.prog 69 #[.pointer (some ⟨g, 0, none⟩), x] w (WrOk 131 (Psp.encL Psp.encP (l.map (·.p))) (Psp.okL Psp.okP (l.map (·.p))) 808065030 S g out bad w) := by
  have he : (l.map (·.p)).length = n := by rw [List.length_map]; exact hn
  have He := Lib.hid he
  have Hn := Lib.hid hn
  obtain ⟨hxl, A, cp, rfl, hc1, hc2, hxc⟩ := hx.parts
  have Hxc := Lib.hid hxc
  have HW := Lib.hid hW
  have Hle := Lib.hid (show Psp.encL Psp.encP (l.map (·.p)) = Psp.encN n ++ (l.map (·.p)).flatMap Psp.encP by unfold Psp.encL; rw [he])
  have Hlo := Lib.hid (show Psp.okL Psp.okP (l.map (·.p)) = (decide (n ≤ 256) && (l.map (·.p)).all Psp.okP) by unfold Psp.okL; rw [he])
  clear hW hn he hx hxl hxc
  go_enter Tryz.func69, Tryz.ntmps69
  go_wp2_with fail
  refine (pen_list n S g out bad _ HW.out (by omega)).mono ?_
  intro e w2 hc
  obtain ⟨rfl, S2, o2, b2, h2⟩ := (WrS.start HW.out).step hc
  have h3 : WrS 131 (Psp.encN n ++ ((l.map (·.p)).take 0).flatMap Psp.encP) (decide (n ≤ 256) && ((l.map (·.p)).take 0).all Psp.okP) (6 + 0 * 3156504) S g out bad w S2 o2 b2 w2 := h2.of (by simp) (by simp)
  have H3 := Lib.hid h3
  clear hc h2 h3
  go_wp2_with fail
  go_loopw [4] (fun i wr => ∃ (k : Nat) (S' : Nat → Prop) (out' : List UInt8) (bad' : Bool), i = .int .i64 (k : Int) ∧ k ≤ n ∧ WrS 131 (Psp.encN n ++ ((l.map (·.p)).take k).flatMap Psp.encP) (decide (n ≤ 256) && ((l.map (·.p)).take k).all Psp.okP) (6 + k * 3156504) S g out bad w S' out' bad' wr ∧ (0 < k → n ≤ 256)) (fun i _ => n - (intOf i).toNat)
  case atStart => exact ⟨0, S2, o2, b2, rfl, Nat.zero_le _, H3.out, fun h => absurd h (by omega)⟩
  case round =>
    obtain ⟨k, S', out', bad', rfl, hk, hI, hk0⟩ := hrel
    have hkb : k * 3156504 ≤ 256 * 3156504 := by
      rcases Nat.eq_zero_or_pos k with h | h
      · exact Nat.mul_le_mul_right _ (by omega)
      · exact Nat.mul_le_mul_right _ (by have := hk0 h; omega)
    obtain ⟨A3, c3, _, _, q0, q1, _, _, _, _⟩ := hI.wr.cells
    clear q0
    by_cases hlt : k < n
    · cases bad' with
      | true =>
        have hstop := (hI.stop (e' := Psp.encL Psp.encP (l.map (·.p))) (ok' := Psp.okL Psp.okP (l.map (·.p))) (fun h => by
          rw [Hlo.out, Bool.and_eq_true] at h
          rw [Bool.and_eq_true]
          exact ⟨h.1, List.all_eq_true.2 fun x hx => List.all_eq_true.1 h.2 x (List.mem_of_mem_take hx)⟩)).done (m := 808065030) (by omega)
        have Hstop := Lib.hid hstop
        clear hstop hI
        go_wp2_with fail
        go_end0
        exact Hstop.out
      | false =>
        have hn256 : n ≤ 256 := by
          have h1 := hI.wrote.isbad
          by_cases h : n ≤ 256
          · exact h
          · rw [decide_eq_false h] at h1; simp at h1
        have hk256 : (k + 1) * 3156504 ≤ 256 * 3156504 := Nat.mul_le_mul_right _ (by omega)
        rw [Nat.succ_mul] at hk256
        obtain ⟨b, o, hAe, hbS, hbw, hlies⟩ := Hxc.out (by omega)
        subst hAe
        have hkl : k < l.length := by have := Hn.out; omega
        have hkl2 : k < (l.map (·.p)).length := by have := He.out; omega
        have hfl := Psp.flat_step Psp.encP hkl2
        have hal := Psp.all_step Psp.okP hkl2
        have hl0 := hI.wrote.islen
        obtain ⟨t, ht⟩ : ∃ t, l[k] = t := ⟨_, rfl⟩
        have hrw : ∀ (W : World), Lies W b o (l.flatMap pv) → W.rangeAt b (o + k * 4) (pv t) := fun W hW => by have := range_elem (f := pv) (k := 4) (fun _ => rfl) hW hkl; rwa [ht] at this
        rw [List.getElem_map, ht] at hfl hal
        have hok := hc t (by rw [← ht]; exact List.getElem_mem hkl)
        have Hok := Lib.hid hok
        obtain ⟨_, A5, c5, e5, _, _, _⟩ := hok.1.parts
        obtain ⟨L0, _, hL0, _⟩ := hok.2
        obtain ⟨_, A6, c6, e6, _, _, _⟩ := hL0.parts
        have E5 := Lib.hid e5
        have E6 := Lib.hid e6
        clear hok e5 e6 hL0
        have Hrw := Lib.hid hrw
        have Hlies := Lib.hid hlies
        have Hfl := Lib.hid hfl
        have Hal := Lib.hid hal
        have H0 := Lib.hid hI
        clear hlies hrw hfl hal hI hkl hkl2 ht hk0
        have y0 := Hrw.out _ (H0.out.lies Hlies.out hbw hbS) 0 _ rfl
        simp only [Nat.add_zero, iv] at y0
        go_wp2_with fail
        refine (pen_number t.p.f S' _ out' false _ H0.out.wr (by omega)).mono ?_
        intro e w1x hc
        obtain ⟨rfl, S1x, o1x, b1x, h1⟩ := H0.out.step hc
        have hl1 := h1.wrote.islen
        have H1 := Lib.hid h1
        clear hc h1 y0 q1
        have y1 := Hrw.out _ (H1.out.lies Hlies.out hbw hbS) 1 _ rfl
        go_wp2_with fail
        refine (pen_votes t.p.o _ _ S1x _ o1x b1x _ H1.out.wr rfl (H1.out.rd Hok.out.1) (by omega)).mono ?_
        intro e w2x hc
        obtain ⟨rfl, S2x, o2x, b2x, h2⟩ := H1.out.step hc
        have hl2 := h2.wrote.islen
        have H2 := Lib.hid h2
        clear hc h2 y1
        have y2 := Hrw.out _ (H2.out.lies Hlies.out hbw hbS) 2 _ rfl
        go_wp2_with fail
        refine (pen_certs2 t.p.c _ S2x _ o2x b2x _ H2.out.wr (H2.out.rdC Hok.out.2) (by omega)).mono ?_
        intro e w3x hc
        obtain ⟨rfl, S3x, o3x, b3x, h3⟩ := H2.out.step hc
        have hl3 := h3.wrote.islen
        have H3 := Lib.hid h3
        clear hc h3 y2
        have y3 := Hrw.out _ (H3.out.lies Hlies.out hbw hbS) 3 _ rfl
        simp only [iv] at y3
        go_wp2_with fail
        refine (pen_number t.p.s S3x _ o3x b3x _ H3.out.wr (by omega)).mono ?_
        intro e w4x hc
        obtain ⟨rfl, S4x, o4x, b4x, h4⟩ := H3.out.step hc
        have hl4 := h4.wrote.islen
        have H4 := Lib.hid h4
        clear hc h4 y3
        have h9 := H4.out.of (show _ = Psp.encN n ++ ((l.map (·.p)).take (k + 1)).flatMap Psp.encP by rw [Hfl.out]; simp [Psp.encP]) (show _ = (decide (n ≤ 256) && ((l.map (·.p)).take (k + 1)).all Psp.okP) by rw [Hal.out]; simp [Psp.okP, Bool.and_assoc])
        have H9 := Lib.hid h9
        clear h9
        go_wp2_with fail
        go_roundw
        case rel => exact ⟨k + 1, S4x, o4x, b4x, by go_num, by omega, ⟨H9.out.wrote.more (by rw [Nat.succ_mul]; omega), H9.out.wr, H9.out.fp, H9.out.sub, H9.out.sup⟩, fun _ => hn256⟩
        case measure => simp [intOf]; omega
    · obtain rfl : k = n := by omega
      have hE := He.out
      rw [List.take_of_length_le (by omega)] at hI
      have hd := (hI.of Hle.out.symm Hlo.out.symm).done (m := 808065030) (by omega)
      have Hd := Lib.hid hd
      clear hd hI hE
      cases bad'
      all_goals
        go_wp2_with fail
        go_end0
        exact Hd.out

end Go.Proofs.YtipmjleohadoeaaGreat

end

section
/- The reference: Req, Batch, Votes, Certs, Parts. Printed by gen_top.py. -/
namespace Go.Proofs.YtipmjleohadoeaaGreat
open Go.RowKit
set_option linter.unusedVariables false

theorem done_p_bad (S : Nat → Prop) (g : Nat) (out : List UInt8) (w : World) (hW : Wr 131 w S g out true) :
    Calls Tryz.prog 70 #[.pointer (some ⟨g, 0, none⟩)] w fun e w' => e = .returned (.tuple #[.slice none 0 0, .bool false]) ∧ w = w' := by
  obtain ⟨A, c, hc1, hc2, k0, k1, z0, z1, hown, hS⟩ := hW.cells
  clear hW hown hS
  go_enter Tryz.func70, Tryz.ntmps70
  go_wp2_with fail
  go_ret2
  exact ⟨rfl, rfl⟩
theorem done_p_good (S : Nat → Prop) (g : Nat) (out : List UInt8) (w : World) (hW : Wr 131 w S g out false) :
    Calls Tryz.prog 70 #[.pointer (some ⟨g, 0, none⟩)] w fun e w' => (∃ v, e = .returned (.tuple #[v, .bool true]) ∧ w.ownsRow 0 5 1 v out.length (out.map bv) ∧ ∀ k, v.ownBlock = some k → S k) ∧ w = w' := by
  obtain ⟨A, c, hc1, hc2, k0, k1, z0, z1, hown, hS⟩ := hW.cells
  have Hown := Lib.hid hown
  have HS := Lib.hid hS
  clear hW hown hS
  go_enter Tryz.func70, Tryz.ntmps70
  go_wp2_with fail
  go_ret2
  exact ⟨⟨_, rfl, Hown.out, fun k hk => (HS.out k hk).1⟩, rfl⟩

end Go.Proofs.YtipmjleohadoeaaGreat

end

section
/- The walks of psephoskeep.Same, psephoskeep.Copy. -/
namespace Go.Proofs.YtipmjleohadoeaaGreat
open Go.RowKit
set_option linter.unusedVariables false

theorem take_step_eq {α : Type} [DecidableEq α] {l r : List α} {k : Nat} {d : α} (hl : k < l.length) (hr : k < r.length) (h : l.take k = r.take k) (e : l.getD k d = r.getD k d) : l.take (k + 1) = r.take (k + 1) := by
  rw [List.take_succ_eq_append_getElem hl, List.take_succ_eq_append_getElem hr, h]
  congr 2
  simpa [List.getD_eq_getElem?_getD, List.getElem?_eq_getElem hl, List.getElem?_eq_getElem hr] using e

theorem same_bytes (x y : Value) (n m : Nat) (l r : List UInt8) (w : World) (hx : Rd w w.heap.size 1 x n (l.map bv)) (hy : Rd w w.heap.size 1 y m (r.map bv)) :
    Calls Tryz.prog 45 #[x, y] w fun e w' => e = .returned (.bool (decide (l = r))) ∧ ∃ k, w' = w.drewN k := by
  obtain ⟨hxl, A, c, rfl, hx1, hx2, hxc⟩ := hx
  obtain ⟨hyl, B, d, rfl, hy1, hy2, hyc⟩ := hy
  have hl : l.length = n := by simpa using hxl
  have hr : r.length = m := by simpa using hyl
  unfold maxLen at hx2 hy2
  by_cases hnm : n = m
  · subst hnm
    clear hxl hyl
    have Hl := Lib.hid hl
    have Hr := Lib.hid hr
    clear hl hr
    go_enter Tryz.func45, Tryz.ntmps45
    go_wp2
    go_loopw [5] (fun i wr => ∃ k : Nat, i = .int .i64 (k : Int) ∧ k ≤ n ∧ Hid (l.take k = r.take k) ∧ ∃ q, wr = w.drewN q) (fun i _ => n - (intOf i).toNat)
    case atStart => exact ⟨0, rfl, Nat.zero_le _, Lib.hid (by simp), 0, rfl⟩
    case round =>
      obtain ⟨k, rfl, hk, Heq, q, rfl⟩ := hrel
      by_cases hlt : k < n
      · obtain ⟨b1, o1, rfl, hb1, h1⟩ := hxc (by omega)
        obtain ⟨b2, o2, rfl, hb2, h2⟩ := hyc (by omega)
        clear hxc hyc
        have c1 : w.cell? ⟨b1, o1 + k, none⟩ = some (bv (l.getD k 0)) := by
          have h3 : k < l.length := by have := Hl.out; omega
          rw [h1.at_ (by simp; omega)]; simp [List.getD_eq_getElem?_getD, List.getElem?_eq_getElem h3]
        have c2 : w.cell? ⟨b2, o2 + k, none⟩ = some (bv (r.getD k 0)) := by
          have h3 : k < r.length := by have := Hr.out; omega
          rw [h2.at_ (by simp; omega)]; simp [List.getD_eq_getElem?_getD, List.getElem?_eq_getElem h3]
        obtain ⟨x1, hc⟩ : ∃ x, l.getD k 0 = x := ⟨_, rfl⟩
        obtain ⟨x2, hd⟩ : ∃ x, r.getD k 0 = x := ⟨_, rfl⟩
        rw [hc] at c1
        rw [hd] at c2
        unfold bv at c1 c2
        have Hc := Lib.hid hc
        have Hd := Lib.hid hd
        clear hc hd h1 h2
        by_cases he : x1 = x2
        · have hb : ((x1.toNat : Int) != (x2.toNat : Int)) = false := by simp [he]
          have He := Lib.hid he
          clear he
          go_wp2
          go_quiet (fail)
          go_wp2
          go_roundw
          case rel => exact ⟨k + 1, by go_num, by omega, Lib.hid (take_step_eq (by rw [Hl.out]; omega) (by rw [Hr.out]; omega) Heq.out (by rw [Hc.out, Hd.out, He.out])), _, rfl⟩
          case measure => simp [intOf]; omega
        · have hb : ((x1.toNat : Int) != (x2.toNat : Int)) = true := by simp; exact fun h => he (UInt8.toNat_inj.1 (by omega))
          have He := Lib.hid he
          clear he
          go_wp2
          go_quiet (fail)
          go_wp2
          go_ret
          exact ⟨ret_bool (decide_eq_false (fun h => He.out (by rw [← Hc.out, ← Hd.out, h])) ).symm, _, World.drewN_drewN _ _ _⟩
      · clear hxc hyc
        go_wp2
        go_ret
        refine ⟨ret_bool (decide_eq_true ?_).symm, _, rfl⟩
        have h1 := Heq.out
        rwa [List.take_of_length_le (by rw [Hl.out]; omega), List.take_of_length_le (by rw [Hr.out]; omega)] at h1
  · have hne : ((n : Int) != (m : Int)) = true := by simp; omega
    have hf := Lib.hid (show decide (l = r) = false from decide_eq_false (fun h => by subst h; omega))
    clear hxl hyl hl hr hxc hyc
    go_enter Tryz.func45, Tryz.ntmps45
    go_wp2
    go_ret
    exact ⟨ret_bool hf.out.symm, 0, rfl⟩




theorem same_bytes_yes (x y : Value) (n m : Nat) (l r : List UInt8) (w : World) (hx : Rd w w.heap.size 1 x n (l.map bv)) (hy : Rd w w.heap.size 1 y m (r.map bv)) (h : l = r) :
    Calls Tryz.prog 45 #[x, y] w fun e w' => e = .returned (.bool true) ∧ Below w.heap.size w w' :=
  (same_bytes x y n m l r w hx hy).mono fun e w' ⟨he, k, hk⟩ => by
    rw [decide_eq_true h] at he
    exact ⟨he, by rw [hk]; exact below_drewN (Below.refl _ _) _⟩

end Go.Proofs.YtipmjleohadoeaaGreat

end

section
/- The walks of psephoskeep.Same on requests and votes, of Cert, Certs, Parts. Printed by gen_same2.py. -/
namespace Go.Proofs.YtipmjleohadoeaaGreat
open Go.RowKit
set_option linter.unusedVariables false

end Go.Proofs.YtipmjleohadoeaaGreat

end

section
/- The walks of psephoskeep.Certs, Parts. Printed by gen_same3.py. -/
namespace Go.Proofs.YtipmjleohadoeaaGreat
open Go.RowKit
set_option linter.unusedVariables false

end Go.Proofs.YtipmjleohadoeaaGreat

end

section
/- The example of the document's chapter 2; HeavyCerts, Heavy. -/
namespace Go.Proofs.YtipmjleohadoeaaGreat
open Go.RowKit
set_option linter.unusedVariables false

theorem Keeps.on {w w' : World} (hb : Below w.heap.size w w') : Keeps (fun b => b < w.heap.size) (fun b => b < w'.heap.size) w w' := ⟨hb.size, fun b h _ => ⟨hb.block b h, Nat.lt_of_lt_of_le h hb.size⟩⟩
theorem Below.then {B : Nat} {w w' w'' : World} (h : Below B w w') (g : Below w'.heap.size w' w'') (hB : B ≤ w'.heap.size) : Below B w w'' := h.trans (g.mono hB)
end Go.Proofs.YtipmjleohadoeaaGreat

end
