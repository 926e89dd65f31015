/- The walks of package pack's writer: put, numbers, signed, req, vote. -/
import Derived.Test.YtnlnkcljehafkaaPm
import Derived.Test.YtnlnkcljehafkaaChecked
import Derived.BigQuiet
import Derived.Deep.QuietTactic
namespace Go.Proofs.Ytnlnkcljehafkaa
open Go.RowKit
set_option linter.unusedVariables false

theorem put_wr (x : Value) (n : Nat) (e : List UInt8) (ok : Bool) (S : Nat → Prop) (g : Nat) (out : List UInt8) (bad : Bool) (w : World) (hW : Wr 88 w S g out bad)
    (hx : RdP w (fun b => ¬ S b) 1 x n (e.map bv)) (hb : out.length + n ≤ 1099511627776) :
    Calls Try.prog 67 #[.pointer (some ⟨g, 0, none⟩), x, .bool ok] w (WrOk 88 e ok n S g out bad w) := by
  have hn : e.length = n := by have := hx.1; simpa using this
  have HW := Lib.hid hW
  have hgs : (w.setCell ⟨g, 1, none⟩ (.bool (bad || !ok))).cell? ⟨g, 0, none⟩ = w.cell? ⟨g, 0, none⟩ := by go_simp
  obtain ⟨hW1, hF1⟩ := hW.setBad (bad || !ok)
  obtain ⟨A, c, hc1, hc2, k0, k1, z0, z1, hown, hS⟩ := hW.cells
  obtain ⟨A', c', _, _, k0', _, _, _, hown1, hS1⟩ := hW1.cells
  rw [hgs, k0] at k0'
  injection k0' with k0'
  injection k0' with e1 _ e2
  subst e1 e2
  have hx1 := (hx.fp hF1 (fun b hb => hb)).to_rd
  have Hn := Lib.hid hn
  have HW1 := Lib.hid hW1
  have Hgs := Lib.hid hgs
  have hbd : ∀ u ∈ e.map bv, u.oneCell' = true := by intro u hu; obtain ⟨b, _, rfl⟩ := List.mem_map.1 hu; rfl
  have Hbd := Lib.hid hbd
  clear hW hx hn hW1 hgs hbd
  have fin : ∀ v' w3, w3.ownsRow 0 5 1 v' (out.length + n) (out.map bv ++ e.map bv) → (w.setCell ⟨g, 1, none⟩ (.bool (bad || !ok))).grownBy w3 (Value.slice A out.length c).ownBlock → (v'.ownBlock = (Value.slice A out.length c).ownBlock ∨ v'.ownBlock = some (w.setCell ⟨g, 1, none⟩ (.bool (bad || !ok))).heap.size) →
      WrOk 88 e ok n S g out bad w (.returned (.tuple #[])) (w3.setCell ⟨g, 0, none⟩ v') := by
    intro v' w3 h3 hg3 hb3
    have hk0 : (w.setCell ⟨g, 1, none⟩ (.bool (bad || !ok))).cell? ⟨g, 0, none⟩ = some (.slice A out.length c) := by rw [Hgs.out]; exact k0
    obtain ⟨h4, h5⟩ := HW1.out.append hk0 (by rw [Hn.out]; exact h3) hg3 hb3
    have hsz : (w.setCell ⟨g, 1, none⟩ (.bool (bad || !ok))).heap.size = w.heap.size := by simp [World.setCell]
    refine ⟨rfl, out ++ e, bad || !ok, ⟨rfl, fun _ => rfl, by rw [List.length_append, Hn.out]; exact Nat.le_refl _⟩, ?_, hF1.trans h5 fun k hk => Or.inl hk⟩
    rw [hsz] at h4
    exact h4.wider (fun k hk => by simpa [World.setCell] using hk) (fun k hk => h4.lt k (by simpa [World.setCell] using hk))
  have gro : ∀ w3, (w.setCell ⟨g, 1, none⟩ (.bool (bad || !ok))).grownBy w3 (Value.slice A out.length c).ownBlock → w3.cell? ⟨g, 0, none⟩ = some (.slice A out.length c) ∧ w3.frozen? ⟨g, 0, none⟩ = false := fun w3 hg => HW1.out.grown (by rw [Hgs.out]; exact k0) hg
  have Hfin := Lib.hid fin
  have Hgro := Lib.hid gro
  clear fin gro
  cases bad <;> cases ok
  all_goals
    simp only [Bool.false_or, Bool.true_or, Bool.not_true, Bool.not_false] at hown1 hx1 Hfin Hgro
    go_enter Try.func67, Try.ntmps67
    go_wp2_with (at_builtin; refine wpList_app bytesE rfl _ _ rfl 0 (.slice A out.length c) out.length (out.map bv) rfl hown1 _ x n (e.map bv) rfl hx1 Hbd.out (by unfold maxLen; omega) (by omega) (by omega) ?_; intro v' w3 h3 hg3 hb3; obtain ⟨A4, c4, rfl, _, _, _⟩ := own_slice h3; obtain ⟨q0, q1⟩ := Hgro.out w3 hg3; have H := Lib.hid (Hfin.out _ w3 h3 hg3 hb3); clear h3 hg3 hb3)
    go_end0
    exact H.out

theorem numbers_wr (l : List Int) (n : Nat) (b : Nat) (S : Nat → Prop) (g : Nat) (out : List UInt8) (bad : Bool) (w : World) (hW : Wr 88 w S g out bad) (hn : l.length = n)
    (hl : Lies w b 0 (l.map iv)) (hbw : b < w.heap.size) (hS : ¬ S b) (hn10 : n ≤ 10) (hb : out.length + 6 * n ≤ 1099511627776) :
    Calls Try.prog 62 #[.pointer (some ⟨g, 0, none⟩), .slice (some ⟨b, 0, none⟩) n n] w (WrOk 88 (l.flatMap Psp.encN) (l.all Psp.okN) (6 * n) S g out bad w) := by
  have hst : WrS 88 ((l.take 0).flatMap Psp.encN) ((l.take 0).all Psp.okN) (6 * 0) S g out bad w S out bad w := WrS.start hW
  have Hn := Lib.hid hn
  have Hl := Lib.hid hl
  clear hn hl hW
  go_enter Try.func62, Try.ntmps62
  go_wp2_with fail
  go_loopw [8] (fun i wr => ∃ (k : Nat) (S' : Nat → Prop) (out' : List UInt8) (bad' : Bool), i = .int .i64 (k : Int) ∧ k ≤ n ∧ WrS 88 ((l.take k).flatMap Psp.encN) ((l.take k).all Psp.okN) (6 * k) S g out bad w S' out' bad' wr) (fun i _ => n - (intOf i).toNat)
  case atStart => exact ⟨0, S, out, bad, rfl, Nat.zero_le _, hst⟩
  case round =>
    obtain ⟨k, S', out', bad', rfl, hk, hI⟩ := hrel
    by_cases hlt : k < n
    · have hkl : k < l.length := by have := Hn.out; omega
      have hcell := (Hl.out.keep (hI.fp.block b hbw hS)).at_ (j := k) (by simpa using hkl)
      have hfl := Psp.flat_step Psp.encN hkl
      have hal := Psp.all_step Psp.okN hkl
      have hoff := hI.off hbw hS
      have hlen := hI.wrote.islen
      obtain ⟨y, hy⟩ : ∃ y, l[k] = y := ⟨_, rfl⟩
      rw [List.getElem_map, hy, Nat.zero_add] at hcell
      unfold iv at hcell
      rw [hy] at hfl hal
      have Hfl := Lib.hid hfl
      have Hal := Lib.hid hal
      have HI := Lib.hid hI
      clear hfl hal hI hy hkl
      by_cases hok : Psp.okN y = true
      · have hy2 := (Psp.okN_iff y).1 hok
        obtain ⟨y0, y1⟩ := hy2
        go_wp2_with fail
        refine (number_ok y _ y0 y1).mono ?_
        rintro e w1 ⟨v, rfl, hown, hbel⟩
        have hln := Psp.encN_len hok
        have hz := hbel.size
        have hr : RdP w1 (fun b => ¬ S' b) 1 v (Psp.encN y).length ((Psp.encN y).map bv) := (RdP.of_own hown).mono fun b _ hb hs => by have := HI.out.wr.lt b hs; omega
        have Hr := Lib.hid hr
        have Hbel := Lib.hid hbel
        clear hr hown hbel
        go_wp2_with fail
        refine (put_wr v _ (Psp.encN y) true S' g out' bad' w1 (HI.out.wr.below Hbel.out) Hr.out (by omega)).mono ?_
        intro e w2 hc
        obtain ⟨rfl, S2, o2, b2, h2⟩ := (HI.out.below Hbel.out).step hc
        have H2 := Lib.hid (h2.of Hfl.out.symm (show ((l.take k).all Psp.okN && true) = (l.take (k + 1)).all Psp.okN by rw [Hal.out, hok]))
        clear h2 hc
        go_wp2_with fail
        go_roundw
        case rel => exact ⟨k + 1, S2, o2, b2, by go_num, by omega, ⟨H2.out.wrote.more (by omega), H2.out.wr, H2.out.fp, H2.out.sub, H2.out.sup⟩⟩
        case measure => simp [intOf]; omega
      · have hok' : Psp.okN y = false := by simpa using hok
        have hy2 := mt (Psp.okN_iff y).2 hok
        go_wp2_with fail
        refine (number_no y _ (by omega)).mono ?_
        rintro e w1 ⟨rfl, rfl⟩
        go_wp2_with fail
        refine (put_wr _ 0 [] false S' g out' bad' wr HI.out.wr (RdP.none_) (by omega)).mono ?_
        intro e w2 hc
        obtain ⟨rfl, o2, b2, h1, h2, h3⟩ := hc
        have hc2 : WrOk 88 (Psp.encN y) false 0 S' g out' bad' wr (.returned (.tuple #[])) w2 := ⟨rfl, o2, b2, ⟨h1.isbad, fun hb => by rw [h1.isbad] at hb; simp at hb, h1.islen⟩, h2, h3⟩
        obtain ⟨_, S2, o3, b3, h4⟩ := HI.out.step hc2
        have H4 := Lib.hid (h4.of Hfl.out.symm (show ((l.take k).all Psp.okN && false) = (l.take (k + 1)).all Psp.okN by rw [Hal.out, hok']))
        clear h4 hc2 h1 h2 h3
        go_wp2_with fail
        go_roundw
        case rel => exact ⟨k + 1, S2, o3, b3, by go_num, by omega, ⟨H4.out.wrote.more (by omega), H4.out.wr, H4.out.fp, H4.out.sub, H4.out.sup⟩⟩
        case measure => simp [intOf]; omega
    · obtain rfl : k = n := by omega
      have he := Hn.out
      go_wp2_with fail
      go_end0
      have h1 := hI.done (Nat.le_refl _)
      rw [List.take_of_length_le (by omega)] at h1
      exact h1

theorem signed_wr (l : List Int) (n : Nat) (b : Nat) (S : Nat → Prop) (g : Nat) (out : List UInt8) (bad : Bool) (w : World) (hW : Wr 88 w S g out bad) (hn : l.length = n)
    (hl : Lies w b 0 (l.map iv)) (hbw : b < w.heap.size) (hS : ¬ S b) (hn10 : n ≤ 10) (hb : out.length + 6 * n ≤ 1099511627776) :
    Calls Try.prog 63 #[.pointer (some ⟨g, 0, none⟩), .slice (some ⟨b, 0, none⟩) n n] w (WrOk 88 (l.flatMap Psp.encS) (l.all Psp.okS) (6 * n) S g out bad w) := by
  have hst : WrS 88 ((l.take 0).flatMap Psp.encS) ((l.take 0).all Psp.okS) (6 * 0) S g out bad w S out bad w := WrS.start hW
  have Hn := Lib.hid hn
  have Hl := Lib.hid hl
  clear hn hl hW
  go_enter Try.func63, Try.ntmps63
  go_wp2_with fail
  go_loopw [8] (fun i wr => ∃ (k : Nat) (S' : Nat → Prop) (out' : List UInt8) (bad' : Bool), i = .int .i64 (k : Int) ∧ k ≤ n ∧ WrS 88 ((l.take k).flatMap Psp.encS) ((l.take k).all Psp.okS) (6 * k) S g out bad w S' out' bad' wr) (fun i _ => n - (intOf i).toNat)
  case atStart => exact ⟨0, S, out, bad, rfl, Nat.zero_le _, hst⟩
  case round =>
    obtain ⟨k, S', out', bad', rfl, hk, hI⟩ := hrel
    by_cases hlt : k < n
    · have hkl : k < l.length := by have := Hn.out; omega
      have hcell := (Hl.out.keep (hI.fp.block b hbw hS)).at_ (j := k) (by simpa using hkl)
      have hfl := Psp.flat_step Psp.encS hkl
      have hal := Psp.all_step Psp.okS hkl
      have hoff := hI.off hbw hS
      have hlen := hI.wrote.islen
      obtain ⟨y, hy⟩ : ∃ y, l[k] = y := ⟨_, rfl⟩
      rw [List.getElem_map, hy, Nat.zero_add] at hcell
      unfold iv at hcell
      rw [hy] at hfl hal
      have Hfl := Lib.hid hfl
      have Hal := Lib.hid hal
      have HI := Lib.hid hI
      clear hfl hal hI hy hkl
      by_cases hok : Psp.okS y = true
      · have hy2 := (Psp.okS_iff y).1 hok
        obtain ⟨y0, y1⟩ := hy2
        go_wp2_with fail
        refine (signed_ok y _ y0 y1).mono ?_
        rintro e w1 ⟨v, rfl, hown, hbel⟩
        have hln := Psp.encS_len y
        have hz := hbel.size
        have hr : RdP w1 (fun b => ¬ S' b) 1 v (Psp.encS y).length ((Psp.encS y).map bv) := (RdP.of_own hown).mono fun b _ hb hs => by have := HI.out.wr.lt b hs; omega
        have Hr := Lib.hid hr
        have Hbel := Lib.hid hbel
        clear hr hown hbel
        go_wp2_with fail
        refine (put_wr v _ (Psp.encS y) true S' g out' bad' w1 (HI.out.wr.below Hbel.out) Hr.out (by omega)).mono ?_
        intro e w2 hc
        obtain ⟨rfl, S2, o2, b2, h2⟩ := (HI.out.below Hbel.out).step hc
        have H2 := Lib.hid (h2.of Hfl.out.symm (show ((l.take k).all Psp.okS && true) = (l.take (k + 1)).all Psp.okS by rw [Hal.out, hok]))
        clear h2 hc
        go_wp2_with fail
        go_roundw
        case rel => exact ⟨k + 1, S2, o2, b2, by go_num, by omega, ⟨H2.out.wrote.more (by omega), H2.out.wr, H2.out.fp, H2.out.sub, H2.out.sup⟩⟩
        case measure => simp [intOf]; omega
      · have hok' : Psp.okS y = false := by simpa using hok
        have hy2 := mt (Psp.okS_iff y).2 hok
        go_wp2_with fail
        refine (signed_no y _ (by omega)).mono ?_
        rintro e w1 ⟨rfl, rfl⟩
        go_wp2_with fail
        refine (put_wr _ 0 [] false S' g out' bad' wr HI.out.wr (RdP.none_) (by omega)).mono ?_
        intro e w2 hc
        obtain ⟨rfl, o2, b2, h1, h2, h3⟩ := hc
        have hc2 : WrOk 88 (Psp.encS y) false 0 S' g out' bad' wr (.returned (.tuple #[])) w2 := ⟨rfl, o2, b2, ⟨h1.isbad, fun hb => by rw [h1.isbad] at hb; simp at hb, h1.islen⟩, h2, h3⟩
        obtain ⟨_, S2, o3, b3, h4⟩ := HI.out.step hc2
        have H4 := Lib.hid (h4.of Hfl.out.symm (show ((l.take k).all Psp.okS && false) = (l.take (k + 1)).all Psp.okS by rw [Hal.out, hok']))
        clear h4 hc2 h1 h2 h3
        go_wp2_with fail
        go_roundw
        case rel => exact ⟨k + 1, S2, o3, b3, by go_num, by omega, ⟨H4.out.wrote.more (by omega), H4.out.wr, H4.out.fp, H4.out.sub, H4.out.sup⟩⟩
        case measure => simp [intOf]; omega
    · obtain rfl : k = n := by omega
      have he := Hn.out
      go_wp2_with fail
      go_end0
      have h1 := hI.done (Nat.le_refl _)
      rw [List.take_of_length_le (by omega)] at h1
      exact h1


end Go.Proofs.Ytnlnkcljehafkaa
