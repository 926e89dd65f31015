/- The walks of psephoskeep.Same, psephoskeep.Copy. -/
import Derived.Test.YtckjhbmkhkholaaProg
import Derived.Test.YtckjhbmkhkholaaLaws
import Derived.WalkKit
import Derived.WalkSpells
import Derived.BigQuiet
import Derived.Deep.QuietTactic
namespace Go.Proofs.Ytckjhbmkhkholaa
open Go.RowKit
set_option linter.unusedVariables false

theorem bv_inj {a b : UInt8} (h : bv a = bv b) : a = b := by
  unfold bv at h
  injection h with _ h
  exact UInt8.toNat_inj.1 (by omega)

theorem take_step_eq {α : Type} [DecidableEq α] {l r : List α} {k : Nat} {d : α} (hl : k < l.length) (hr : k < r.length) (h : l.take k = r.take k) (e : l.getD k d = r.getD k d) : l.take (k + 1) = r.take (k + 1) := by
  rw [List.take_succ_eq_append_getElem hl, List.take_succ_eq_append_getElem hr, h]
  congr 2
  simpa [List.getD_eq_getElem?_getD, List.getElem?_eq_getElem hl, List.getElem?_eq_getElem hr] using e

theorem same_bytes (x y : Value) (n m : Nat) (l r : List UInt8) (w : World) (hx : Rd w w.heap.size 1 x n (l.map bv)) (hy : Rd w w.heap.size 1 y m (r.map bv)) :
    Calls Try.prog 12 #[x, y] w fun e w' => e = .returned (.bool (decide (l = r))) ∧ ∃ k, w' = w.drewN k := by
  obtain ⟨hxl, A, c, rfl, hx1, hx2, hxc⟩ := hx
  obtain ⟨hyl, B, d, rfl, hy1, hy2, hyc⟩ := hy
  have hl : l.length = n := by simpa using hxl
  have hr : r.length = m := by simpa using hyl
  unfold maxLen at hx2 hy2
  by_cases hnm : n = m
  · subst hnm
    clear hxl hyl
    have Hl := Lib.hid hl
    have Hr := Lib.hid hr
    clear hl hr
    go_enter Try.func12, Try.ntmps12
    go_wp2
    go_loopw [5] (fun i wr => ∃ k : Nat, i = .int .i64 (k : Int) ∧ k ≤ n ∧ Hid (l.take k = r.take k) ∧ ∃ q, wr = w.drewN q) (fun i _ => n - (intOf i).toNat)
    case atStart => exact ⟨0, rfl, Nat.zero_le _, Lib.hid (by simp), 0, rfl⟩
    case round =>
      obtain ⟨k, rfl, hk, Heq, q, rfl⟩ := hrel
      by_cases hlt : k < n
      · obtain ⟨b1, o1, rfl, hb1, h1⟩ := hxc (by omega)
        obtain ⟨b2, o2, rfl, hb2, h2⟩ := hyc (by omega)
        clear hxc hyc
        have c1 : w.cell? ⟨b1, o1 + k, none⟩ = some (bv (l.getD k 0)) := by
          have h3 : k < l.length := by have := Hl.out; omega
          rw [h1.at_ (by simp; omega)]; simp [List.getD_eq_getElem?_getD, List.getElem?_eq_getElem h3]
        have c2 : w.cell? ⟨b2, o2 + k, none⟩ = some (bv (r.getD k 0)) := by
          have h3 : k < r.length := by have := Hr.out; omega
          rw [h2.at_ (by simp; omega)]; simp [List.getD_eq_getElem?_getD, List.getElem?_eq_getElem h3]
        obtain ⟨x1, hc⟩ : ∃ x, l.getD k 0 = x := ⟨_, rfl⟩
        obtain ⟨x2, hd⟩ : ∃ x, r.getD k 0 = x := ⟨_, rfl⟩
        rw [hc] at c1
        rw [hd] at c2
        unfold bv at c1 c2
        have Hc := Lib.hid hc
        have Hd := Lib.hid hd
        clear hc hd h1 h2
        by_cases he : x1 = x2
        · have hb : ((x1.toNat : Int) != (x2.toNat : Int)) = false := by simp [he]
          have He := Lib.hid he
          clear he
          go_wp2
          go_quiet (fail)
          go_wp2
          go_roundw
          case rel => exact ⟨k + 1, by go_num, by omega, Lib.hid (take_step_eq (by rw [Hl.out]; omega) (by rw [Hr.out]; omega) Heq.out (by rw [Hc.out, Hd.out, He.out])), _, rfl⟩
          case measure => simp [intOf]; omega
        · have hb : ((x1.toNat : Int) != (x2.toNat : Int)) = true := by simp; exact fun h => he (UInt8.toNat_inj.1 (by omega))
          have He := Lib.hid he
          clear he
          go_wp2
          go_quiet (fail)
          go_wp2
          go_ret
          exact ⟨ret_bool (decide_eq_false (fun h => He.out (by rw [← Hc.out, ← Hd.out, h])) ).symm, _, World.drewN_drewN _ _ _⟩
      · clear hxc hyc
        go_wp2
        go_ret
        refine ⟨ret_bool (decide_eq_true ?_).symm, _, rfl⟩
        have h1 := Heq.out
        rwa [List.take_of_length_le (by rw [Hl.out]; omega), List.take_of_length_le (by rw [Hr.out]; omega)] at h1
  · have hne : ((n : Int) != (m : Int)) = true := by simp; omega
    have hf := Lib.hid (show decide (l = r) = false from decide_eq_false (fun h => by subst h; omega))
    clear hxl hyl hl hr hxc hyc
    go_enter Try.func12, Try.ntmps12
    go_wp2
    go_ret
    exact ⟨ret_bool hf.out.symm, 0, rfl⟩




theorem same_bytes_yes (x y : Value) (n m : Nat) (l r : List UInt8) (w : World) (hx : Rd w w.heap.size 1 x n (l.map bv)) (hy : Rd w w.heap.size 1 y m (r.map bv)) (h : l = r) :
    Calls Try.prog 12 #[x, y] w fun e w' => e = .returned (.bool true) ∧ Below w.heap.size w w' :=
  (same_bytes x y n m l r w hx hy).mono fun e w' ⟨he, k, hk⟩ => by
    rw [decide_eq_true h] at he
    exact ⟨he, by rw [hk]; exact below_drewN (Below.refl _ _) _⟩

theorem same_bytes_no (x y : Value) (n m : Nat) (l r : List UInt8) (w : World) (hx : Rd w w.heap.size 1 x n (l.map bv)) (hy : Rd w w.heap.size 1 y m (r.map bv)) (h : l ≠ r) :
    Calls Try.prog 12 #[x, y] w fun e w' => e = .returned (.bool false) ∧ Below w.heap.size w w' :=
  (same_bytes x y n m l r w hx hy).mono fun e w' ⟨he, k, hk⟩ => by
    rw [decide_eq_false h] at he
    exact ⟨he, by rw [hk]; exact below_drewN (Below.refl _ _) _⟩







end Go.Proofs.Ytckjhbmkhkholaa
