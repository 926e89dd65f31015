/- The example of the document's chapter 2; HeavyCerts, Heavy. -/
import Derived.Test.YtadaejpodjhkdaaPf
import Derived.Test.YtadaejpodjhkdaaCode2
namespace Go.Proofs.Ytadaejpodjhkdaa
open Go.RowKit
set_option linter.unusedVariables false

theorem bytes_read {w w' : World} {v : Value} {l : List UInt8} {base : Nat} (h : w.ownsRow base 5 1 v l.length (l.map bv)) (hb : Below w.heap.size w w') : Rd w' w'.heap.size 1 v l.length (l.map bv) :=
  Rd.of_own (own_below h hb)
theorem Keeps.on {w w' : World} (hb : Below w.heap.size w w') : Keeps (fun b => b < w.heap.size) (fun b => b < w'.heap.size) w w' := ⟨hb.size, fun b h _ => ⟨hb.block b h, Nat.lt_of_lt_of_le h hb.size⟩⟩
theorem Below.then {B : Nat} {w w' w'' : World} (h : Below B w w') (g : Below w'.heap.size w' w'') (hB : B ≤ w'.heap.size) : Below B w w'' := h.trans (g.mono hB)
theorem enc_wake : Psp.encL Psp.encV [⟨2, 300⟩] = [1, 2, 172, 2] := by
  simp [Psp.encL, Psp.encV, Psp.encN, Psp.num]
theorem ok_wake : Psp.okL Psp.okV [⟨2, 300⟩] = true := by decide

set_option maxRecDepth 100000 in
theorem wakes02 (w : World) : Calls Try.prog 12 #[] w fun e w' => e = .returned (.bool true) ∧ Below w.heap.size w w' := by
  have E := Lib.hid enc_wake
  have O := Lib.hid ok_wake
  go_enter Try.func12, Try.ntmps12
  go_wp2_with fail
  have hr : RdP (w.alloc (.cells #[.int .i64 2, .int .i64 300] 43)) (fun b => b < (w.alloc (.cells #[.int .i64 2, .int .i64 300] 43)).heap.size) 2 (.slice (some ⟨w.heap.size, 0, none⟩) 1 1) [(⟨2, 300⟩ : Psp.Vote)].length ([(⟨2, 300⟩ : Psp.Vote)].flatMap vt) :=
    ⟨rfl, _, 1, rfl, Nat.le_refl _, by unfold maxLen; omega, fun _ => ⟨w.heap.size, 0, rfl, by simp, by simp, lies_new w [.int .i64 2, .int .i64 300] _ _ rfl⟩⟩
  refine (pk_votes [⟨2, 300⟩] _ _ hr).mono ?_
  rintro e w1 ⟨v, rfl, hown, hbel⟩
  rw [O.out, if_pos rfl, E.out] at hown
  rw [O.out]
  have Hown := Lib.hid hown
  have Hbel := Lib.hid ((alloc_below w _).trans (hbel.mono (by simp)))
  clear hown hbel hr
  have hl : Rd (w1.alloc (.cells #[.int .u8 1, .int .u8 2, .int .u8 172, .int .u8 2] 5)) (w1.alloc (.cells #[.int .u8 1, .int .u8 2, .int .u8 172, .int .u8 2] 5)).heap.size 1 (.slice (some ⟨w1.heap.size, 0, none⟩) 4 4) 4 (([1, 2, 172, 2] : List UInt8).map bv) := (Rd.lits w1 #[.int .u8 1, .int .u8 2, .int .u8 172, .int .u8 2] 5 1 4 rfl (by unfold maxLen; omega)).more (by simp)
  have HL := Lib.hid hl
  clear hl
  go_wp2_with fail
  refine (same_bytes _ _ _ 4 [1, 2, 172, 2] [1, 2, 172, 2] _ (bytes_read Hown.out (alloc_below _ _)) HL.out).mono ?_
  rintro e w2 ⟨rfl, k, rfl⟩
  go_wp2_with fail
  go_ret
  exact ⟨rfl, below_drewN (Hbel.out.trans ((alloc_below w1 _).mono Hbel.out.size)) _⟩

/-- More certificates than are played. -/
def heavyC (l : List Psp.Cert) : Bool := decide (20 < l.length) || l.any fun c => decide (12 < c.b.length) || decide (30 < c.o.length)
theorem heavyC_no {l : List Psp.Cert} (h : heavyC l = false) : l.length ≤ 20 ∧ ∀ c ∈ l, c.b.length ≤ 12 ∧ c.o.length ≤ 30 := by
  unfold heavyC at h
  rw [Bool.or_eq_false_iff, decide_eq_false_iff_not, List.any_eq_false] at h
  refine ⟨by omega, fun c hc => ?_⟩
  have := h.2 c hc
  simp at this
  omega

set_option maxRecDepth 100000 in
theorem heavyC_any (x : Value) (l : List Psp.Cert) (w : World) (P : Nat → Prop) (hx : RdC w P x l) :
    Calls Try.prog 17 #[x] w fun e w' => e = .returned (.bool (heavyC l)) ∧ w = w' := by
  obtain ⟨L, hL, hx, hxL⟩ := hx
  obtain ⟨n, hn⟩ : ∃ n, L.length = n := ⟨_, rfl⟩
  rw [hn] at hx
  have hln : l.length = n := by rw [← hL, List.length_map]; exact hn
  obtain ⟨hxl, A, c, rfl, hx1, hx2, hxc⟩ := hx.parts
  have Hxc := Lib.hid hxc
  have Hn := Lib.hid hn
  have Hln := Lib.hid hln
  have HL := Lib.hid hL
  have HxL := Lib.hid hxL
  clear hxl hxc hn hx hln hL hxL
  by_cases h20 : 20 < n
  · have hv : heavyC l = true := by unfold heavyC; rw [Hln.out, decide_eq_true h20]; rfl
    have Hv := Lib.hid hv
    clear hv
    have d1 : decide (20 < (n : Int)) = true := by simp; omega
    go_enter Try.func17, Try.ntmps17
    go_wp2_with fail
    go_ret
    exact ⟨ret_bool Hv.out.symm, rfl⟩
  · have d1 : decide (20 < (n : Int)) = false := by simp; omega
    go_enter Try.func17, Try.ntmps17
    go_wp2_with fail
    go_loop [3] (fun i => ∃ k : Nat, i = .int .i64 (k : Int) ∧ k ≤ n ∧ Hid ((l.take k).any (fun c => decide (12 < c.b.length) || decide (30 < c.o.length)) = false)) (fun i => n - (intOf i).toNat)
    case atStart => exact ⟨0, rfl, Nat.zero_le _, Lib.hid rfl⟩
    case round =>
      obtain ⟨k, rfl, hk, Hany⟩ := hrel
      by_cases hlt : k < n
      · obtain ⟨b, o, hA1, hP1, hb1, h1⟩ := Hxc.out (by omega)
        subst hA1
        have hkL : k < L.length := by have := Hn.out; omega
        have hkl : k < l.length := by have := Hln.out; omega
        have r1 := range_elem (f := cv) (k := 5) (fun _ => rfl) h1 hkL
        have hok := HxL.out _ (List.getElem_mem hkL)
        have e1 : l[k] = L[k].c := by simp only [← HL.out, List.getElem_map]
        have hst : (l.take (k + 1)).any (fun c => decide (12 < c.b.length) || decide (30 < c.o.length)) = ((l.take k).any (fun c => decide (12 < c.b.length) || decide (30 < c.o.length)) || (decide (12 < l[k].b.length) || decide (30 < l[k].o.length))) := by
          rw [List.take_succ_eq_append_getElem hkl, List.any_append]; simp
        have hmem : (decide (12 < l[k].b.length) || decide (30 < l[k].o.length)) = true → heavyC l = true := fun h => by
          unfold heavyC
          rw [Bool.or_eq_true]
          exact Or.inr (List.any_eq_true.2 ⟨l[k], List.getElem_mem hkl, h⟩)
        rw [e1] at hst hmem
        obtain ⟨t, ht⟩ : ∃ r, L[k] = r := ⟨_, rfl⟩
        rw [ht] at r1 hok hst hmem
        have y3 := r1 3 _ rfl
        have y4 := r1 4 _ rfl
        obtain ⟨nb, hnb⟩ : ∃ m, t.c.b.length = m := ⟨_, rfl⟩
        obtain ⟨no, hno⟩ : ∃ m, t.c.o.length = m := ⟨_, rfl⟩
        obtain ⟨_, A3, c3, e3, _, c3b, _⟩ := hok.1.parts
        obtain ⟨_, A4, c4, e4, _, c4b, _⟩ := hok.2.parts
        rw [e3, hnb] at y3
        rw [e4, hno] at y4
        rw [hnb, hno] at hst hmem
        have Hst := Lib.hid hst
        have Hmem := Lib.hid hmem
        clear hok e1 e3 e4 ht hnb hno h1 hkL hkl r1 hst hmem
        by_cases q1 : 12 < nb
        · have d2 : decide (12 < (nb : Int)) = true := by simp; omega
          go_wp2_with fail
          go_ret
          exact ⟨ret_bool (Hmem.out (by rw [decide_eq_true q1]; rfl)).symm, rfl⟩
        · have d2 : decide (12 < (nb : Int)) = false := by simp; omega
          by_cases q2 : 30 < no
          · have d3 : decide (30 < (no : Int)) = true := by simp; omega
            go_wp2_with fail
            go_ret
            exact ⟨ret_bool (Hmem.out (by rw [decide_eq_true q2]; simp)).symm, rfl⟩
          · have d3 : decide (30 < (no : Int)) = false := by simp; omega
            go_wp2_with fail
            go_round
            case rel => exact ⟨k + 1, by go_num, by omega, Lib.hid (by rw [Hst.out, Hany.out, decide_eq_false q1, decide_eq_false q2]; rfl)⟩
            case measure => simp [intOf]; omega
      · have hv : heavyC l = false := by
          have h1 := Hany.out
          rw [List.take_of_length_le (by rw [Hln.out]; omega)] at h1
          unfold heavyC
          rw [Hln.out, decide_eq_false h20, h1]; rfl
        have Hv := Lib.hid hv
        clear hv
        go_wp2_with fail
        go_ret
        exact ⟨ret_bool Hv.out.symm, rfl⟩

end Go.Proofs.Ytadaejpodjhkdaa
