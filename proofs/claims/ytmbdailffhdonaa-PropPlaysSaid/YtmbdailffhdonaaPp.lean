/- Both tables side by side; the walk of psephoslaw13.do (gen_pp.py). -/
import Derived.Test.YtmbdailffhdonaaPcl
import Derived.Test.YtmbdailffhdonaaOpenAct
import Derived.Test.YtmbdailffhdonaaOpen
namespace Go.Proofs.Ytmbdailffhdonaa
open Go.RowKit
set_option linter.unusedVariables false
set_option linter.unusedSimpArgs false

/-- The program's table at g (blocks S), the document's at h: both hold m. -/
structure Pp (w : World) (S : Nat → Prop) (g h : Nat) (f cl : Int) (m : List Psp.TR) : Prop where
  tab : Tab w S g f cl (m.map (Psp.tw f))
  ref : ∃ A c L, usOf L = m ∧ Rtc w (Off w S h) h f cl A c L
  off : ¬ S h
  wm : Psp.Wm f m
theorem Rtc.prog {w w' : World} {S S' : Nat → Prop} {h : Nat} {f cl : Int} {A : Option Addr} {c : Nat} {L : List TRV} (H : Rtc w (Off w S h) h f cl A c L) (hf : Fp S w w') (hn : ¬ S h) (hs : ∀ k, S' k → S k ∨ w.heap.size ≤ k) : Rtc w' (Off w' S' h) h f cl A c L :=
  ⟨(hf.block h H.lt hn).trans H.row, H.rd.keep ⟨hf.size, fun b hb hlt => ⟨hf.block b hlt hb.2.1, hb.seal hf hs⟩⟩⟩
theorem Pp.lt {w : World} {S : Nat → Prop} {g h : Nat} {f cl : Int} {m : List Psp.TR} (H : Pp w S g h f cl m) : h < w.heap.size := by
  obtain ⟨A, c, L, e, hR⟩ := H.ref
  exact hR.lt
theorem Pp.below {w w' : World} {S : Nat → Prop} {g h : Nat} {f cl : Int} {m : List Psp.TR} (H : Pp w S g h f cl m) (hb : Below w.heap.size w w') : Pp w' S g h f cl m := by
  obtain ⟨A, c, L, e, hR⟩ := H.ref
  exact ⟨H.tab.below hb, ⟨A, c, L, e, (hR.below hb).off hb⟩, H.off, H.wm⟩
/-- What do leaves. -/
structure Did (w w' : World) (S : Nat → Prop) (g h : Nat) (f cl : Int) (m : List Psp.TR) : Prop where
  ex : ∃ S' m', Pp w' S' g h f cl m' ∧ m'.length ≤ m.length + 1 ∧ ∀ k, S' k → S k ∨ w.heap.size ≤ k
  fp : Fp (fun k => S k ∨ k = h) w w'

set_option maxRecDepth 100000 in
set_option maxHeartbeats 4000000 in
theorem pdo_m (a : Psp.Act) (ha : wfAct a) (S : Nat → Prop) (g h : Nat) (f cl : Int) (m : List Psp.TR) (w : World) (H : Pp w S g h f cl m) (hf : 1 ≤ f ∧ f ≤ 4) (hm : m.length + 1 ≤ 100000) :
    Calls Try.prog 22 #[.pointer (some ⟨g, 0, none⟩), .pointer (some ⟨h, 0, none⟩), .agg #[.int .i64 a.d, .int .i64 a.node, .int .i64 a.clock, .int .i64 a.client, .int .i64 a.n, .int .i64 a.r.c, .int .i64 a.r.t, .int .i64 a.r.k, .int .i64 a.r.y, .int .i64 a.r.v, .int .i64 a.r.s]] w fun e w' => e = .returned (.bool true) ∧ Did w w' S g h f cl m := by
  obtain ⟨⟨d1, d2⟩, ⟨n1, n2⟩, -, ⟨c1, c2⟩, ⟨t1, t2⟩, -⟩ := ha
  have hba := alloc_below w (.cells #[.int .i64 a.d, .int .i64 a.node, .int .i64 a.clock, .int .i64 a.client, .int .i64 a.n, .int .i64 a.r.c, .int .i64 a.r.t, .int .i64 a.r.k, .int .i64 a.r.y, .int .i64 a.r.v, .int .i64 a.r.s] 51)
  have hrow := heap_alloc_new w (.cells #[.int .i64 a.d, .int .i64 a.node, .int .i64 a.clock, .int .i64 a.client, .int .i64 a.n, .int .i64 a.r.c, .int .i64 a.r.t, .int .i64 a.r.k, .int .i64 a.r.y, .int .i64 a.r.v, .int .i64 a.r.s] 51)
  have hz0 : (w.alloc (.cells #[.int .i64 a.d, .int .i64 a.node, .int .i64 a.clock, .int .i64 a.client, .int .i64 a.n, .int .i64 a.r.c, .int .i64 a.r.t, .int .i64 a.r.k, .int .i64 a.r.y, .int .i64 a.r.v, .int .i64 a.r.s] 51)).heap.size = w.heap.size + 1 := by simp
  have hw : 0 < Psp.weak f := by unfold Psp.weak; omega
  have HP0 := Lib.hid (H.below hba)
  have HB0 := Lib.hid hba
  have HRow := Lib.hid hrow
  have HH := Lib.hid H
  have HZ0 := Lib.hid hz0
  have HM := Lib.hid hm
  obtain ⟨z, hz⟩ : ∃ z, Psp.within a.d 6 = z := ⟨_, rfl⟩
  have HWi : Hid (∀ W : World, Calls Try.prog 9 #[.int .i64 a.d, .int .i64 6] W fun e w' => e = .returned (.int .i64 z) ∧ w' = W) := Lib.hid fun W => by rw [← hz]; exact (within_any a.d 6 W (by omega) (by omega) (by omega) (by omega)).mono fun _ _ h => ⟨h.1, h.2.symm⟩
  have HWj := HWi
  clear hz hba hrow hz0 H hm
  by_cases hd : z < 5
  · have hd1 : decide (z < 5) = true := decide_eq_true hd
    clear hd
    go_enter Try.func22, Try.ntmps22
    go_upto_region 2 with (go_at_call 9; refine (HWi.out _).mono ?_; rintro e w' ⟨rfl, rfl⟩)
    obtain ⟨hput, hWm, hlen⟩ := Psp.put_tw (cl := cl) hw HH.out.wm a.r a.node a.clock
    obtain ⟨P, hP⟩ : ∃ P, Psp.putM f cl m a.r a.node a.clock = P := ⟨_, rfl⟩
    obtain ⟨⟨x, y, z5⟩, m'⟩ := P
    rw [hP] at hput hWm hlen
    simp only at hput hWm hlen
    have HR0 : Hid ((w.alloc (.cells #[.int .i64 a.d, .int .i64 a.node, .int .i64 a.clock, .int .i64 a.client, .int .i64 a.n, .int .i64 a.r.c, .int .i64 a.r.t, .int .i64 a.r.k, .int .i64 a.r.y, .int .i64 a.r.v, .int .i64 a.r.s] 51)).rangeAt w.heap.size 5 (rq a.r)) := Lib.hid fun j v hv => by
      have := range_of_row HRow.out (5 + j) v (by
        show ([iv a.d, iv a.node, iv a.clock, iv a.client, iv a.n] ++ rq a.r)[5 + j]? = some v
        rw [List.getElem?_append_right (by simp)]
        simpa using hv)
      rwa [Nat.zero_add] at this
    have HPut := Lib.hid hput
    have HWm := Lib.hid hWm
    have HLen := Lib.hid hlen
    have HPM := Lib.hid hP
    clear hput hWm hlen hP
    have HPA : Hid (Calls Try.prog 12 #[.pointer (some ⟨g, 0, none⟩), .agg (rq a.r).toArray, .int .i64 a.node, .int .i64 a.clock] (w.alloc (.cells #[.int .i64 a.d, .int .i64 a.node, .int .i64 a.clock, .int .i64 a.client, .int .i64 a.n, .int .i64 a.r.c, .int .i64 a.r.t, .int .i64 a.r.k, .int .i64 a.r.y, .int .i64 a.r.v, .int .i64 a.r.s] 51)) fun e w' => e = .returned (.tuple #[.bool x, .bool y, .int .i64 z5]) ∧ Tab w' (fun k => S k ∨ ((w.alloc (.cells #[.int .i64 a.d, .int .i64 a.node, .int .i64 a.clock, .int .i64 a.client, .int .i64 a.n, .int .i64 a.r.c, .int .i64 a.r.t, .int .i64 a.r.k, .int .i64 a.r.y, .int .i64 a.r.v, .int .i64 a.r.s] 51)).heap.size ≤ k ∧ k < w'.heap.size)) g f cl (m'.map (Psp.tw f)) ∧ Fp S (w.alloc (.cells #[.int .i64 a.d, .int .i64 a.node, .int .i64 a.clock, .int .i64 a.client, .int .i64 a.n, .int .i64 a.r.c, .int .i64 a.r.t, .int .i64 a.r.k, .int .i64 a.r.y, .int .i64 a.r.v, .int .i64 a.r.s] 51)) w') := Lib.hid (by
      have h_ := put_all a.r a.node a.clock S g f cl _ _ HP0.out.tab (by have := HM.out; simpa using this)
      rw [HPut.out] at h_
      exact h_)
    go_upto_region 3 with (first | (refine list_load rfl 25 (.tmp 19) rfl w.heap.size 5 rfl (rq a.r) _ HR0.out Try.underlying25 rfl size_rq ?_) | (go_at_call 12; refine HPA.out.mono ?_; rintro e w1 ⟨rfl, hT1, hF1⟩))
    have hN1 : ¬ S w.heap.size := fun h_ => by have := HH.out.tab.lt _ h_; omega
    have hrow1 : w1.heap[w.heap.size]? = some (.cells #[.int .i64 a.d, .int .i64 a.node, .int .i64 a.clock, .int .i64 a.client, .int .i64 a.n, .int .i64 a.r.c, .int .i64 a.r.t, .int .i64 a.r.k, .int .i64 a.r.y, .int .i64 a.r.v, .int .i64 a.r.s] 51 (0, 0)) := (hF1.block w.heap.size (by have := HZ0.out; omega) hN1).trans HRow.out
    obtain ⟨S1, hS1⟩ : ∃ S1 : Nat → Prop, S1 = fun k => S k ∨ ((w.alloc (.cells #[.int .i64 a.d, .int .i64 a.node, .int .i64 a.clock, .int .i64 a.client, .int .i64 a.n, .int .i64 a.r.c, .int .i64 a.r.t, .int .i64 a.r.k, .int .i64 a.r.y, .int .i64 a.r.v, .int .i64 a.r.s] 51)).heap.size ≤ k ∧ k < w1.heap.size) := ⟨_, rfl⟩
    rw [← hS1] at hT1
    have hs1 : ∀ k, S1 k → S k ∨ w.heap.size + 1 ≤ k := fun k hk => by
      rw [hS1, HZ0.out] at hk
      rcases hk with hk | hk
      · exact .inl hk
      · exact .inr hk.1
    clear hS1
    obtain ⟨A0, c0, L0, e0, hR0⟩ := HP0.out.ref
    have hR1 : Rtc w1 (Off w1 S1 h) h f cl A0 c0 L0 := hR0.prog hF1 HH.out.off (fun k hk => by rw [HZ0.out]; exact hs1 k hk)
    have hlth := HH.out.lt
    have hh1 : ¬ S1 h := fun h_ => by
      rcases hs1 h h_ with hk | hk
      · exact HH.out.off hk
      · omega
    have HRp : Hid (Calls Try.prog 31 #[.pointer (some ⟨h, 0, none⟩), .agg (rq a.r).toArray, .int .i64 a.node, .int .i64 a.clock] w1 fun e w' => e = .returned (.tuple #[.bool x, .bool y, .int .i64 z5]) ∧ (∃ A' c' L', usOf L' = m' ∧ Rtc w' (Off w' S1 h) h f cl A' c' L') ∧ Fp (fun b => b = h) w1 w') := Lib.hid (by
      have hl0 : L0.length ≤ 100000 := by
        have h1 : L0.length = m.length := by rw [← e0]; simp [usOf]
        have := HM.out
        omega
      have h_ := rput_m a.r a.node a.clock S1 h f cl A0 c0 L0 w1 hR1 (by rw [e0]; exact HH.out.wm) hf hl0 hT1.lt
      rw [e0, HPM.out] at h_
      exact h_)
    have HR1 : Hid (w1.rangeAt w.heap.size 5 (rq a.r)) := Lib.hid fun j v hv => by
      have := range_of_row hrow1 (5 + j) v (by
        show ([iv a.d, iv a.node, iv a.clock, iv a.client, iv a.n] ++ rq a.r)[5 + j]? = some v
        rw [List.getElem?_append_right (by simp)]
        simpa using hv)
      rwa [Nat.zero_add] at this
    have f1 : w1.cell? ⟨w.heap.size, 1, none⟩ = some (.int .i64 a.node) := row_c hrow1 1 rfl
    have f2 : w1.cell? ⟨w.heap.size, 2, none⟩ = some (.int .i64 a.clock) := row_c hrow1 2 rfl
    have HFa : Hid (Fp (fun k => S k ∨ k = h) w w1) := Lib.hid ((Fp.of_below HB0.out (fun k => S k ∨ k = h)).trans hF1 (fun k hk => .inl (.inl hk)))
    have HT1 := Lib.hid hT1
    have HRow1 := Lib.hid hrow1
    have Hs1 := Lib.hid hs1
    have Hh1 := Lib.hid hh1
    have Hlth := Lib.hid hlth
    have Hz1 : Hid (w.heap.size < w1.heap.size) := Lib.hid (by have := hF1.size; have := HZ0.out; omega)
    clear hT1 hF1 hrow1 hs1 hR1 hR0 hlth hh1 hN1 e0
    go_upto_region 4 with (first | (refine list_load rfl 25 (.tmp 31) rfl w.heap.size 5 rfl (rq a.r) _ HR1.out Try.underlying25 rfl size_rq ?_) | (go_at_call 31; refine HRp.out.mono ?_; rintro e w2 ⟨rfl, hex2, hF2⟩))
    clear f1 f2
    obtain ⟨A2, c2, L2, e2, hR2⟩ := hex2
    have hrow2 : w2.heap[w.heap.size]? = some (.cells #[.int .i64 a.d, .int .i64 a.node, .int .i64 a.clock, .int .i64 a.client, .int .i64 a.n, .int .i64 a.r.c, .int .i64 a.r.t, .int .i64 a.r.k, .int .i64 a.r.y, .int .i64 a.r.v, .int .i64 a.r.s] 51 (0, 0)) := (hF2.block w.heap.size Hz1.out (fun he => by have := Hlth.out; omega)).trans HRow1.out
    have hT2 : Tab w2 S1 g f cl (m'.map (Psp.tw f)) := HT1.out.fp hF2 (fun k hk he => by subst he; exact Hh1.out hk)
    have HPp : Hid (Pp w2 S1 g h f cl m') := Lib.hid ⟨hT2, ⟨A2, c2, L2, e2, hR2⟩, Hh1.out, HWm.out⟩
    have HF2 : Hid (Fp (fun k => S k ∨ k = h) w w2) := Lib.hid (HFa.out.trans hF2 (fun k hk => .inl (.inr hk)))
    obtain ⟨q, hq⟩ : ∃ q, Psp.hasM m' a.r a.node = q := ⟨_, rfl⟩
    have HHa : Hid (∀ p : Later w2, Calls Try.prog 21 #[.pointer (some ⟨g, 0, none⟩), .agg (rq a.r).toArray, .int .i64 a.node] p.W fun e w' => e = .returned (.bool q) ∧ Below p.W.heap.size p.W w') := Lib.hid fun p => by
      have h_ := has_tab a.r a.node n1 n2 S1 g f cl _ p.W (hT2.below p.h)
      rw [Psp.has_tw HWm.out, hq] at h_
      exact h_
    have HHr : Hid (∀ p : Later w2, Calls Try.prog 32 #[.pointer (some ⟨h, 0, none⟩), .agg (rq a.r).toArray, .int .i64 a.node] p.W fun e w' => e = .returned (.bool q) ∧ Below p.W.heap.size p.W w') := Lib.hid fun p => by
      have h_ := rthas_m a.r a.node _ h f cl A2 c2 L2 p.W (hR2.below p.h) (by rw [e2]; exact HWm.out.sorted)
      rw [e2, hq] at h_
      exact h_
    have HR2 : Hid (∀ w' : World, (∃ p : Later w2, w' = p.W) → w'.rangeAt w.heap.size 5 (rq a.r)) := Lib.hid (by
      rintro w' ⟨p, rfl⟩ j v hv
      have hlt2 : w.heap.size < w2.heap.size := (Array.getElem?_eq_some_iff.1 hrow2).1
      have := range_of_row ((p.h.block _ hlt2).trans hrow2) (5 + j) v (by
        show ([iv a.d, iv a.node, iv a.clock, iv a.client, iv a.n] ++ rq a.r)[5 + j]? = some v
        rw [List.getElem?_append_right (by simp)]
        simpa using hv)
      rwa [Nat.zero_add] at this)
    have l1 := later_cell (w := w2) (show w2.cell? ⟨w.heap.size, 1, none⟩ = some (.int .i64 a.node) from row_c hrow2 1 rfl)
    clear hrow2 hT2 hR2 hF2 hq e2
    refine wp_region_later (by kernel_rfl) (by kernel_rfl) ?_
    repeat ((with_reducible show wpQuiet _ _ _ _ _ _); first | ((with_reducible refine wpQuiet_bare ?_ ?_); (· rfl)) | go_big_quiet_step (first | (go_at_call 21; exact later_call _ (HHa.out _)) | (go_at_call 32; exact later_call _ (HHr.out _))) | (refine quiet_load (by simp [Region.wanted, yielded]) 25 (.tmp 56) (by rfl) w.heap.size 5 (by rfl) (rq a.r) _ HR2.out Try.underlying25 rfl size_rq ?_; intro K hK; go_simp; refine hK _ ?_; clear hK K) | (refine quiet_load (by simp [Region.wanted, yielded]) 25 (.tmp 62) (by rfl) w.heap.size 5 (by rfl) (rq a.r) _ HR2.out Try.underlying25 rfl size_rq ?_; intro K hK; go_simp; refine hK _ ?_; clear hK K) | quiet_step (first | (go_at_call 21; exact later_call _ (HHa.out _)) | (go_at_call 32; exact later_call _ (HHr.out _))))
    refine wpQuiet_nil ?_
    intro w3 hw'
    have hb3 := later_out hw'
    clear hw' l1
    have HB3 := Lib.hid hb3
    clear hb3
    go_wp2_with fail
    go_ret
    exact ⟨rfl, ⟨⟨S1, m', HPp.out.below HB3.out, HLen.out, fun k hk => by
      rcases Hs1.out k hk with h_ | h_
      · exact .inl h_
      · exact .inr (by omega)⟩, HF2.out.below HB3.out⟩⟩
  · have hd1 : decide (z < 5) = false := decide_eq_false hd
    clear hd HWi
    have HWi : Hid (∀ W : World, Calls Try.prog 9 #[.int .i64 a.d, .int .i64 6] W fun e w' => e = .returned (.int .i64 z) ∧ w' = W) := HWj
    go_enter Try.func22, Try.ntmps22
    go_upto_region 5 with (go_at_call 9; refine (HWi.out _).mono ?_; rintro e w' ⟨rfl, rfl⟩)
    have hrd : (w.alloc (.cells #[.int .i64 a.d, .int .i64 a.node, .int .i64 a.clock, .int .i64 a.client, .int .i64 a.n, .int .i64 a.r.c, .int .i64 a.r.t, .int .i64 a.r.k, .int .i64 a.r.y, .int .i64 a.r.v, .int .i64 a.r.s] 51)).drew.heap[w.heap.size]? = some (.cells #[.int .i64 a.d, .int .i64 a.node, .int .i64 a.clock, .int .i64 a.client, .int .i64 a.n, .int .i64 a.r.c, .int .i64 a.r.t, .int .i64 a.r.k, .int .i64 a.r.y, .int .i64 a.r.v, .int .i64 a.r.s] 51 (0, 0)) := HRow.out
    have l3 := laterF_cell (w := (w.alloc (.cells #[.int .i64 a.d, .int .i64 a.node, .int .i64 a.clock, .int .i64 a.client, .int .i64 a.n, .int .i64 a.r.c, .int .i64 a.r.t, .int .i64 a.r.k, .int .i64 a.r.y, .int .i64 a.r.v, .int .i64 a.r.s] 51)).drew) (T := fun b => b ≠ w.heap.size) (show (w.alloc (.cells #[.int .i64 a.d, .int .i64 a.node, .int .i64 a.clock, .int .i64 a.client, .int .i64 a.n, .int .i64 a.r.c, .int .i64 a.r.t, .int .i64 a.r.k, .int .i64 a.r.y, .int .i64 a.r.v, .int .i64 a.r.s] 51)).drew.cell? ⟨w.heap.size, 3, none⟩ = some (.int .i64 a.client) from row_c hrd 3 rfl) (fun hh => hh rfl)
    have l4 := laterF_cell (w := (w.alloc (.cells #[.int .i64 a.d, .int .i64 a.node, .int .i64 a.clock, .int .i64 a.client, .int .i64 a.n, .int .i64 a.r.c, .int .i64 a.r.t, .int .i64 a.r.k, .int .i64 a.r.y, .int .i64 a.r.v, .int .i64 a.r.s] 51)).drew) (T := fun b => b ≠ w.heap.size) (show (w.alloc (.cells #[.int .i64 a.d, .int .i64 a.node, .int .i64 a.clock, .int .i64 a.client, .int .i64 a.n, .int .i64 a.r.c, .int .i64 a.r.t, .int .i64 a.r.k, .int .i64 a.r.y, .int .i64 a.r.v, .int .i64 a.r.s] 51)).drew.cell? ⟨w.heap.size, 4, none⟩ = some (.int .i64 a.n) from row_c hrd 4 rfl) (fun hh => hh rfl)
    clear hrd
    obtain ⟨A0, c0, L0, e0, hR0⟩ := HP0.out.ref
    have hbd : Below (w.alloc (.cells #[.int .i64 a.d, .int .i64 a.node, .int .i64 a.clock, .int .i64 a.client, .int .i64 a.n, .int .i64 a.r.c, .int .i64 a.r.t, .int .i64 a.r.k, .int .i64 a.r.y, .int .i64 a.r.v, .int .i64 a.r.s] 51)).heap.size (w.alloc (.cells #[.int .i64 a.d, .int .i64 a.node, .int .i64 a.clock, .int .i64 a.client, .int .i64 a.n, .int .i64 a.r.c, .int .i64 a.r.t, .int .i64 a.r.k, .int .i64 a.r.y, .int .i64 a.r.v, .int .i64 a.r.s] 51)) (w.alloc (.cells #[.int .i64 a.d, .int .i64 a.node, .int .i64 a.clock, .int .i64 a.client, .int .i64 a.n, .int .i64 a.r.c, .int .i64 a.r.t, .int .i64 a.r.k, .int .i64 a.r.y, .int .i64 a.r.v, .int .i64 a.r.s] 51)).drew := (Below.refl _ _).drew
    obtain ⟨q, hq⟩ : ∃ q, m.length - (Psp.dropM a.client a.n m).length = q := ⟨_, rfl⟩
    have hl0 : L0.length = m.length := by rw [← e0]; simp [usOf]
    have hld : (dropV a.client a.n L0).length = (Psp.dropM a.client a.n m).length := by
      have h1 := congrArg List.length (us_drop a.client a.n L0)
      rw [e0] at h1
      rw [← h1]; simp [usOf]
    have HDa : Hid (Calls Try.prog 16 #[.pointer (some ⟨g, 0, none⟩), .int .i64 a.client, .int .i64 a.n] (w.alloc (.cells #[.int .i64 a.d, .int .i64 a.node, .int .i64 a.clock, .int .i64 a.client, .int .i64 a.n, .int .i64 a.r.c, .int .i64 a.r.t, .int .i64 a.r.k, .int .i64 a.r.y, .int .i64 a.r.v, .int .i64 a.r.s] 51)).drew fun e w' => e = .returned (.int .i64 (q : Int)) ∧ Tab w' (fun k => S k ∨ ((w.alloc (.cells #[.int .i64 a.d, .int .i64 a.node, .int .i64 a.clock, .int .i64 a.client, .int .i64 a.n, .int .i64 a.r.c, .int .i64 a.r.t, .int .i64 a.r.k, .int .i64 a.r.y, .int .i64 a.r.v, .int .i64 a.r.s] 51)).drew.heap.size ≤ k ∧ k < w'.heap.size)) g f cl ((Psp.dropM a.client a.n m).map (Psp.tw f)) ∧ Fp S (w.alloc (.cells #[.int .i64 a.d, .int .i64 a.node, .int .i64 a.clock, .int .i64 a.client, .int .i64 a.n, .int .i64 a.r.c, .int .i64 a.r.t, .int .i64 a.r.k, .int .i64 a.r.y, .int .i64 a.r.v, .int .i64 a.r.s] 51)).drew w') := Lib.hid (by
      have h_ := drop_tab a.client a.n S g f cl _ _ (HP0.out.tab.below hbd)
      rw [drop_tw, List.length_map, List.length_map, hq] at h_
      exact h_)
    have Hl0 := Lib.hid hl0
    have Hld := Lib.hid hld
    have He0 := Lib.hid e0
    have HQ := Lib.hid hq
    have HRd := Lib.hid ((hR0.below hbd).off hbd)
    have HBd := Lib.hid hbd
    have Hlth := Lib.hid HH.out.lt
    clear hbd hq hl0 hld e0 hR0
    refine wp_region_phasesF (fun b => b ≠ w.heap.size) [(true, 0), (true, 1), (true, 2), (true, 3), (true, 4), (true, 6), (true, 7), (true, 8), (true, 9), (true, 10), (false, 5), (false, 11), (true, 12), (true, 13)] (by kernel_rfl) (by kernel_rfl) ?_
    simp only [phS, List.getElem?_cons_zero, List.getElem?_cons_succ, Option.toList, List.length_cons, List.length_nil, Nat.reduceAdd, List.drop_succ_cons, List.drop_zero]
    repeat (first | go_big_quiet_step (fail) | quiet_step (fail) | refine wpQuiet_nil ?_)
    clear l3 l4
    go_wp2_with (go_at_call 16; refine HDa.out.mono ?_; rintro e w1 ⟨rfl, hT1, hF1⟩)
    have hN1 : ¬ S w.heap.size := fun h_ => by have := HH.out.tab.lt _ h_; omega
    refine And.intro ⟨⟨w1, hF1.mono fun k _ hk he => hN1 (he ▸ hk)⟩, rfl⟩ ?_
    have hzd : (w.alloc (.cells #[.int .i64 a.d, .int .i64 a.node, .int .i64 a.clock, .int .i64 a.client, .int .i64 a.n, .int .i64 a.r.c, .int .i64 a.r.t, .int .i64 a.r.k, .int .i64 a.r.y, .int .i64 a.r.v, .int .i64 a.r.s] 51)).drew.heap.size = w.heap.size + 1 := HZ0.out
    obtain ⟨S1, hS1⟩ : ∃ S1 : Nat → Prop, S1 = fun k => S k ∨ ((w.alloc (.cells #[.int .i64 a.d, .int .i64 a.node, .int .i64 a.clock, .int .i64 a.client, .int .i64 a.n, .int .i64 a.r.c, .int .i64 a.r.t, .int .i64 a.r.k, .int .i64 a.r.y, .int .i64 a.r.v, .int .i64 a.r.s] 51)).drew.heap.size ≤ k ∧ k < w1.heap.size) := ⟨_, rfl⟩
    rw [← hS1] at hT1
    have hs1 : ∀ k, S1 k → S k ∨ w.heap.size + 1 ≤ k := fun k hk => by
      rw [hS1, hzd] at hk
      rcases hk with hk | hk
      · exact .inl hk
      · exact .inr hk.1
    clear hS1
    have hR1 : Rtc w1 (Off w1 S1 h) h f cl A0 c0 L0 := HRd.out.prog hF1 HH.out.off (fun k hk => by rw [hzd]; exact hs1 k hk)
    have hh1 : ¬ S1 h := fun h_ => by
      have := Hlth.out
      rcases hs1 h h_ with hk | hk
      · exact HH.out.off hk
      · omega
    have HDr : Hid (Calls Try.prog 33 #[.pointer (some ⟨h, 0, none⟩), .int .i64 a.client, .int .i64 a.n] w1 fun e w' => e = .returned (.int .i64 (q : Int)) ∧ (∃ A' c', Rtc w' (Off w' S1 h) h f cl A' c' (dropV a.client a.n L0)) ∧ Fp (fun b => b = h) w1 w') := Lib.hid (by
      have h_ := rdrop_m a.client a.n S1 h f cl A0 c0 L0 w1 hR1 (by have := HM.out; have := Hl0.out; omega) hT1.lt
      rw [Hld.out, Hl0.out, HQ.out] at h_
      exact h_)
    have HFa : Hid (Fp (fun k => S k ∨ k = h) w w1) := Lib.hid (((Fp.of_below (HB0.out.drew) (fun k => S k ∨ k = h))).trans hF1 (fun k hk => .inl (.inl hk)))
    have HFd : Hid (Fp (fun b => b ≠ w.heap.size) (w.alloc (.cells #[.int .i64 a.d, .int .i64 a.node, .int .i64 a.clock, .int .i64 a.client, .int .i64 a.n, .int .i64 a.r.c, .int .i64 a.r.t, .int .i64 a.r.k, .int .i64 a.r.y, .int .i64 a.r.v, .int .i64 a.r.s] 51)).drew w1) := Lib.hid (hF1.mono fun k _ hk he => hN1 (he ▸ hk))
    have HT1 := Lib.hid hT1
    have Hs1 := Lib.hid hs1
    have Hh1 := Lib.hid hh1
    clear hT1 hF1 hs1 hR1 hh1 hN1 hzd
    repeat (first | go_big_quiet_step (fail) | quiet_step (fail) | refine wpQuiet_nil ?_)
    go_wp2_with (go_at_call 33; refine HDr.out.mono ?_; rintro e w2 ⟨rfl, hex2, hF2⟩)
    refine And.intro ⟨⟨w2, HFd.out.trans hF2 fun k hk => .inl (by have := Hlth.out; omega)⟩, rfl⟩ ?_
    obtain ⟨A2, c2, hR2⟩ := hex2
    have hT2 : Tab w2 S1 g f cl ((Psp.dropM a.client a.n m).map (Psp.tw f)) := HT1.out.fp hF2 (fun k hk he => by subst he; exact Hh1.out hk)
    have HPp : Hid (Pp w2 S1 g h f cl (Psp.dropM a.client a.n m)) := Lib.hid ⟨hT2, ⟨A2, c2, _, by rw [us_drop, He0.out], hR2⟩, Hh1.out, HH.out.wm.drop _ _⟩
    have HF2 : Hid (Fp (fun k => S k ∨ k = h) w w2) := Lib.hid (HFa.out.trans hF2 (fun k hk => .inl (.inr hk)))
    clear hT2 hR2 hF2
    repeat (first | go_big_quiet_step (fail) | quiet_step (fail) | refine wpQuiet_nil ?_)
    go_wp2_with fail
    go_ret
    exact ⟨rfl, ⟨⟨S1, _, HPp.out, Nat.le_trans (List.length_filter_le _ _) (Nat.le_succ _), fun k hk => by
      rcases Hs1.out k hk with h_ | h_
      · exact .inl h_
      · exact .inr (by omega)⟩, HF2.out⟩⟩
end Go.Proofs.Ytmbdailffhdonaa
