/- A client's small methods. Printed by gen_cl2.py. -/
import Derived.Test.YtipmjleohadoeaaGreatClSa
import Derived.Test.YtipmjleohadoeaaGreatGgSa
import Derived.Test.YtipmjleohadoeaaGreatJ22Sa
namespace Go.Proofs.YtipmjleohadoeaaGreat
open Go.RowKit
set_option linter.unusedVariables false
set_option linter.unusedSimpArgs false

theorem cwin_any (n lo hi : Int) (w : World) : Calls Tryz.prog 53 #[.int .i64 n, .int .i64 lo, .int .i64 hi] w fun e w' => e = .returned (.bool (Psp.win n lo hi)) ∧ w = w' := by
  by_cases h1 : lo ≤ n
  · have d1 : decide (n ≥ lo) = true := decide_eq_true h1
    by_cases h2 : n ≤ hi
    · go_enter Tryz.func53, Tryz.ntmps53
      go_wp2_with fail
      go_ret
      exact ⟨by simp [Psp.win, h1, h2], rfl⟩
    · go_enter Tryz.func53, Tryz.ntmps53
      go_wp2_with fail
      go_ret
      exact ⟨by simp [Psp.win, h2], rfl⟩
  · have d1 : decide (n ≥ lo) = false := decide_eq_false h1
    go_enter Tryz.func53, Tryz.ntmps53
    go_wp2_with fail
    go_ret
    exact ⟨by rw [(Psp.win_no n lo hi).2 (by omega)]; rfl, rfl⟩

theorem sizeCf : (Tryz.prog.info? 37).map (·.size) = some 15 := by kernel_rfl
set_option maxRecDepth 100000 in
theorem std_any (f : Int) (w : World) : Calls Tryz.prog 11 #[.int .i64 f] w fun e w' => e = .returned (.agg #[.int .i64 f, .int .i64 2, .int .i64 2, .int .i64 4, .int .i64 64, .int .i64 8, .int .i64 8, .int .i64 8, .int .i64 1, .int .i64 2, .int .i64 12, .int .i64 8, .int .i64 6, .int .i64 2, .int .i64 6]) ∧ Below w.heap.size w w' := by
  have hba := alloc_below w (.cells #[.int .i64 0, .int .i64 0, .int .i64 0, .int .i64 0, .int .i64 0, .int .i64 0, .int .i64 0, .int .i64 0, .int .i64 0, .int .i64 0, .int .i64 0, .int .i64 0, .int .i64 0, .int .i64 0, .int .i64 0] 37)
  have hca := heap_alloc_new w (.cells #[.int .i64 0, .int .i64 0, .int .i64 0, .int .i64 0, .int .i64 0, .int .i64 0, .int .i64 0, .int .i64 0, .int .i64 0, .int .i64 0, .int .i64 0, .int .i64 0, .int .i64 0, .int .i64 0, .int .i64 0] 37)
  have hth := row_there hca
  obtain ⟨s1, s2⟩ := row_store hca [.int .i64 f, .int .i64 2, .int .i64 2, .int .i64 4, .int .i64 64, .int .i64 8, .int .i64 8, .int .i64 8, .int .i64 1, .int .i64 2, .int .i64 12, .int .i64 8, .int .i64 6, .int .i64 2, .int .i64 6] rfl
  have Hba := Lib.hid hba
  have Hth := Lib.hid hth
  have S1 := Lib.hid s1
  clear hba hca hth s1 s2
  go_enter Tryz.func11, Tryz.ntmps11
  go_wp2_with (refine wpList_store_mid rfl 37 (.tmp 2) (.tmp 4) rfl w.heap.size 0 #[.int .i64 f, .int .i64 2, .int .i64 2, .int .i64 4, .int .i64 64, .int .i64 8, .int .i64 8, .int .i64 8, .int .i64 1, .int .i64 2, .int .i64 12, .int .i64 8, .int .i64 6, .int .i64 2, .int .i64 6] rfl rfl Hth.out sizeCf (by simp [Value.oneCell']) ?_)
  refine bodyPost_ret (v := .agg #[.int .i64 f, .int .i64 2, .int .i64 2, .int .i64 4, .int .i64 64, .int .i64 8, .int .i64 8, .int .i64 8, .int .i64 1, .int .i64 2, .int .i64 12, .int .i64 8, .int .i64 6, .int .i64 2, .int .i64 6]) ?_ rfl ?_
  · exact results_cell_row Tryz.results11 _ _ w.heap.size _ _ _ _ rfl S1.out Tryz.underlying37 rfl sizeCf
  · exact ⟨rfl, ((Fp.of_below Hba.out (fun _ => False)).setCells (Or.inr (Nat.le_refl _)) _).to_below (Nat.le_refl _) fun _ _ h => h.elim⟩

set_option maxRecDepth 100000 in
set_option maxHeartbeats 4000000 in
theorem cfg_ok (c : Cf) (w : World) (hc : c.ok = true) : Calls Tryz.prog 33 #[.agg #[.int .i64 c.f, .int .i64 c.cl, .int .i64 c.c2, .int .i64 c.c3, .int .i64 c.c4, .int .i64 c.c5, .int .i64 c.c6, .int .i64 c.c7, .int .i64 c.c8, .int .i64 c.c9, .int .i64 c.c10, .int .i64 c.c11, .int .i64 c.c12, .int .i64 c.c13, .int .i64 c.re]] w fun e w' => e = .returned (.bool true) ∧ Below w.heap.size w w' := by
  unfold Cf.ok at hc
  simp only [Bool.and_eq_true] at hc
  obtain ⟨h0, h1, h2, h3, h4, h5, h6, h7, h8, h9, h10, h11, h12, h13, h14⟩ := hc
  have Hb := Lib.hid (alloc_below w (.cells #[.int .i64 c.f, .int .i64 c.cl, .int .i64 c.c2, .int .i64 c.c3, .int .i64 c.c4, .int .i64 c.c5, .int .i64 c.c6, .int .i64 c.c7, .int .i64 c.c8, .int .i64 c.c9, .int .i64 c.c10, .int .i64 c.c11, .int .i64 c.c12, .int .i64 c.c13, .int .i64 c.re] 37))
  go_enter Tryz.func33, Tryz.ntmps33
  go_wp2_with (first | (go_at_call 53; refine (cwin_any _ _ _ _).mono ?_; rintro e w' ⟨rfl, rfl⟩))
  go_ret
  exact ⟨rfl, Hb.out⟩

theorem ck_new (w : World) : Calls Tryz.prog 34 #[] w fun e w' => e = .returned (.pointer (some ⟨w.heap.size, 0, none⟩)) ∧ w' = w.alloc (.cells #[.int .i64 0, .slice none 0 0] 119) := by
  go_enter Tryz.func34, Tryz.ntmps34
  go_wp2_with fail
  go_ret
  exact ⟨rfl, rfl⟩
theorem ck_now (ct : Nat) (n : Int) (v : Value) (w : World) (h : w.heap[ct]? = some (.cells #[.int .i64 n, v] 119 (0, 0))) : Calls Tryz.prog 36 #[.pointer (some ⟨ct, 0, none⟩)] w fun e w' => e = .returned (.int .i64 n) ∧ w = w' := by
  have x0 : w.cell? ⟨ct, 0, none⟩ = some (.int .i64 n) := by rw [cell_of_row _ _ 0 _ _ _ h]; rfl
  go_enter Tryz.func36, Tryz.ntmps36
  go_wp2_with fail
  go_ret
  exact ⟨rfl, rfl⟩
theorem ck_tick (ct : Nat) (n : Int) (v : Value) (w : World) (h : w.heap[ct]? = some (.cells #[.int .i64 n, v] 119 (0, 0))) (hn : 0 ≤ n ∧ n < 1048576) : Calls Tryz.prog 44 #[.pointer (some ⟨ct, 0, none⟩)] w fun e w' => e = .returned (.bool true) ∧ w' = w.setCell ⟨ct, 0, none⟩ (.int .i64 (n + 1)) := by
  have x0 : w.cell? ⟨ct, 0, none⟩ = some (.int .i64 n) := by rw [cell_of_row _ _ 0 _ _ _ h]; rfl
  have z0 : w.frozen? ⟨ct, 0, none⟩ = false := frozen_of_row _ _ 0 _ _ h
  have d1 : decide (n ≥ 1048576) = false := decide_eq_false (by omega)
  have hw : IntKind.i64.wrap (n + 1) = n + 1 := IntWalk.i64_in _ (by omega)
  go_enter Tryz.func44, Tryz.ntmps44
  go_wp2_with fail
  go_ret
  exact ⟨rfl, rfl⟩

theorem own_cap {W : World} {base k n m : Nat} {e : TypeId} {A : Option Addr} {c : Nat} {xs : List Value} (h : W.ownsRow base e k (.slice A n c) m xs) : m ≤ c ∧ c ≤ 9223372036854775807 := by
  obtain ⟨A', c', e1, h1, h2, _⟩ := own_slice h
  injection e1 with _ _ e3
  exact ⟨by omega, by omega⟩
theorem rowc {W : World} {b : Nat} {cs : Array Value} {T : TypeId} (h : W.heap[b]? = some (.cells cs T (0, 0))) (j : Nat) {v : Value} (hv : cs[j]? = some v) : W.cell? ⟨b, j, none⟩ = some v := by rw [cell_of_row _ _ j _ _ _ h]; exact hv
/-- The last request. -/
theorem last_at {W : World} {Ai : Option Addr} {ci : Nat} {l : List Psp.Req} (h : W.ownsRow 0 42 6 (.slice Ai l.length ci) l.length (l.flatMap rq)) (hl : l ≠ []) : ∃ b, Ai = some ⟨b, 0, none⟩ ∧ b < W.heap.size ∧ W.rangeAt b ((l.length - 1) * 6) (rq (l.getD (l.length - 1) zR0)) := by
  obtain ⟨A', c', e, _, _, hx⟩ := own_slice h
  have hn : 0 < l.length := List.length_pos_iff.2 hl
  obtain ⟨b, rfl, _, hb, hli⟩ := hx hn
  injection e with e
  refine ⟨b, e, hb, ?_⟩
  have := range_elem (f := rq) (k := 6) (fun _ => rfl) hli (show l.length - 1 < l.length by omega)
  rw [Nat.zero_add] at this
  rw [List.getD_eq_getElem?_getD, List.getElem?_eq_getElem (by omega)]
  exact this

set_option maxRecDepth 100000 in
set_option maxHeartbeats 2000000 in
theorem last_m (U : Nat → Prop) (k ct g : Nat) (c : Cf) (id : Int) (s : CS) (w : World) (h : Clm w U k ct g c id s) (hl : s.issued ≠ []) (hlen : s.issued.length ≤ 1000000) :
    Calls Tryz.prog 39 #[.pointer (some ⟨k, 0, none⟩)] w fun e w' => e = .returned (.agg #[.int .i64 s.last.c, .int .i64 s.last.t, .int .i64 s.last.k, .int .i64 s.last.y, .int .i64 s.last.v, .int .i64 s.last.s]) ∧ Below w.heap.size w w' := by
  obtain ⟨Ai, ci, Aa, ca, Ac, cc, Ao, co, L, ho⟩ := h.opens
  have e1 := ho.row
  have e2 := ho.oi
  obtain ⟨hc1, hc2⟩ := own_cap e2
  obtain ⟨b, rfl, hb, hr⟩ := last_at e2 hl
  have hn : 0 < s.issued.length := List.length_pos_iff.2 hl
  obtain ⟨n, hn2⟩ : ∃ n, s.issued.length = n + 1 := ⟨s.issued.length - 1, by omega⟩
  have hls : s.issued.getD (s.issued.length - 1) zR0 = s.last := rfl
  rw [hls] at hr
  obtain ⟨t, ht⟩ : ∃ t, s.last = t := ⟨_, rfl⟩
  rw [ht] at hr ⊢
  rw [hn2] at e1 hr hc1 hlen
  rw [show n + 1 - 1 = n by omega] at hr
  clear hn hn2 hls ht hl e2 ho
  have hk := (Array.getElem?_eq_some_iff.1 e1).1
  have hba := alloc_below w (.cells #[.int .i64 0, .int .i64 0, .int .i64 0, .int .i64 0, .int .i64 0, .int .i64 0] 42)
  have hca := heap_alloc_new w (.cells #[.int .i64 0, .int .i64 0, .int .i64 0, .int .i64 0, .int .i64 0, .int .i64 0] 42)
  have e1' := (hba.block k hk).trans e1
  have hr' : (w.alloc (.cells #[.int .i64 0, .int .i64 0, .int .i64 0, .int .i64 0, .int .i64 0, .int .i64 0] 42)).rangeAt b (n * 6) (rq t) := range_keep hr (hba.block b hb)
  go_enter Tryz.func39, Tryz.ntmps39
  go_upto_region 1 with fail
  obtain ⟨W, hW⟩ : ∃ W, w.alloc (.cells #[.int .i64 0, .int .i64 0, .int .i64 0, .int .i64 0, .int .i64 0, .int .i64 0] 42) = W := ⟨_, rfl⟩
  rw [hW] at e1' hr' hba hca ⊢
  have f19 : W.drew.cell? ⟨k, 19, none⟩ = some _ := rowc (W := W.drew) e1' 19 rfl
  have hbW := hba.size
  have HRQ : Hid (W.drew.rangeAt b (n * 6) [.int .i64 t.c, .int .i64 t.t, .int .i64 t.k, .int .i64 t.y, .int .i64 t.v, .int .i64 t.s]) := Lib.hid hr'
  have hth := row_there (W := W.drew) hca
  obtain ⟨s1, s2⟩ := row_store (W := W.drew) hca [.int .i64 t.c, .int .i64 t.t, .int .i64 t.k, .int .i64 t.y, .int .i64 t.v, .int .i64 t.s] rfl
  have Hba := Lib.hid hba
  have Hth := Lib.hid hth
  have S1 := Lib.hid s1
  have hw1 : IntKind.i64.wrap (n : Int) = (n : Int) := IntWalk.i64_in _ (by omega)
  have n0 : (0 : Int) ≤ (n : Int) := by omega
  have n1 : (n : Int) < (n : Int) + 1 := by omega
  clear hW e1' hr' hr e1 hba hca hth s1 s2
  refine wp_region_still_tail_drew 11 (by kernel_rfl) (by kernel_rfl) ?_
  simp only [List.take_succ_cons, List.take_zero, List.drop_succ_cons, List.drop_zero]
  repeat still_step
  refine wpStill_nil ?_
  clear f19
  go_wp2_with (first | (refine list_load rfl 42 (.tmp 13) rfl b (n * 6) rfl [.int .i64 t.c, .int .i64 t.t, .int .i64 t.k, .int .i64 t.y, .int .i64 t.v, .int .i64 t.s] _ HRQ.out Tryz.underlying42 rfl rst_sizeR ?_) | (refine wpList_store_mid rfl 42 (.tmp 2) (.tmp 14) rfl w.heap.size 0 #[.int .i64 t.c, .int .i64 t.t, .int .i64 t.k, .int .i64 t.y, .int .i64 t.v, .int .i64 t.s] rfl rfl Hth.out rst_sizeR (by simp [Value.oneCell']) ?_))
  refine bodyPost_ret (v := .agg #[.int .i64 t.c, .int .i64 t.t, .int .i64 t.k, .int .i64 t.y, .int .i64 t.v, .int .i64 t.s]) ?_ rfl ?_
  · exact results_cell_row Tryz.results39 _ _ w.heap.size _ _ _ _ rfl S1.out Tryz.underlying42 rfl rst_sizeR
  · exact ⟨rfl, ((Fp.of_below Hba.out (fun _ => False)).drew.setCells (Or.inr (Nat.le_refl _)) _).to_below (Nat.le_refl _) fun _ _ h => h.elim⟩
end Go.Proofs.YtipmjleohadoeaaGreat
