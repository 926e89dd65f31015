/- A client's Out, Waits, Issued, Accepted, New. Printed by gen_cl3.py. -/
import Derived.Test.YtipmjleohadoeaaGreatCl2Sa
namespace Go.Proofs.YtipmjleohadoeaaGreat
open Go.RowKit
set_option linter.unusedVariables false
set_option linter.unusedSimpArgs false

/-- What has gone out: the sends, in memory that the client has no more. -/
theorem out_m (U : Nat → Prop) (k ct g : Nat) (c : Cf) (id : Int) (s : CS) (w : World) (h : Clm w U k ct g c id s) :
    Calls Tryz.prog 22 #[.pointer (some ⟨k, 0, none⟩)] w fun e w' => ∃ (v : Value) (L : List SendV), e = .returned v ∧ L.map SendV.s = s.out ∧
      Outs w' (fun b => U b ∧ (v.ownBlock = some b ∨ ∃ x ∈ L, x.v.ownBlock = some b)) v L ∧
      Clm w' (fun b => U b ∧ ¬ (v.ownBlock = some b ∨ ∃ x ∈ L, x.v.ownBlock = some b)) k ct g c id { s with out := [] } ∧ Fp (fun b => b = k) w w' := by
  obtain ⟨Ai, ci, Aa, ca, Ac, cc, Ao, co, L, ho⟩ := h.opens
  have HO := Lib.hid ho
  have f23 : w.cell? ⟨k, 23, none⟩ = some (.slice Ao L.length co) := rowc ho.row 23 rfl
  have z23 := frozen_of_row _ _ 23 _ _ ho.row
  clear ho
  go_enter Tryz.func22, Tryz.ntmps22
  go_wp2_with fail
  go_ret
  have ho := HO.out
  have hne : ∀ b, (Value.slice Ao L.length co).ownBlock = some b ∨ (∃ x ∈ L, x.v.ownBlock = some b) → b ≠ k := fun b hb => by
    rcases hb with h1 | ⟨x, hx, h1⟩
    · exact own_ne_row ho.oo.own ho.row (by decide) b h1
    · exact own_ne_row (ho.oo.ok x hx).1 ho.row (by decide) b h1
  have hnc : ∀ b, (Value.slice Ao L.length co).ownBlock = some b ∨ (∃ x ∈ L, x.v.ownBlock = some b) → b ≠ ct := fun b hb => by
    rcases hb with h1 | ⟨x, hx, h1⟩
    · exact own_ne_row ho.oo.own ho.clk (by decide) b h1
    · exact own_ne_row (ho.oo.ok x hx).1 ho.clk (by decide) b h1
  have hap : ∀ {e : TypeId} {m n : Nat} {v : Value} {xs : List Value}, w.ownsRow 0 e m v n xs → e ≠ 111 → e ≠ 5 → ∀ b, v.ownBlock = some b → ¬ ((Value.slice Ao L.length co).ownBlock = some b ∨ ∃ x ∈ L, x.v.ownBlock = some b) := fun hw h1 h2 b hb hor => by
    rcases hor with h3 | ⟨x, hx, h3⟩
    · exact own_ne hw ho.oo.own h1 b hb h3
    · exact own_ne hw (ho.oo.ok x hx).1 h2 b hb h3
  have hc := (clo_cell (W := w) (U := fun b => U b ∧ ¬ ((Value.slice Ao L.length co).ownBlock = some b ∨ ∃ x ∈ L, x.v.ownBlock = some b)) (k := k) (ct := ct) (g := g) (c := c) (id := id) (j := 23) (u := .slice none 0 0) (s' := { s with out := [] }) (vo' := .slice none 0 0) (L' := []) ho.row rfl ho.clk ⟨ho.uk, fun hh => hne k hh rfl⟩ ⟨ho.uct, fun hh => hnc ct hh rfl⟩ (fun b hb => ho.lt b hb.1) ho.oi ho.oa ho.oc rfl Outs.nil
    (fun b hb => ⟨ho.ui b hb, hap ho.oi (by decide) (by decide) b hb⟩) (fun b hb => ⟨ho.ua b hb, hap ho.oa (by decide) (by decide) b hb⟩) (fun b hb => ⟨ho.uc b hb, hap ho.oc (by decide) (by decide) b hb⟩)).clm
  exact ⟨_, L, rfl, ho.om, ho.oo.keep fun b hb hlt hor => ⟨set_same b (hne b hor), hb, hor⟩, hc, (Fp.refl (fun b => b = k) w).setCell (p := ⟨k, 23, none⟩) (Or.inl (show k = k from rfl)) _⟩

theorem waits_yes (U : Nat → Prop) (k ct g : Nat) (c : Cf) (id : Int) (s : CS) (w : World) (h : Clm w U k ct g c id s) (hs : s.waits = true) (hl : s.issued ≠ []) (hlen : s.issued.length ≤ 1000000) :
    Calls Tryz.prog 18 #[.pointer (some ⟨k, 0, none⟩)] w fun e w' => e = .returned (.tuple #[.agg #[.int .i64 s.last.c, .int .i64 s.last.t, .int .i64 s.last.k, .int .i64 s.last.y, .int .i64 s.last.v, .int .i64 s.last.s], .bool true]) ∧ Below w.heap.size w w' := by
  obtain ⟨Ai, ci, Aa, ca, Ac, cc, Ao, co, L, ho⟩ := h.opens
  have HO := Lib.hid ho
  have hr := ho.row
  rw [hs] at hr
  have hk := (Array.getElem?_eq_some_iff.1 hr).1
  have hba := alloc_below w (.cells #[.int .i64 0, .int .i64 0, .int .i64 0, .int .i64 0, .int .i64 0, .int .i64 0] 42)
  have hca := heap_alloc_new w (.cells #[.int .i64 0, .int .i64 0, .int .i64 0, .int .i64 0, .int .i64 0, .int .i64 0] 42)
  have f18 := rowc ((hba.block k hk).trans hr) 18 rfl
  have hcl := h.below hba
  go_enter Tryz.func18, Tryz.ntmps18
  go_upto_region 1 with fail
  obtain ⟨W, hW⟩ : ∃ W, w.alloc (.cells #[.int .i64 0, .int .i64 0, .int .i64 0, .int .i64 0, .int .i64 0, .int .i64 0] 42) = W := ⟨_, rfl⟩
  rw [hW] at f18 hcl hba hca ⊢
  have Hba := Lib.hid hba
  have Hca := Lib.hid hca
  clear ho hr hba hca hW
  go_wp2_with fail
  refine (last_m U k ct g c id s W hcl hl hlen).mono ?_
  rintro e w1 ⟨rfl, hb1⟩
  have hlt := (Array.getElem?_eq_some_iff.1 Hca.out).1
  have hc1 := (hb1.block _ hlt).trans Hca.out
  have HB1 := Lib.hid (Below.then Hba.out hb1 Hba.out.size)
  have hth := rst_there hc1
  obtain ⟨s1, s2⟩ := rst_store hc1 [.int .i64 s.last.c, .int .i64 s.last.t, .int .i64 s.last.k, .int .i64 s.last.y, .int .i64 s.last.v, .int .i64 s.last.s] rfl
  have Hth := Lib.hid hth
  have S1 := Lib.hid s1
  clear hth s1 s2 hb1 hc1
  go_wp2_with (refine wpList_store_mid rfl 42 (.tmp 2) (.tmp 11) rfl w.heap.size 0 #[.int .i64 s.last.c, .int .i64 s.last.t, .int .i64 s.last.k, .int .i64 s.last.y, .int .i64 s.last.v, .int .i64 s.last.s] rfl rfl Hth.out rst_sizeR (by simp [Value.oneCell']) ?_)
  refine bodyPost_ret (v := .tuple #[.agg #[.int .i64 s.last.c, .int .i64 s.last.t, .int .i64 s.last.k, .int .i64 s.last.y, .int .i64 s.last.v, .int .i64 s.last.s], .bool true]) ?_ rfl ?_
  · exact results_cell_row1 Tryz.results18 _ _ w.heap.size _ _ _ _ rfl S1.out Tryz.underlying42 rfl rst_sizeR
  · exact ⟨rfl, ((Fp.of_below HB1.out (fun _ => False)).setCells (Or.inr (Nat.le_refl _)) _).to_below (Nat.le_refl _) fun _ _ h => h.elim⟩

theorem entE : Elem Tryz.prog 57 61 7 56 := ⟨Tryz.underlying57, by kernel_rfl, by decide⟩
theorem ansE : Elem Tryz.prog 97 105 2 16 := ⟨Tryz.underlying97, by kernel_rfl, by decide⟩
theorem sndE : Elem Tryz.prog 70 111 2 32 := ⟨Tryz.underlying70, by kernel_rfl, by decide⟩
theorem ents_one (l : List (Psp.Req × Int)) : ∀ u ∈ l.flatMap ev, u.oneCell' = true := by
  intro u hu
  obtain ⟨x, _, hx⟩ := List.mem_flatMap.1 hu
  simp [ev, iv] at hx
  rcases hx with rfl | rfl | rfl | rfl | rfl | rfl | rfl <;> rfl
theorem accepted_m (U : Nat → Prop) (k ct g : Nat) (c : Cf) (id : Int) (s : CS) (w : World) (h : Clm w U k ct g c id s) (hlen : s.acc.length ≤ 1000000) :
    Calls Tryz.prog 16 #[.pointer (some ⟨k, 0, none⟩)] w fun e w' => ∃ A c', e = .returned (.slice A s.acc.length c') ∧ w'.ownsRow w.heap.size 61 7 (.slice A s.acc.length c') s.acc.length (s.acc.flatMap ev) ∧ Below w.heap.size w w' := by
  obtain ⟨Ai, ci, Aa, ca, Ac, cc, Ao, co, L, ho⟩ := h.opens
  have HO := Lib.hid ho
  have f0 : w.cell? ⟨k, 22, none⟩ = some (.slice Ac s.acc.length cc) := rowc ho.row 22 rfl
  obtain ⟨hc1, hc2⟩ := own_cap ho.oc
  have Hr := Lib.hid (Rd.of_own ho.oc)
  have Hone := Lib.hid (ents_one s.acc)
  clear ho
  go_enter Tryz.func16, Tryz.ntmps16
  go_wp2_with (at_builtin; refine wpList_app entE rfl _ _ rfl w.heap.size _ 0 [] rfl (World.ownsRow_nil _ _ _ _) w.heap.size _ _ _ rfl Hr.out Hone.out (by unfold maxLen; omega) (by omega) (Nat.le_refl _) ?_; intro v' w1 hown1 hg1 _; have hbel1 : Below w.heap.size w w1 := (Below.refl _ _).grown hg1 (Nat.le_refl _) (fun k hk => by simp [Act.eval, Value.ownBlock] at hk); clear hg1; rw [Nat.zero_add, List.nil_append] at hown1; obtain ⟨A', c', rfl, _, _, _⟩ := own_slice hown1)
  go_ret
  exact ⟨A', c', rfl, hown1, hbel1⟩


set_option maxRecDepth 100000 in
set_option maxHeartbeats 4000000 in
theorem new_yes (c : Cf) (id : Int) (g : Nat) (w : World) (hc : c.ok = true) (hid : 0 ≤ id ∧ id < c.cl) :
    Calls Tryz.prog 10 #[.agg #[.int .i64 c.f, .int .i64 c.cl, .int .i64 c.c2, .int .i64 c.c3, .int .i64 c.c4, .int .i64 c.c5, .int .i64 c.c6, .int .i64 c.c7, .int .i64 c.c8, .int .i64 c.c9, .int .i64 c.c10, .int .i64 c.c11, .int .i64 c.c12, .int .i64 c.c13, .int .i64 c.re], .int .i64 id, .pointer (some ⟨g, 0, none⟩)] w fun e w' => ∃ k ct, e = .returned (.tuple #[.pointer (some ⟨k, 0, none⟩), .int .i64 0]) ∧ Clm w' (fun b => b = k ∨ b = ct) k ct g c id cs0 ∧ Below w.heap.size w w' ∧ w.heap.size ≤ k ∧ w.heap.size ≤ ct := by
  have hba := alloc_below w (.cells #[.int .i64 c.f, .int .i64 c.cl, .int .i64 c.c2, .int .i64 c.c3, .int .i64 c.c4, .int .i64 c.c5, .int .i64 c.c6, .int .i64 c.c7, .int .i64 c.c8, .int .i64 c.c9, .int .i64 c.c10, .int .i64 c.c11, .int .i64 c.c12, .int .i64 c.c13, .int .i64 c.re] 37)
  have hca := heap_alloc_new w (.cells #[.int .i64 c.f, .int .i64 c.cl, .int .i64 c.c2, .int .i64 c.c3, .int .i64 c.c4, .int .i64 c.c5, .int .i64 c.c6, .int .i64 c.c7, .int .i64 c.c8, .int .i64 c.c9, .int .i64 c.c10, .int .i64 c.c11, .int .i64 c.c12, .int .i64 c.c13, .int .i64 c.re] 37)
  have d1 : decide (id < 0) = false := decide_eq_false (by omega)
  have d2 : decide (id ≥ c.cl) = false := decide_eq_false (by omega)
  go_enter Tryz.func10, Tryz.ntmps10
  go_upto_region 1 with fail
  obtain ⟨W, hW⟩ : ∃ W, w.alloc (.cells #[.int .i64 c.f, .int .i64 c.cl, .int .i64 c.c2, .int .i64 c.c3, .int .i64 c.c4, .int .i64 c.c5, .int .i64 c.c6, .int .i64 c.c7, .int .i64 c.c8, .int .i64 c.c9, .int .i64 c.c10, .int .i64 c.c11, .int .i64 c.c12, .int .i64 c.c13, .int .i64 c.re] 37) = W := ⟨_, rfl⟩
  rw [hW] at hba hca ⊢
  clear hW
  have hlt := (Array.getElem?_eq_some_iff.1 hca).1
  have Hba := Lib.hid hba
  have Hca := Lib.hid hca
  have q0 := rowc hca 0 rfl
  have q1 := rowc hca 1 rfl
  have q2 := rowc hca 2 rfl
  have q3 := rowc hca 3 rfl
  have q4 := rowc hca 4 rfl
  have q5 := rowc hca 5 rfl
  have q6 := rowc hca 6 rfl
  have q7 := rowc hca 7 rfl
  have q8 := rowc hca 8 rfl
  have q9 := rowc hca 9 rfl
  have q10 := rowc hca 10 rfl
  have q11 := rowc hca 11 rfl
  have q12 := rowc hca 12 rfl
  have q13 := rowc hca 13 rfl
  have q14 := rowc hca 14 rfl
  clear hba hca
  go_wp2_with fail
  clear q0 q1 q2 q3 q4 q5 q6 q7 q8 q9 q10 q11 q12 q13 q14
  refine (cfg_ok c W hc).mono ?_
  rintro e w1 ⟨rfl, hb1⟩
  have hc1 := (hb1.block _ hlt).trans Hca.out
  have HB1 := Lib.hid (Below.then Hba.out hb1 Hba.out.size)
  have hz1 := hb1.size
  have f1 := rowc hc1 1 rfl
  have Hc1 := Lib.hid hc1
  clear hb1 hc1
  go_upto_region 3 with fail
  clear f1
  have HRC : Hid (∀ w' : World, (∃ p : Later w1.drew, w' = p.W) → w'.rangeAt w.heap.size 0 [.int .i64 c.f, .int .i64 c.cl, .int .i64 c.c2, .int .i64 c.c3, .int .i64 c.c4, .int .i64 c.c5, .int .i64 c.c6, .int .i64 c.c7, .int .i64 c.c8, .int .i64 c.c9, .int .i64 c.c10, .int .i64 c.c11, .int .i64 c.c12, .int .i64 c.c13, .int .i64 c.re]) := Lib.hid (by rintro w' ⟨p, rfl⟩; exact range_of_row ((p.h.block _ (show w.heap.size < w1.heap.size by omega)).trans Hc1.out))
  refine wp_region_phases [(true, 0), (true, 1), (true, 2), (false, 3)] (by kernel_rfl) (by kernel_rfl) ?_
  simp only [phW, List.getElem?_cons_zero, List.getElem?_cons_succ, Option.toList, List.length_cons, List.length_nil, Nat.reduceAdd, List.drop_succ_cons, List.drop_zero]
  repeat (first | (refine quiet_load (by simp [Region.wanted, yielded]) 37 (.tmp 3) (by rfl) w.heap.size 0 (by rfl) [.int .i64 c.f, .int .i64 c.cl, .int .i64 c.c2, .int .i64 c.c3, .int .i64 c.c4, .int .i64 c.c5, .int .i64 c.c6, .int .i64 c.c7, .int .i64 c.c8, .int .i64 c.c9, .int .i64 c.c10, .int .i64 c.c11, .int .i64 c.c12, .int .i64 c.c13, .int .i64 c.re] _ HRC.out Tryz.underlying37 rfl sizeCf ?_; intro K hK; go_simp; refine hK _ ?_; clear hK K) | go_big_quiet_step (fail) | quiet_step (fail) | refine wpQuiet_nil ?_)
  go_wp2_with fail
  refine (ck_new w1.drew).mono ?_
  rintro e w2 ⟨rfl, rfl⟩
  go_wp2_with fail
  refine And.intro ⟨⟨_, (Below.refl _ _).alloc (Nat.le_refl _) _⟩, rfl⟩ ?_
  go_wp2_with fail
  go_ret2
  have a1 := alloc_below w1 (.cells #[.int .i64 0, .slice none 0 0] 119)
  have a2 := alloc_below (w1.alloc (.cells #[.int .i64 0, .slice none 0 0] 119)) (.cells #[.int .i64 c.f, .int .i64 c.cl, .int .i64 c.c2, .int .i64 c.c3, .int .i64 c.c4, .int .i64 c.c5, .int .i64 c.c6, .int .i64 c.c7, .int .i64 c.c8, .int .i64 c.c9, .int .i64 c.c10, .int .i64 c.c11, .int .i64 c.c12, .int .i64 c.c13, .int .i64 c.re, .int .i64 id, .pointer (some ⟨g, 0, none⟩), .pointer (some ⟨w1.heap.size, 0, none⟩), .bool false, .slice none 0 0, .int .i64 0, .slice none 0 0, .slice none 0 0, .slice none 0 0] 99)
  have r1 := heap_alloc_new w1 (.cells #[.int .i64 0, .slice none 0 0] 119)
  have r2 := heap_alloc_new (w1.alloc (.cells #[.int .i64 0, .slice none 0 0] 119)) (.cells #[.int .i64 c.f, .int .i64 c.cl, .int .i64 c.c2, .int .i64 c.c3, .int .i64 c.c4, .int .i64 c.c5, .int .i64 c.c6, .int .i64 c.c7, .int .i64 c.c8, .int .i64 c.c9, .int .i64 c.c10, .int .i64 c.c11, .int .i64 c.c12, .int .i64 c.c13, .int .i64 c.re, .int .i64 id, .pointer (some ⟨g, 0, none⟩), .pointer (some ⟨w1.heap.size, 0, none⟩), .bool false, .slice none 0 0, .int .i64 0, .slice none 0 0, .slice none 0 0, .slice none 0 0] 99)
  have s1 : (w1.alloc (.cells #[.int .i64 0, .slice none 0 0] 119)).heap.size = w1.heap.size + 1 := by simp
  have s2 : ((w1.alloc (.cells #[.int .i64 0, .slice none 0 0] 119)).alloc (.cells #[.int .i64 c.f, .int .i64 c.cl, .int .i64 c.c2, .int .i64 c.c3, .int .i64 c.c4, .int .i64 c.c5, .int .i64 c.c6, .int .i64 c.c7, .int .i64 c.c8, .int .i64 c.c9, .int .i64 c.c10, .int .i64 c.c11, .int .i64 c.c12, .int .i64 c.c13, .int .i64 c.re, .int .i64 id, .pointer (some ⟨g, 0, none⟩), .pointer (some ⟨w1.heap.size, 0, none⟩), .bool false, .slice none 0 0, .int .i64 0, .slice none 0 0, .slice none 0 0, .slice none 0 0] 99)).heap.size = w1.heap.size + 2 := by simp
  have r1' := (a2.block w1.heap.size (by omega)).trans r1
  rw [s1] at r2
  have hz := HB1.out.size
  refine ⟨w1.heap.size + 1, w1.heap.size, rfl, ⟨⟨_, _, _, _, [], r2, World.ownsRow_nil _ _ _ _, World.ownsRow_nil _ _ _ _, World.ownsRow_nil _ _ _ _, rfl, Outs.nil, fun b hb => (by simp [Value.ownBlock] at hb), fun b hb => (by simp [Value.ownBlock] at hb), fun b hb => (by simp [Value.ownBlock] at hb)⟩, r1', .inl rfl, .inr rfl, fun b hb => ?_⟩, ?_, by omega, by omega⟩
  · show b < ((w1.alloc _).alloc _).heap.size
    rw [s2]
    rcases hb with hb | hb <;> omega
  · exact ((HB1.out.trans (a1.mono hz)).trans (a2.mono (by omega))).drew
end Go.Proofs.YtipmjleohadoeaaGreat
