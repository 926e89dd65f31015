/- slices.Compact of requests. -/
import Derived.Test.YtnlnkcljehafkaaSrt
import Derived.Lib.SlicesCompact
import Derived.Lib.SliceRun
import Derived.BigQuiet
import Derived.Deep.MidRow
namespace Psp
open Go.Lib
/-- What slices.Compact leaves of a sorted row: the reference's order. -/
theorem cpt_inv {s : List Req} (hs : Le s) : ∀ m, m + 1 ≤ s.length →
    Up (compactUpTo s.toArray (m + 1)) ∧ (∀ x ∈ compactUpTo s.toArray (m + 1), cmpR x s.toArray[m]! ≤ 0 ∧ x ∈ s) ∧ ∀ j, j ≤ m → s.toArray[j]! ∈ compactUpTo s.toArray (m + 1) := by
  have hget : ∀ j, (hj : j < s.length) → s.toArray[j]! = s[j] := fun j hj => by rw [getElem!_pos s.toArray j (by simpa using hj)]; simp
  intro m
  induction m with
  | zero =>
    intro hm
    rw [compactUpTo_succ, keeps_lt_one s.toArray 0 (by omega)]
    simp only [compactUpTo, List.range_zero, List.filter_nil, List.map_nil, List.nil_append, if_true]
    refine ⟨List.pairwise_singleton _ _, fun x hx => ?_, fun j hj => ?_⟩
    · rw [List.mem_singleton] at hx
      subst hx
      rw [hget 0 (by omega)]
      exact ⟨by rw [cmpR_zero.2 rfl]; exact Int.le_refl _, List.getElem_mem _⟩
    · obtain rfl : j = 0 := by omega
      exact List.mem_singleton.2 rfl
  | succ m ih =>
    intro hm
    obtain ⟨h1, h2, h3⟩ := ih (by omega)
    have hle : cmpR s.toArray[m]! s.toArray[m + 1]! ≤ 0 := by
      rw [hget m (by omega), hget (m + 1) (by omega)]
      exact List.pairwise_iff_getElem.1 hs m (m + 1) (by omega) (by omega) (by omega)
    rw [compactUpTo_succ]
    by_cases hk : s.toArray[m + 1]! = s.toArray[m]!
    · rw [keeps_neg (by omega) (by rw [Nat.add_sub_cancel]; exact hk)]
      simp only [Bool.false_eq_true, if_false, List.append_nil]
      refine ⟨h1, fun x hx => by rw [hk]; exact h2 x hx, fun j hj => ?_⟩
      by_cases hjm : j ≤ m
      · exact h3 j hjm
      · obtain rfl : j = m + 1 := by omega
        rw [hk]; exact h3 m (Nat.le_refl _)
    · rw [keeps_pos (by rw [Nat.add_sub_cancel]; exact hk)]
      simp only [if_true]
      have hlt : cmpR s.toArray[m]! s.toArray[m + 1]! < 0 := by
        rcases Int.lt_or_eq_of_le hle with h | h
        · exact h
        · exact absurd (cmpR_zero.1 h).symm hk
      have hxs : ∀ x ∈ compactUpTo s.toArray (m + 1), cmpR x s.toArray[m + 1]! < 0 := by
        intro x hx
        have := (h2 x hx).1
        rcases Int.lt_or_eq_of_le this with h | h
        · exact cmpR_lt_trans h hlt
        · rw [cmpR_zero.1 h]; exact hlt
      refine ⟨?_, fun x hx => ?_, fun j hj => ?_⟩
      · unfold Up
        rw [List.pairwise_append]
        exact ⟨h1, List.pairwise_singleton _ _, fun a ha b hb => by rw [List.mem_singleton.1 hb]; exact hxs a ha⟩
      · rcases List.mem_append.1 hx with hx | hx
        · exact ⟨Int.le_of_lt (hxs x hx), (h2 x hx).2⟩
        · rw [List.mem_singleton.1 hx]
          refine ⟨by rw [cmpR_zero.2 rfl]; exact Int.le_refl _, ?_⟩
          rw [hget (m + 1) (by omega)]; exact List.getElem_mem _
      · by_cases hjm : j ≤ m
        · exact List.mem_append.2 (Or.inl (h3 j hjm))
        · obtain rfl : j = m + 1 := by omega
          exact List.mem_append.2 (Or.inr (List.mem_singleton.2 rfl))
theorem cpt_ord {l s : List Req} (hp : s.Perm l) (hs : Le s) : compact s = ordR l := by
  by_cases h0 : s.length = 0
  · obtain rfl := List.eq_nil_of_length_eq_zero h0
    obtain rfl : l = [] := List.nil_perm.1 hp
    rfl
  · obtain ⟨h1, h2, h3⟩ := cpt_inv hs (s.length - 1) (by omega)
    rw [show s.length - 1 + 1 = s.length by omega] at h1 h2 h3
    refine up_eq h1 (ord_up l) fun x => ?_
    rw [ord_mem_iff, ← hp.mem_iff]
    refine ⟨fun hx => (h2 x hx).2, fun hx => ?_⟩
    obtain ⟨j, hj, e⟩ := List.mem_iff_getElem.1 hx
    have := h3 j (by omega)
    rw [getElem!_pos s.toArray j (by simpa using hj)] at this
    simp only [List.getElem_toArray, e] at this
    exact this
end Psp
namespace Go.Proofs.Ytnlnkcljehafkaa
open Go.RowKit Go.Lib
set_option linter.unusedVariables false

/-- Cells of a block, written one behind the other. -/
theorem cpt_cells (e : TypeId) (b : Nat) : ∀ (vs : List Value) (o : Nat) (w : World) (cur : Array Value), w.heap[b]? = some (.cells cur e (0, 0)) → o + vs.length ≤ cur.size →
    ∃ cur' : Array Value, (w.setCells b o vs).heap[b]? = some (.cells cur' e (0, 0)) ∧ cur'.toList = cur.toList.take o ++ vs ++ cur.toList.drop (o + vs.length)
  | [], o, w, cur, h, _ => ⟨cur, h, by simp⟩
  | v :: vs, o, w, cur, h, hle => by
    have hl : o + (vs.length + 1) ≤ cur.size := by simpa using hle
    obtain ⟨cur', h1, h2⟩ := cpt_cells e b vs (o + 1) (w.setCell ⟨b, o, none⟩ v) (cur.setIfInBounds o v) (heap_setCell_same w b o cur e v h) (by simp; omega)
    refine ⟨cur', h1, ?_⟩
    rw [h2, Array.toList_setIfInBounds]
    have hlo : o < cur.toList.length := by simp; omega
    rw [List.take_set, List.drop_set_of_lt (by omega)]
    rw [List.take_add_one, List.getElem?_eq_getElem hlo]
    have ht : (cur.toList.take o).length = o := by rw [List.length_take]; omega
    simp only [Option.toList, List.length_cons]
    rw [List.set_append_right _ _ (by omega), ht, Nat.sub_self]
    simp only [List.set_cons_zero, List.append_assoc, List.cons_append, List.nil_append]
    rw [show o + 1 + vs.length = o + (vs.length + 1) by omega]
/-- A range of an owned row, written. -/
theorem cpt_own {w : World} {base b n c o : Nat} {xs vs : List Value} {e : TypeId} (h : w.ownsRow base e 6 (.slice (some ⟨b, 0, none⟩) n c) n xs) (ho : o + vs.length ≤ n * 6) :
    (w.setCells b o vs).ownsRow base e 6 (.slice (some ⟨b, 0, none⟩) n c) n (xs.take o ++ vs ++ xs.drop (o + vs.length)) ∧ Fp (fun k => k = b) w (w.setCells b o vs) := by
  have hxl := h.1
  rcases h.2 with ⟨h1, _⟩ | ⟨g, cap, cur, h1, h2, h3, h4, h5, h6, h7⟩
  · cases h1
  · injection h1 with e1 _ e3
    injection e1 with e1
    injection e1 with e1
    subst e1 e3
    have hmul := Nat.mul_le_mul_right 6 h4
    obtain ⟨cur', h8, h9⟩ := cpt_cells e b vs o w cur h3 (by omega)
    have hsz : cur'.size = cur.size := by
      rw [← Array.length_toList, h9, List.length_append, List.length_append, List.length_take, List.length_drop, Array.length_toList]; omega
    refine ⟨⟨?_, Or.inr ⟨b, c, cur', rfl, h2, h8, h4, h5, by rw [hsz, h6], ?_⟩⟩, (Fp.refl (fun k => k = b) w).setCells (Or.inl rfl) vs⟩
    · rw [List.length_append, List.length_append, List.length_take, List.length_drop, hxl]; omega
    · have ht : (cur.toList.take o).length = o := by rw [List.length_take, Array.length_toList]; omega
      rw [h9, List.take_append, List.take_append, ← h7]
      rw [List.length_append, ht, List.take_take, List.take_take, Nat.min_eq_right (by omega), Nat.min_eq_left (by omega), List.take_of_length_le (l := vs) (by omega), List.drop_take]
theorem cpt_set {w : World} {base b n c i : Nat} {l : List Psp.Req} (x : Psp.Req) (h : w.ownsRow base 26 6 (.slice (some ⟨b, 0, none⟩) n c) n (l.flatMap rq)) (hl : l.length = n) (hi : i < n) :
    (w.setCells b (i * 6) (rq x)).ownsRow base 26 6 (.slice (some ⟨b, 0, none⟩) n c) n ((l.set i x).flatMap rq) ∧ Fp (fun k => k = b) w (w.setCells b (i * 6) (rq x)) := by
  obtain ⟨h1, h2⟩ := cpt_own (vs := rq x) (o := i * 6) h (by show i * 6 + 6 ≤ _; omega)
  refine ⟨?_, h2⟩
  have e : (l.set i x).flatMap rq = (l.flatMap rq).take (i * 6) ++ rq x ++ (l.flatMap rq).drop (i * 6 + (rq x).length) := by
    rw [show i * 6 + (rq x).length = (i + 1) * 6 by show i * 6 + 6 = _; omega, od_take, od_drop, List.set_eq_take_append_cons_drop, if_pos (by omega), List.flatMap_append, List.flatMap_cons, List.append_assoc]
  rw [e]; exact h1
theorem cpt_there {w : World} {base b n c : Nat} {e : TypeId} {xs : List Value} (h : w.ownsRow base e 6 (.slice (some ⟨b, 0, none⟩) n c) n xs) {o k : Nat} (hi : o + k ≤ n * 6) : w.there b o k := by
  rcases h.2 with ⟨h1, _⟩ | ⟨g, cap, cur, h1, h2, h3, h4, h5, h6, h7⟩
  · cases h1
  · injection h1 with e1 _ e3
    injection e1 with e1
    injection e1 with e1
    subst e1 e3
    have hmul := Nat.mul_le_mul_right 6 h4
    intro j hj
    refine ⟨?_, frozen_of_row w b (o + j) _ _ h3⟩
    rw [cell_of_row w b (o + j) _ _ _ h3]
    simp; omega
theorem cpt_rg {w : World} {base b n c k : Nat} {l : List Psp.Req} {x : Psp.Req} (h : w.ownsRow base 26 6 (.slice (some ⟨b, 0, none⟩) n c) n (l.flatMap rq)) (hx : l[k]? = some x) : w.rangeAt b (k * 6) (rq x) := by
  have hl : l.length = n := by have := h.1; rw [od_len] at this; omega
  have hk : k < n := by rw [← hl]; exact (List.getElem?_eq_some_iff.1 hx).1
  obtain ⟨b0, o0, c0, he, _, _, _, hel⟩ := ri_elem (RdP.of_own h) hl (by omega)
  injection he with he1 _ _
  injection he1 with he1
  injection he1 with e1 e2
  subst e1 e2
  have := hel k x hx w rfl
  rwa [Nat.zero_add] at this
theorem cpt_zero : ∀ n, (Builtin.zeroCells (#[.int .i64 0, .int .i64 0, .int .i64 0, .int .i64 0, .int .i64 0, .int .i64 0] : Array Value) n).toList = (List.replicate n (⟨0, 0, 0, 0, 0, 0⟩ : Psp.Req)).flatMap rq := by
  intro n
  apply List.ext_getElem?
  intro j
  have hs : (Builtin.zeroCells (#[.int .i64 0, .int .i64 0, .int .i64 0, .int .i64 0, .int .i64 0, .int .i64 0] : Array Value) n).size = n * 6 := by simp [Builtin.zeroCells]
  by_cases hj : j < n * 6
  · have h1 := flat_get (f := rq) (k := 6) (fun _ => rfl) (List.replicate n (⟨0, 0, 0, 0, 0, 0⟩ : Psp.Req)) (j / 6) (j % 6) (by omega)
    rw [show j / 6 * 6 + j % 6 = j by omega, List.getElem?_replicate, if_pos (by omega)] at h1
    rw [h1, Array.getElem?_toList, Array.getElem?_eq_getElem (by omega)]
    have : j % 6 < 6 := by omega
    simp only [Builtin.zeroCells, Array.getElem_map, Array.getElem_range, Option.bind_some, List.size_toArray, List.length_cons, List.length_nil, Nat.zero_add, Nat.reduceAdd]
    obtain ⟨m, hm⟩ : ∃ m, j % 6 = m := ⟨_, rfl⟩
    have hm6 : m < 6 := by omega
    rw [hm]
    match m, hm6 with
    | 0, _ | 1, _ | 2, _ | 3, _ | 4, _ | 5, _ => rfl
  · rw [List.getElem?_eq_none (by rw [Array.length_toList, hs]; omega), List.getElem?_eq_none (by rw [od_len]; simp; omega)]
theorem cpt_clear (w : World) (ty : TypeId) (b o n c : Nat) (hn : 0 < n) (ht : w.there b o (n * 6)) :
    (Builtin.clear_ #[22] ty #[.slice (some ⟨b, o, none⟩) n c]).run Try.prog w = .ok (.tuple #[]) (w.setCells b o ((List.replicate n (⟨0, 0, 0, 0, 0, 0⟩ : Psp.Req)).flatMap rq)) := by
  have hlen : ((List.replicate n (⟨0, 0, 0, 0, 0, 0⟩ : Psp.Req)).flatMap rq).length = n * 6 := by rw [od_len]; simp
  have hst := run_storeCells_cells (P := Try.prog) b o ((List.replicate n (⟨0, 0, 0, 0, 0, 0⟩ : Psp.Req)).flatMap rq) 0 w (fun j hj => by rw [hlen] at hj; exact (ht j hj).1) (fun j hj => by rw [hlen] at hj; exact (ht j hj).2) (fun v hv => od_one _ v hv)
  simp only [Nat.add_zero] at hst
  obtain ⟨m, rfl⟩ : ∃ m, n = m + 1 := ⟨n - 1, by omega⟩
  have hz := cpt_zero (m + 1)
  simp [Builtin.clear_, run_underlying Try.underlying22, Value.cells, hz, hst]

set_option maxRecDepth 100000 in
set_option maxHeartbeats 8000000 in
/-- slices.Compact: what it leaves lies at the head of the row. -/
theorem compact_any (base b c n : Nat) (s : List Psp.Req) (w : World) (hown : w.ownsRow base 26 6 (.slice (some ⟨b, 0, none⟩) n c) n (s.flatMap rq)) :
    Calls Try.prog 24 #[.slice (some ⟨b, 0, none⟩) n c] w fun e w' => e = .returned (.slice (some ⟨b, 0, none⟩) (compact s).length c) ∧ (compact s).length ≤ n ∧ (∃ r : List Psp.Req, w'.ownsRow base 26 6 (.slice (some ⟨b, 0, none⟩) n c) n (r.flatMap rq) ∧ r.take (compact s).length = compact s) ∧ Fp (fun k => k = b) w w' := by
  have hn : s.length = n := by have := hown.1; rw [od_len] at this; omega
  obtain ⟨_, A, c', he, hc1, hc2, _⟩ := (RdP.of_own hown).parts
  injection he with he1 _ he2
  subst he1 he2
  have HO0 := Lib.hid hown
  have Hn := Lib.hid hn
  have hall : ∀ m, m = n → (∀ j, j < m → keeps s.toArray j = true) → compact s = s := fun m hm h => compact_all s fun j hj => h j (by omega)
  have HA := Lib.hid hall
  clear hown hn hall
  by_cases h2 : n < 2
  · have d1 : decide ((n : Int) < 2) = true := by simp; omega
    go_enter Try.func24, Try.ntmps24
    go_wp2_with fail
    go_ret
    have e := HA.out n rfl fun j hj => keeps_lt_one _ j (by omega)
    exact ⟨by rw [e, Hn.out]; rfl, by rw [e, Hn.out]; exact Nat.le_refl _, ⟨s, HO0.out, by rw [e, List.take_length]⟩, Fp.refl _ _⟩
  · have d1 : decide ((n : Int) < 2) = false := by simp; omega
    go_enter Try.func24, Try.ntmps24
    go_wp2_with fail
    go_loopw [3] (fun i wr => ∃ k q : Nat, i = .int .i64 ((k : Int) + 1) ∧ k < n ∧ wr = w.drewN q ∧ Hid (∀ j, j < k + 1 → keeps s.toArray j = true)) (fun i _ => n - (intOf i).toNat)
    case atStart => exact ⟨0, 0, rfl, by omega, rfl, Lib.hid (keeps_lt_one _)⟩
    case round =>
      obtain ⟨k, q, rfl, hk, rfl, H0⟩ := hrel
      by_cases hlt : k + 1 < n
      · have d2 : decide ((k : Int) + 1 < (n : Int)) = true := by simp; omega
        obtain ⟨x, hx⟩ : ∃ x, s[k]? = some x := ⟨s[k]'(by rw [Hn.out]; omega), List.getElem?_eq_getElem (by rw [Hn.out]; omega)⟩
        obtain ⟨y, hy⟩ : ∃ y, s[k + 1]? = some y := ⟨s[k + 1]'(by rw [Hn.out]; omega), List.getElem?_eq_getElem (by rw [Hn.out]; omega)⟩
        have HQ1 : Hid (∀ w' : World, (∃ n, w' = (w.drewN q).drewN n) → w'.rangeAt b (k * 6) (rq x)) := Lib.hid (by rintro w' ⟨m, rfl⟩; exact cpt_rg HO0.out hx)
        have HQ2 : Hid (∀ w' : World, (∃ n, w' = (w.drewN q).drewN n) → w'.rangeAt b ((k + 1) * 6) (rq y)) := Lib.hid (by rintro w' ⟨m, rfl⟩; exact cpt_rg HO0.out hy)
        have hgx : s.toArray[k]! = x := by
          obtain ⟨h1, h2⟩ := List.getElem?_eq_some_iff.1 hx
          rw [getElem!_pos s.toArray k (by simpa using h1)]; simpa using h2
        have hgy : s.toArray[k + 1]! = y := by
          obtain ⟨h1, h2⟩ := List.getElem?_eq_some_iff.1 hy
          rw [getElem!_pos s.toArray (k + 1) (by simpa using h1)]; simpa using h2
        have z1 : (k : Int) + 1 - 1 = (k : Int) := by omega
        have z2 : ((k : Int) + 1).toNat = k + 1 := by omega
        have Hgx := Lib.hid hgx
        have Hgy := Lib.hid hgy
        clear hx hy hgx hgy
        by_cases hxy : y = x
        · have Hxy := Lib.hid hxy
          clear hxy
          go_wp2_with fail
          refine wp_region_quiet_lit (by kernel_rfl) (by kernel_rfl) ?_
          repeat (first | (refine quiet_load rfl 26 (.tmp 18) rfl b ((k + 1) * 6) rfl (rq y) _ HQ2.out Try.underlying26 rfl rst_sizeR ?_; intro K hK; go_simp; refine hK _ ?_; clear hK K) | (refine quiet_load rfl 26 (.tmp 23) rfl b (k * 6) rfl (rq x) _ HQ1.out Try.underlying26 rfl rst_sizeR ?_; intro K hK; go_simp; refine hK _ ?_; clear hK K) | (refine quiet_val rfl (.bool true) (fun w hC => (exec_eql_req (.tmp 19) (.tmp 24) _ rfl y x rfl rfl).trans (by simp [Hxy.out])) ?_; intro K hK; go_simp; refine hK _ ?_; clear hK K) | go_big_quiet_step (fail))
          refine wpQuiet_nil ?_
          intro _ hw'
          obtain ⟨nq, hw''⟩ := hw'
          subst hw''
          have HI0 := Lib.hid (CompInv.start (d := s.toArray) (k0 := k + 1) H0.out (keeps_neg (by omega) (by rw [Nat.add_sub_cancel, Hgx.out, Hgy.out]; exact Hxy.out)))
          clear HQ1 HQ2 H0 Hgx Hgy Hxy
          have HO1 : Hid (((w.drewN q).drewN nq).ownsRow base 26 6 (.slice (some ⟨b, 0, none⟩) n c) n (s.flatMap rq)) := Lib.hid HO0.out
          have HF1 := Lib.hid ((Fp.refl (fun z => z = b) w).drewN (q + nq))
          have y1 : (((n - (k + 1) : Nat)) : Int) = (n : Int) - ((k : Int) + 1) := by omega
          go_wp2_with fail
          go_loopw [3, 5] (fun s3 s5 wr => ∃ (kk p : Nat) (dk : List Psp.Req), s3 = .int .i64 (kk : Int) ∧ s5 = .int .i64 ((p : Int) + 1) ∧ k + 1 + (p + 1) ≤ n ∧ kk < k + 1 + (p + 1) ∧ Hid (CompInv s.toArray (k + 1 + (p + 1)) kk dk.toArray) ∧ Hid (wr.ownsRow base 26 6 (.slice (some ⟨b, 0, none⟩) n c) n (dk.flatMap rq)) ∧ Hid (Fp (fun z => z = b) w wr)) (fun _ i _ => n - (intOf i).toNat)
          case atStart => exact ⟨k + 1, 0, s, by go_num, rfl, by omega, by omega, HI0, HO1, HF1⟩
          case round =>
            clear HI0 HO1 HF1
            obtain ⟨kk, p, dk, rfl, rfl, hp, hkk, HI, HO, HF⟩ := hrel
            have hdl : dk.length = n := by have := HO.out.1; rw [od_len] at this; omega
            have Hdl := Lib.hid hdl
            clear hdl
            by_cases hl2 : p + 1 < n - (k + 1)
            · have d3 : decide ((p : Int) + 1 < ((n - (k + 1) : Nat) : Int)) = true := by simp; omega
              obtain ⟨x2, hx⟩ : ∃ x, dk[k + 1 + p]? = some x := ⟨dk[k + 1 + p]'(by rw [Hdl.out]; omega), List.getElem?_eq_getElem (by rw [Hdl.out]; omega)⟩
              obtain ⟨y2, hy⟩ : ∃ y, dk[k + 1 + (p + 1)]? = some y := ⟨dk[k + 1 + (p + 1)]'(by rw [Hdl.out]; omega), List.getElem?_eq_getElem (by rw [Hdl.out]; omega)⟩
              have HR1 : Hid (∀ w' : World, (∃ n, w' = wr.drewN n) → w'.rangeAt b ((k + 1) * 6 + p * 6) (rq x2)) := Lib.hid (by rintro w' ⟨m, rfl⟩; rw [← Nat.add_mul]; exact cpt_rg HO.out hx)
              have HR2 : Hid (∀ w' : World, (∃ n, w' = wr.drewN n) → w'.rangeAt b ((k + 1) * 6 + (p + 1) * 6) (rq y2)) := Lib.hid (by rintro w' ⟨m, rfl⟩; rw [← Nat.add_mul]; exact cpt_rg HO.out hy)
              have hgx : s.toArray[k + 1 + p]! = x2 := by
                rw [← HI.out.high _ (by omega)]
                obtain ⟨h1, h2⟩ := List.getElem?_eq_some_iff.1 hx
                rw [getElem!_pos dk.toArray _ (by simpa using h1)]; simpa using h2
              have hgy : s.toArray[k + 1 + (p + 1)]! = y2 := by
                rw [← HI.out.high _ (by omega)]
                obtain ⟨h1, h2⟩ := List.getElem?_eq_some_iff.1 hy
                rw [getElem!_pos dk.toArray _ (by simpa using h1)]; simpa using h2
              have z3 : (p : Int) + 1 - 1 = (p : Int) := by omega
              have z4 : ((p : Int) + 1).toNat = p + 1 := by omega
              have Hgx := Lib.hid hgx
              have Hgy := Lib.hid hgy
              clear hx hy hgx hgy
              by_cases hxy : y2 = x2
              · have Hxy := Lib.hid hxy
                clear hxy
                go_wp2_with fail
                refine wp_region_quiet_lit (by kernel_rfl) (by kernel_rfl) ?_
                repeat (first | (refine quiet_load rfl 26 (.tmp 37) rfl b ((k + 1) * 6 + (p + 1) * 6) rfl (rq y2) _ HR2.out Try.underlying26 rfl rst_sizeR ?_; intro K hK; go_simp; refine hK _ ?_; clear hK K) | (refine quiet_load rfl 26 (.tmp 42) rfl b ((k + 1) * 6 + p * 6) rfl (rq x2) _ HR1.out Try.underlying26 rfl rst_sizeR ?_; intro K hK; go_simp; refine hK _ ?_; clear hK K) | (refine quiet_val rfl (.bool false) (fun w hC => (exec_neq_req (.tmp 38) (.tmp 43) _ rfl y2 x2 rfl rfl).trans (by simp [Hxy.out])) ?_; intro K hK; go_simp; refine hK _ ?_; clear hK K) | go_big_quiet_step (fail))
                refine wpQuiet_nil ?_
                intro _ hw'
                obtain ⟨nq, hw''⟩ := hw'
                subst hw''
                go_wp2_with fail
                go_roundw
                case rel => exact ⟨kk, p + 1, dk, rfl, by go_num, by omega, by omega, Lib.hid (HI.out.skip (keeps_neg (by omega) (by rw [show k + 1 + (p + 1) - 1 = k + 1 + p by omega, Hgx.out, Hgy.out]; exact Hxy.out))), Lib.hid HO.out, Lib.hid (HF.out.drewN _)⟩
                case measure => simp [intOf]; omega
              · have Hxy := Lib.hid hxy
                clear hxy
                go_wp2_with fail
                refine wp_region_quiet_lit (by kernel_rfl) (by kernel_rfl) ?_
                repeat (first | (refine quiet_load rfl 26 (.tmp 37) rfl b ((k + 1) * 6 + (p + 1) * 6) rfl (rq y2) _ HR2.out Try.underlying26 rfl rst_sizeR ?_; intro K hK; go_simp; refine hK _ ?_; clear hK K) | (refine quiet_load rfl 26 (.tmp 42) rfl b ((k + 1) * 6 + p * 6) rfl (rq x2) _ HR1.out Try.underlying26 rfl rst_sizeR ?_; intro K hK; go_simp; refine hK _ ?_; clear hK K) | (refine quiet_val rfl (.bool true) (fun w hC => (exec_neq_req (.tmp 38) (.tmp 43) _ rfl y2 x2 rfl rfl).trans (by simp [Hxy.out])) ?_; intro K hK; go_simp; refine hK _ ?_; clear hK K) | go_big_quiet_step (fail))
                refine wpQuiet_nil ?_
                intro _ hw'
                obtain ⟨nq, hw''⟩ := hw'
                subst hw''
                obtain ⟨hs1, hs2⟩ := cpt_set (w := wr.drewN nq) (i := kk) y2 HO.out Hdl.out (by omega)
                have HS1 := Lib.hid hs1
                have HS2 := Lib.hid ((HF.out.drewN nq).trans hs2 (fun _ h => Or.inl h))
                have hT : (wr.drewN nq).there b (kk * 6) 6 := cpt_there HO.out (by omega)
                have HT := Lib.hid (run_storeCells_cells (P := Try.prog) b (kk * 6) (rq y2) 0 (wr.drewN nq) (fun j hj => (hT j hj).1) (fun j hj => (hT j hj).2) (rq_one y2))
                have HR3 := Lib.hid (HR2.out _ ⟨nq, rfl⟩)
                clear hs1 hs2 hT
                go_wp2_with (first | (refine list_load rfl 26 (.tmp 49) rfl b ((k + 1) * 6 + (p + 1) * 6) rfl (rq y2) _ HR3.out Try.underlying26 rfl rst_sizeR ?_))
                rw [HT.out, Nat.add_zero]
                go_wp2_with fail
                go_roundw
                case rel => exact ⟨kk + 1, p + 1, dk.set kk y2, by go_num, by go_num, by omega, by omega, Lib.hid (by
                  have := HI.out.keep (by simp; rw [Hn.out]; omega) (keeps_pos (by rw [show k + 1 + (p + 1) - 1 = k + 1 + p by omega, Hgx.out, Hgy.out]; exact Hxy.out))
                  rw [Hgy.out, List.setIfInBounds_toArray] at this
                  exact this), HS1, HS2⟩
                case measure => simp [intOf]; omega
            · have hend : k + 1 + (p + 1) = n := by omega
              have d3 : decide ((p : Int) + 1 < ((n - (k + 1) : Nat) : Int)) = false := by simp; omega
              have hcl := fun ty => cpt_clear wr ty b (kk * 6) (n - kk) (c - kk) (by omega) (cpt_there HO.out (by omega))
              obtain ⟨hs1, hs2⟩ := cpt_own (w := wr) (o := kk * 6) (vs := (List.replicate (n - kk) (⟨0, 0, 0, 0, 0, 0⟩ : Psp.Req)).flatMap rq) HO.out (by rw [od_len, List.length_replicate]; omega)
              have HS1 := Lib.hid hs1
              have HS2 := Lib.hid (HF.out.trans hs2 (fun _ h => Or.inl h))
              clear hs1 hs2
              go_wp2_with fail
              go_ret
              have hI := HI.out
              rw [hend] at hI
              have hce : compact s = compactUpTo s.toArray n := by unfold compact; rw [Hn.out]
              have hkl : (compact s).length = kk := by rw [hce]; exact hI.len
              refine ⟨by rw [hkl]; rfl, by omega, ⟨dk.take kk ++ List.replicate (n - kk) ⟨0, 0, 0, 0, 0, 0⟩, ?_, ?_⟩, HS2.out⟩
              · have := HS1.out
                rw [List.drop_of_length_le (by rw [od_len, od_len, List.length_replicate, Hdl.out]; omega), List.append_nil, od_take, ← List.flatMap_append] at this
                exact this
              · rw [hkl, List.take_append_of_le_length (by rw [List.length_take, Hdl.out]; omega), List.take_take, Nat.min_self, hce]
                apply List.ext_getElem?
                intro j
                by_cases hj : j < kk
                · rw [hI.low j hj, List.getElem?_take, if_pos hj, getElem!_pos dk.toArray j (by simp; rw [Hdl.out]; omega), List.getElem_toArray, List.getElem?_eq_getElem]
                · rw [List.getElem?_eq_none (by rw [List.length_take]; omega), List.getElem?_eq_none (by rw [hI.len]; omega)]
        · have Hxy := Lib.hid hxy
          clear hxy
          go_wp2_with fail
          refine wp_region_quiet_lit (by kernel_rfl) (by kernel_rfl) ?_
          repeat (first | (refine quiet_load rfl 26 (.tmp 18) rfl b ((k + 1) * 6) rfl (rq y) _ HQ2.out Try.underlying26 rfl rst_sizeR ?_; intro K hK; go_simp; refine hK _ ?_; clear hK K) | (refine quiet_load rfl 26 (.tmp 23) rfl b (k * 6) rfl (rq x) _ HQ1.out Try.underlying26 rfl rst_sizeR ?_; intro K hK; go_simp; refine hK _ ?_; clear hK K) | (refine quiet_val rfl (.bool false) (fun w hC => (exec_eql_req (.tmp 19) (.tmp 24) _ rfl y x rfl rfl).trans (by simp [Hxy.out])) ?_; intro K hK; go_simp; refine hK _ ?_; clear hK K) | go_big_quiet_step (fail))
          refine wpQuiet_nil ?_
          intro _ hw'
          obtain ⟨nq, hw''⟩ := hw'
          subst hw''
          go_wp2_with fail
          go_roundw
          case rel => exact ⟨k + 1, q + nq, by go_num, by omega, rfl, Lib.hid (fun j hj => by
            by_cases hjk : j = k + 1
            · subst hjk; exact keeps_pos (by rw [Nat.add_sub_cancel, Hgx.out, Hgy.out]; exact Hxy.out)
            · exact H0.out j (by omega))⟩
          case measure => simp [intOf]; omega
      · obtain rfl : n = k + 1 := by omega
        have d2 : decide ((k : Int) + 1 < ((k + 1 : Nat) : Int)) = false := by simp
        go_wp2_with fail
        go_ret
        have e := HA.out _ rfl H0.out
        exact ⟨by rw [e, Hn.out]; rfl, by rw [e, Hn.out]; exact Nat.le_refl _, ⟨s, HO0.out, by rw [e, List.take_length]⟩, (Fp.refl _ _).drewN _⟩
end Go.Proofs.Ytnlnkcljehafkaa
