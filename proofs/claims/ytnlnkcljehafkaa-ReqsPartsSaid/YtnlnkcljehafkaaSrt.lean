/- slices.SortFunc over reqs.Compare. The first theorem is printed out of XCmp by gen_srt.py. -/
import Derived.Test.YtnlnkcljehafkaaShelf
import Derived.Test.YtnlnkcljehafkaaOrdP
import Derived.Test.YtnlnkcljehafkaaOrdR
namespace Go.Proofs.Ytnlnkcljehafkaa
open Go.RowKit
set_option linter.unusedVariables false

instance : Inhabited Psp.Req := ⟨⟨0, 0, 0, 0, 0, 0⟩⟩

set_option maxRecDepth 100000 in
set_option maxHeartbeats 4000000 in
theorem compare_grow (a b : Psp.Req) (w : World) :
    Calls Try.prog 15 #[.agg #[.int .i64 a.c, .int .i64 a.t, .int .i64 a.k, .int .i64 a.y, .int .i64 a.v, .int .i64 a.s], .agg #[.int .i64 b.c, .int .i64 b.t, .int .i64 b.k, .int .i64 b.y, .int .i64 b.v, .int .i64 b.s]] w fun e w' =>
      e = .returned (.int .i64 (Psp.cmpR a b)) ∧ ∃ q os', w' = Go.Sort.grow (w.drewN q) os' := by
  obtain ⟨W, hW⟩ : ∃ W, W = (w.alloc (.cells #[.int .i64 a.c, .int .i64 a.t, .int .i64 a.k, .int .i64 a.y, .int .i64 a.v, .int .i64 a.s] 26)).alloc (.cells #[.int .i64 b.c, .int .i64 b.t, .int .i64 b.k, .int .i64 b.y, .int .i64 b.v, .int .i64 b.s] 26) := ⟨_, rfl⟩
  have hB : Below w.heap.size w W := by rw [hW]; exact (alloc_below w _).trans ((alloc_below _ _).mono (by simp))
  have hr1 : W.heap[w.heap.size]? = some (.cells #[.int .i64 a.c, .int .i64 a.t, .int .i64 a.k, .int .i64 a.y, .int .i64 a.v, .int .i64 a.s] 26 (0, 0)) := by rw [hW]; exact ((alloc_below _ _).block w.heap.size (by simp)).trans (heap_alloc_new w _)
  have hr2 : W.heap[w.heap.size + 1]? = some (.cells #[.int .i64 b.c, .int .i64 b.t, .int .i64 b.k, .int .i64 b.y, .int .i64 b.v, .int .i64 b.s] 26 (0, 0)) := by
    rw [hW]; simpa using heap_alloc_new (w.alloc (.cells #[.int .i64 a.c, .int .i64 a.t, .int .i64 a.k, .int .i64 a.y, .int .i64 a.v, .int .i64 a.s] 26)) (.cells #[.int .i64 b.c, .int .i64 b.t, .int .i64 b.k, .int .i64 b.y, .int .i64 b.v, .int .i64 b.s] 26)
  obtain ⟨x0, x1, x2, x3, x4, x5, _⟩ := rst_cells (r := a) hr1
  obtain ⟨y0, y1, y2, y3, y4, y5, _⟩ := rst_cells (r := b) hr2
  have HW := Lib.hid hW
  have HB := Lib.hid hB
  clear hW hB hr1 hr2
  go_enter Try.func15, Try.ntmps15
  go_wp2_with fail
  rw [← HW.out]
  refine wp_region_still_tail_drew 36 (by kernel_rfl) (by kernel_rfl) ?_
  simp only [List.take_succ_cons, List.take_zero, List.drop_succ_cons, List.drop_zero]
  repeat (first | still_call (cmp_any _ _ _) | still_step)
  refine wpStill_nil ?_
  have hcell : ∀ j x, ([Psp.cmpI a.c b.c, Psp.cmpI a.t b.t, Psp.cmpI a.k b.k, Psp.cmpI a.y b.y, Psp.cmpI a.v b.v, Psp.cmpI a.s b.s] : List Int)[j]? = some x → (W.drew.alloc (.cells #[.int .i64 (Psp.cmpI a.c b.c), .int .i64 (Psp.cmpI a.t b.t), .int .i64 (Psp.cmpI a.k b.k), .int .i64 (Psp.cmpI a.y b.y), .int .i64 (Psp.cmpI a.v b.v), .int .i64 (Psp.cmpI a.s b.s)] 3)).cell? ⟨W.heap.size, j, none⟩ = some (.int .i64 x) := by
    intro j x hx
    rw [show W.heap.size = W.drew.heap.size from rfl, cell_of_row _ W.drew.heap.size j _ _ _ (heap_alloc_new W.drew _)]
    match j, hx with
    | 0, hx => simpa using hx
    | 1, hx => simpa using hx
    | 2, hx => simpa using hx
    | 3, hx => simpa using hx
    | 4, hx => simpa using hx
    | 5, hx => simpa using hx
  have Hcell := Lib.hid hcell
  clear hcell
  go_wp2_with fail
  refine (or_any W.heap.size 6 6 [Psp.cmpI a.c b.c, Psp.cmpI a.t b.t, Psp.cmpI a.k b.k, Psp.cmpI a.y b.y, Psp.cmpI a.v b.v, Psp.cmpI a.s b.s] _ rfl (Nat.le_refl _) (by unfold maxLen; omega) Hcell.out).mono ?_
  rintro e w' ⟨rfl, rfl⟩
  go_wp2_with fail
  go_ret
  exact ⟨rfl, 1, _, by rw [HW.out]; simp only [Go.Sort.alloc_eq_grow, Go.Sort.grow_grow, Go.Sort.drew_grow]; rfl⟩

theorem srt_swo : Go.Sort.SWO (ltOf Psp.cmpR) where
  irrefl x := by unfold ltOf; rw [Psp.cmpR_zero.2 rfl]; rfl
  trans x y z h1 h2 := by
    unfold ltOf at *
    rw [decide_eq_true_eq] at *
    exact Psp.cmpR_lt_trans h1 h2
  ntrans x y z h1 h2 := by
    unfold ltOf at *
    rw [decide_eq_false_iff_not] at *
    have := Psp.cmpR_ge (a := x) (b := y) (c := z) (by omega) (by omega)
    omega
theorem srt_agg (w : World) : (isAgg 26).run Try.prog w = .ok true w := by kernel_rfl
theorem srt_size (w : World) : (Go.sizeOf 26).run Try.prog w = .ok 6 w := by kernel_rfl
theorem srt_lays (blk off size : Nat) (w : World) : CmpLays Try.prog 15 #[] rq 6 Psp.cmpR blk off size w := fun _ _ _ _ x y => compare_grow x y _
theorem srt_flat (d : Array Psp.Req) : (Go.Sort.flatK rq 6 d).toList = d.toList.flatMap rq := by
  apply List.ext_getElem?
  intro t
  have hs : (Go.Sort.flatK rq 6 d).size = d.size * 6 := by simp
  by_cases ht : t < d.size * 6
  · have hd : t / 6 < d.size := by omega
    have hm : t % 6 < 6 := by omega
    have h1 := flat_get (f := rq) (k := 6) (fun _ => rfl) d.toList (t / 6) (t % 6) hm
    rw [show t / 6 * 6 + t % 6 = t by omega] at h1
    rw [h1, Array.getElem?_toList, Array.getElem?_eq_getElem (by rw [hs]; exact ht), Array.getElem?_toList, Array.getElem?_eq_getElem hd]
    have h2 := Go.Sort.get_flatK rq 6 d t ht
    rw [getElem!_pos _ t (by rw [hs]; exact ht), getElem!_pos d (t / 6) hd, getElem!_pos (rq d[t / 6]) (t % 6) hm] at h2
    rw [h2]
    simp [List.getElem?_eq_getElem (show t % 6 < (rq d[t / 6]).length from hm)]
    rfl
  · rw [List.getElem?_eq_none (by simp; omega), List.getElem?_eq_none (by rw [od_len]; simp; omega)]
theorem srt_world (w : World) (blk m : Nat) (d : Array Psp.Req) (os : Array Obj) (cur : Array Value) (T : TypeId) (h : w.heap[blk]? = some (.cells cur T (0, 0))) (hs : d.size * 6 ≤ cur.size) :
    Fp (fun b => b = blk) w (sortWorldK rq 6 w blk 0 m d os) ∧ ∃ cur' : Array Value, (sortWorldK rq 6 w blk 0 m d os).heap[blk]? = some (.cells cur' T (0, 0)) ∧ cur'.size = cur.size ∧ cur'.toList.take (d.size * 6) = d.toList.flatMap rq := by
  have hlt : blk < w.heap.size := (Array.getElem?_eq_some_iff.1 h).1
  have hsz : (Go.Sort.putRowK rq 6 (Go.Sort.ahead w m) blk 0 d).heap.size = w.heap.size := by
    show (w.heap.modify blk _).size = _
    simp
  have hb : ∀ b, b < w.heap.size → (sortWorldK rq 6 w blk 0 m d os).heap[b]? = (w.heap.modify blk (Go.Sort.onCells (Go.Sort.putCells id 0 (Go.Sort.flatK rq 6 d))))[b]? := fun b hb => by
    unfold sortWorldK
    rw [Go.Sort.heap_grow_old _ _ (by rw [hsz]; exact hb)]
    rfl
  refine ⟨⟨rfl, rfl, rfl, by unfold sortWorldK; rw [Go.Sort.size_grow, hsz]; omega, fun b hb1 hne => ?_⟩, Go.Sort.putCells id 0 (Go.Sort.flatK rq 6 d) cur, ?_, by simp [Go.Sort.putCells], ?_⟩
  · rw [hb b hb1, Array.getElem?_modify, if_neg (fun e => hne e.symm)]
  · rw [hb blk hlt, Array.getElem?_modify, if_pos rfl, h]; rfl
  · apply List.ext_getElem?
    intro t
    rw [← srt_flat]
    by_cases ht : t < d.size * 6
    · rw [List.getElem?_take, if_pos ht, Array.getElem?_toList, Array.getElem?_toList]
      have hf : (Go.Sort.flatK rq 6 d).size = d.size * 6 := by simp
      unfold Go.Sort.putCells
      rw [Array.getElem?_mapIdx, Array.getElem?_eq_getElem (show t < cur.size by omega), Array.getElem?_eq_getElem (by rw [hf]; exact ht)]
      simp only [Option.map_some, Nat.zero_le, true_and, Nat.zero_add, Nat.sub_zero, id]
      rw [if_pos (by rw [hf]; exact ht), getElem!_pos _ t (by rw [hf]; exact ht)]
    · rw [List.getElem?_eq_none (by rw [List.length_take]; omega), List.getElem?_eq_none (by simp; omega)]

set_option maxHeartbeats 1000000 in
theorem srt_any (base blk c n : Nat) (l : List Psp.Req) (w : World) (hn : l.length = n) (hown : w.ownsRow base 26 6 (.slice (some ⟨blk, 0, none⟩) n c) n (l.flatMap rq)) (hbig : n < 4611686018427387904) :
    Calls Try.prog 23 #[.slice (some ⟨blk, 0, none⟩) n c, .func (.func 15) #[] #[]] w fun e w' =>
      e = .returned (.tuple #[]) ∧ ∃ s : List Psp.Req, s.Perm l ∧ Psp.Le s ∧ w'.ownsRow base 26 6 (.slice (some ⟨blk, 0, none⟩) n c) n (s.flatMap rq) ∧ Fp (fun b => b = blk) w w' := by
  rcases hown.2 with ⟨h1, _⟩ | ⟨g, cap, cur, h1, h2, h3, h4, h5, h6, h7⟩
  · cases h1
  · injection h1 with e1 _ e3
    injection e1 with e1
    injection e1 with e1
    subst e1 e3
    have hsize : l.toArray.size = n := by simpa using hn
    have hblk : blk < w.heap.size := (Array.getElem?_eq_some_iff.1 h3).1
    have hH : Go.Sort.HoldsK rq 6 w blk 0 l.toArray := by
      intro j hj
      have hj' : j < n * 6 := by simpa [hn] using hj
      rw [Nat.zero_add]
      refine ⟨?_, frozen_of_row w blk j _ _ h3⟩
      rw [cell_of_row w blk j _ _ _ h3, ← Array.getElem?_toList]
      have h8 : (cur.toList.take (n * 6))[j]? = ((Go.Sort.flatK rq 6 l.toArray).toList)[j]? := by rw [h7, srt_flat]
      rw [List.getElem?_take, if_pos hj'] at h8
      rw [h8, Array.getElem?_toList, Array.getElem?_eq_getElem hj, getElem!_pos _ j hj]
      rfl
    have eg : ∀ args w, (callFunc 15 args).run Try.prog w = .ok (.enter 15 args) w := enters_of Try.func15 (by kernel_rfl) rfl
    have hcon := AnyQ.slices_SortFunc Try.sortR 6 srt_agg srt_size rq (fun _ => rfl) rq_one Psp.cmpR srt_swo 15 #[] blk 0 c l.toArray w eg (srt_lays blk 0 l.toArray.size w) hH hblk (by rw [hsize]; exact hbig)
    rw [hsize] at hcon
    change Calls Try.prog 23 _ _ _ at hcon
    refine hcon.mono ?_
    rintro e w' ⟨rfl, d', m, os, hp, hs, rfl⟩
    have hd : d'.size = n := by rw [hp.1, hsize]
    obtain ⟨f1, cur', f2, f3, f4⟩ := srt_world w blk m d' os cur _ h3 (by rw [hd, h6]; exact Nat.mul_le_mul_right 6 h4)
    refine ⟨rfl, d'.toList, ?_, ?_, ⟨by rw [od_len]; simp [hd], Or.inr ⟨blk, c, cur', rfl, h2, f2, h4, h5, by rw [f3, h6], by rw [← hd]; exact f4⟩⟩, f1⟩
    · have := hp.2.2
      rw [Array.extract_eq_self_of_le (by omega), Array.extract_eq_self_of_le (by omega)] at this
      simpa using this
    · unfold Psp.Le
      rw [List.pairwise_iff_getElem]
      intro i j hi hj hij
      have hi' : i < d'.size := by simpa using hi
      have hj' : j < d'.size := by simpa using hj
      have := hs i j (Nat.zero_le _) hij (by rw [← hd]; exact hj')
      unfold ltOf at this
      rw [decide_eq_false_iff_not, getElem!_pos d' j hj', getElem!_pos d' i hi', Psp.cmpR_swap] at this
      simp only [Array.getElem_toList]
      omega
end Go.Proofs.Ytnlnkcljehafkaa
