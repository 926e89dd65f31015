/- Clone of the program's table. -/
import Derived.Test.YtmbdailffhdonaaRfq
namespace Go.Proofs.Ytmbdailffhdonaa
open Go.RowKit
set_option linter.unusedVariables false
set_option linter.unusedSimpArgs false

set_option maxRecDepth 100000 in
set_option maxHeartbeats 4000000 in
theorem pclone_m (S : Nat → Prop) (g : Nat) (f cl : Int) (l : List Psp.Told) (w : World) (hT : Tab w S g f cl l) :
    Calls Try.prog 24 #[.pointer (some ⟨g, 0, none⟩)] w fun e w' => ∃ g', e = .returned (.pointer (some ⟨g', 0, none⟩)) ∧ Tab w' (fun k => w.heap.size ≤ k ∧ k < w'.heap.size) g' f cl l ∧ Below w.heap.size w w' ∧ w.heap.size ≤ g' := by
  have HT := Lib.hid hT
  have hlen := hT.len
  obtain ⟨v, h1, h2, h3⟩ := hT.ex
  have hr := Rd.of_own h2
  obtain ⟨A, c, rfl, hc1, hc2, _⟩ := own_slice h2
  obtain ⟨n, hn⟩ : ∃ n, l.length = n := ⟨_, rfl⟩
  rw [hn] at h1 hc1 hlen hr
  have l0 := later_cell (w := w.drew) (show w.drew.cell? ⟨g, 0, none⟩ = some (.int .i64 f) from row_c (W := w.drew) h1 0 rfl)
  have l1 := later_cell (w := w.drew) (show w.drew.cell? ⟨g, 1, none⟩ = some (.int .i64 cl) from row_c (W := w.drew) h1 1 rfl)
  have l2 := later_cell (w := w.drew) (show w.drew.cell? ⟨g, 2, none⟩ = some (.slice A n c) from row_c (W := w.drew) h1 2 rfl)
  have hone : ∀ u ∈ l.flatMap tc, u.oneCell' = true := by
    intro u hu
    obtain ⟨t, _, ht⟩ := List.mem_flatMap.1 hu
    exact told_one t u ht
  have Hr : Hid (Rd w.drew w.drew.heap.size 21 (.slice A n c) n (l.flatMap tc)) := Lib.hid (hr.below (Below.refl _ _).drew)
  have Hone := Lib.hid hone
  have Hn := Lib.hid hn
  clear h1 h2 h3 hr hone hT hn
  go_enter Try.func24, Try.ntmps24
  go_upto_region 1 with fail
  refine wp_region_phases [(true, 0), (true, 1), (true, 2), (true, 3), (true, 4), (true, 5), (true, 6), (true, 7), (true, 8), (true, 9), (true, 10), (true, 11), (false, 12), (true, 13), (false, 14), (true, 15)] (by kernel_rfl) (by kernel_rfl) ?_
  simp only [phW, List.getElem?_cons_zero, List.getElem?_cons_succ, Option.toList, List.length_cons, List.length_nil, Nat.reduceAdd, List.drop_succ_cons, List.drop_zero]
  repeat (first | go_big_quiet_step (fail) | quiet_step (fail) | refine wpQuiet_nil ?_)
  clear l0 l1 l2
  go_wp2_with (at_builtin; refine wpList_app toldE rfl _ _ rfl w.drew.heap.size (.slice none 0 0) 0 [] rfl (World.ownsRow_nil _ _ _ _) w.drew.heap.size (.slice A n c) n _ rfl Hr.out Hone.out (by unfold maxLen; omega) (by omega) (Nat.le_refl _) ?_; intro v' w1 hown1 hg1 _; rw [Nat.zero_add, List.nil_append] at hown1; have hbel1 : Below w.drew.heap.size w.drew w1 := (Below.refl _ _).grown hg1 (Nat.le_refl _) (fun k hk => by simp [Act.eval, Value.ownBlock] at hk); have Hown1 := Lib.hid hown1; have Hbel1 := Lib.hid hbel1; clear hg1 hown1 hbel1; obtain ⟨A1, c1, rfl, _, _, _⟩ := own_slice Hown1.out)
  refine And.intro ⟨⟨w1, Hbel1.out⟩, rfl⟩ ?_
  repeat (first | go_big_quiet_step (fail) | quiet_step (fail) | refine wpQuiet_nil ?_)
  go_wp2_with fail
  have Hb2 := Lib.hid (Hbel1.out.alloc Hbel1.out.size (.cells #[.int .i64 f, .int .i64 cl, .slice A1 n c1] 64))
  refine And.intro ⟨⟨_, Hb2.out⟩, rfl⟩ ?_
  repeat (first | go_big_quiet_step (fail) | quiet_step (fail) | refine wpQuiet_nil ?_)
  go_wp2_with fail
  go_ret
  have hz1 := Hbel1.out.size
  have hb2 : Below w.heap.size w (w1.alloc (.cells #[.int .i64 f, .int .i64 cl, .slice A1 n c1] 64)) := (Below.refl w.heap.size w).drew.trans Hb2.out
  have ho : (w1.alloc (.cells #[.int .i64 f, .int .i64 cl, .slice A1 n c1] 64)).ownsRow w.heap.size 68 21 (.slice A1 n c1) n (l.flatMap tc) := own_below Hown1.out (alloc_below _ _)
  have hs : (w1.alloc (.cells #[.int .i64 f, .int .i64 cl, .slice A1 n c1] 64)).heap.size = w1.heap.size + 1 := by simp
  have hz1' : w.heap.size ≤ w1.heap.size := hz1
  refine ⟨w1.heap.size, rfl, ⟨⟨.slice A1 n c1, heap_alloc_new w1 _, ?_, fun k hk => ho.lt k hk⟩, ⟨hz1', by omega⟩, fun k hk => hk.2, HT.out.who, HT.out.len⟩, hb2, hz1'⟩
  rw [Hn.out]
  exact own_more ho (Nat.zero_le _)
end Go.Proofs.Ytmbdailffhdonaa
