/- slices.Clone of requests, psephoskeep.Copy of requests; reqs.Order. -/
import Derived.Test.YtnlnkcljehafkaaCpt
import Derived.Shelf.SlSortCmp.NoneTotal
import Derived.Deep.CutBlock
namespace Go.Proofs.Ytnlnkcljehafkaa
open Go.RowKit
set_option linter.unusedVariables false

set_option maxRecDepth 100000 in
set_option maxHeartbeats 2000000 in
theorem copy_any (l : List Psp.Req) (n : Nat) (v : Value) (w : World) (P : Nat → Prop) (hx : RdP w P 6 v n (l.flatMap rq)) (hbig : n ≤ 1099511627776) :
    Calls Try.prog 7 #[v] w fun e w' => ∃ A c, e = .returned (.slice A n c) ∧ w'.ownsRow w.heap.size 26 6 (.slice A n c) n (l.flatMap rq) ∧ Below w.heap.size w w' := by
  have Hr := Lib.hid hx.to_rd
  obtain ⟨_, A, c, rfl, hc1, hc2, _⟩ := hx.parts
  have Hone := Lib.hid (od_one l)
  clear hx
  go_enter Try.func7, Try.ntmps7
  go_wp2_with (at_builtin; refine wpList_app reqE rfl _ _ rfl w.heap.size _ 0 [] rfl (World.ownsRow_nil _ _ _ _) w.heap.size _ n _ rfl Hr.out Hone.out (by unfold maxLen; omega) (by omega) (Nat.le_refl _) ?_; intro v' w1 hown1 hg1 _; have hbel1 : Below w.heap.size w w1 := (Below.refl _ _).grown hg1 (Nat.le_refl _) (fun k hk => by simp [Act.eval, Value.ownBlock] at hk); clear hg1; rw [Nat.zero_add, List.nil_append] at hown1; obtain ⟨A', c', rfl, _, _, _⟩ := own_slice hown1)
  go_ret
  exact ⟨A', c', rfl, hown1, hbel1⟩

set_option maxRecDepth 100000 in
set_option maxHeartbeats 2000000 in
theorem clone_nil (w : World) (n c : Nat) :
    Calls Try.prog 22 #[.slice none n c] w fun e w' => e = .returned (.slice none 0 0) ∧ w' = w := by
  have q22 : ∀ (w : World) (a : Option Addr) (n c n' c' : Nat), (binOp .eql 22 (.slice a n c) (.slice none n' c')).run Try.prog w = .ok (.bool a.isNone) w := fun w a n c n' c' => Lib.run_eql_slice_nil w _ _ a n c n' c' Try.underlying22
  go_enter Try.func22, Try.ntmps22
  go_wp2_with fail
  go_ret
  exact ⟨rfl, rfl⟩
set_option maxRecDepth 100000 in
set_option maxHeartbeats 2000000 in
theorem clone_some (xs : List Value) (n c : Nat) (ad : Addr) (w : World) (P : Nat → Prop) (hx : RdP w P 6 (.slice (some ad) n c) n xs) (h1 : ∀ u ∈ xs, u.oneCell' = true) (hbig : n ≤ 1099511627776) :
    Calls Try.prog 22 #[.slice (some ad) n c] w fun e w' => ∃ A c, e = .returned (.slice A n c) ∧ w'.ownsRow w.heap.size 26 6 (.slice A n c) n xs ∧ Below w.heap.size w w' := by
  have q22 : ∀ (w : World) (a : Option Addr) (n c n' c' : Nat), (binOp .eql 22 (.slice a n c) (.slice none n' c')).run Try.prog w = .ok (.bool a.isNone) w := fun w a n c n' c' => Lib.run_eql_slice_nil w _ _ a n c n' c' Try.underlying22
  have Hr := Lib.hid ((hx.below (alloc_below w (.cells #[] 26))).to_rd)
  have Hone := Lib.hid h1
  clear hx h1
  go_enter Try.func22, Try.ntmps22
  go_wp2_with (at_builtin; refine wpList_app reqE rfl _ _ rfl w.heap.size _ 0 [] rfl (World.ownsRow_made w #[] 0 (Nat.le_refl _) (Nat.zero_le _) rfl) _ _ n _ rfl Hr.out Hone.out (by unfold maxLen; omega) (by omega) (by simp) ?_; intro v' w1 hown1 hg1 _; have hbel1 : Below w.heap.size w w1 := ((Below.refl _ _).alloc (Nat.le_refl _) _).grown hg1 (by simp) (fun k hk => by simp [Act.eval, Value.ownBlock] at hk; omega); clear hg1; rw [Nat.zero_add, List.nil_append] at hown1; obtain ⟨A', c', rfl, _, _, _⟩ := own_slice hown1)
  go_ret
  exact ⟨A', c', rfl, hown1, hbel1⟩
theorem clone_any (xs : List Value) (n : Nat) (v : Value) (w : World) (P : Nat → Prop) (hx : RdP w P 6 v n xs) (h1 : ∀ u ∈ xs, u.oneCell' = true) (hbig : n ≤ 1099511627776) :
    Calls Try.prog 22 #[v] w fun e w' => ∃ A c, e = .returned (.slice A n c) ∧ w'.ownsRow w.heap.size 26 6 (.slice A n c) n xs ∧ Below w.heap.size w w' := by
  obtain ⟨hl, A, c, rfl, hc1, hc2, hcell⟩ := hx.parts
  rcases A with _ | ad
  · have hn : n = 0 := by
      rcases Nat.eq_zero_or_pos n with h | h
      · exact h
      · obtain ⟨_, _, h', _⟩ := hcell h; cases h'
    subst hn
    obtain rfl := List.eq_nil_of_length_eq_zero (by simpa using hl)
    refine (clone_nil w 0 c).mono ?_
    rintro e w' ⟨rfl, rfl⟩
    exact ⟨none, 0, rfl, World.ownsRow_nil _ _ _ _, Below.refl _ _⟩
  · exact clone_some xs n c ad w P hx h1 hbig

theorem sort_any (base n : Nat) (v : Value) (l : List Psp.Req) (w : World) (hn : l.length = n) (hown : w.ownsRow base 26 6 v n (l.flatMap rq)) (hbig : n ≤ 1099511627776) :
    Calls Try.prog 23 #[v, .func (.func 15) #[] #[]] w fun e w' =>
      e = .returned (.tuple #[]) ∧ ∃ s : List Psp.Req, s.Perm l ∧ Psp.Le s ∧ w'.ownsRow base 26 6 v n (s.flatMap rq) ∧ Fp (fun b => v.ownBlock = some b) w w' := by
  rcases hown.2 with ⟨rfl, h0⟩ | ⟨g, cap, cur, rfl, h2, h3, h4, h5, h6, h7⟩
  · have h := AnyF.slices_SortFunc_none Try.sortR none 0 (.func (.func 15) #[] #[]) w
    change Calls Try.prog 23 _ _ _ at h
    have : l = [] := List.eq_nil_of_length_eq_zero (by rw [hn]; exact h0)
    subst this
    refine h.mono ?_
    rintro e w' ⟨rfl, rfl⟩
    exact ⟨rfl, [], List.Perm.refl _, List.Pairwise.nil, hown, Fp.refl _ _⟩
  · refine (srt_any base g cap n l w hn hown (by omega)).mono ?_
    rintro e w' ⟨rfl, s, h1, h2, h3, h4⟩
    exact ⟨rfl, s, h1, h2, h3, h4.mono fun k _ hk => by rw [hk]; rfl⟩

set_option maxRecDepth 100000 in
set_option maxHeartbeats 1000000 in
theorem compact_nil (w : World) : Calls Try.prog 24 #[.slice none 0 0] w fun e w' => e = .returned (.slice none 0 0) ∧ w' = w := by
  go_enter Try.func24, Try.ntmps24
  go_wp2_with fail
  go_ret
  exact ⟨rfl, rfl⟩
theorem compact_all (base n : Nat) (v : Value) (s : List Psp.Req) (w : World) (hown : w.ownsRow base 26 6 v n (s.flatMap rq)) :
    Calls Try.prog 24 #[v] w fun e w' => ∃ A c, e = .returned (.slice A (Lib.compact s).length c) ∧ (Lib.compact s).length ≤ n ∧ w'.ownsRow base 26 6 (.slice A (Lib.compact s).length c) (Lib.compact s).length ((Lib.compact s).flatMap rq) ∧ Fp (fun b => v.ownBlock = some b) w w' := by
  rcases hown.2 with ⟨rfl, h0⟩ | ⟨g, cap, cur, rfl, h2, h3, h4, h5, h6, h7⟩
  · have hl : s = [] := by
      have := hown.1
      rw [od_len, h0] at this
      exact List.eq_nil_of_length_eq_zero (by omega)
    subst hl
    refine (compact_nil w).mono ?_
    rintro e w' ⟨rfl, rfl⟩
    exact ⟨none, 0, rfl, Nat.zero_le _, ⟨rfl, Or.inl ⟨rfl, rfl⟩⟩, Fp.refl _ _⟩
  · refine (compact_any base g cap n s w hown).mono ?_
    rintro e w' ⟨rfl, hle, ⟨r, hr, ht⟩, hf⟩
    refine ⟨_, cap, rfl, hle, ?_, hf.mono fun k _ hk => by rw [hk]; rfl⟩
    have := od_pre hr hle
    rw [ht] at this
    exact this

/-- reqs.Order. -/
theorem qorder_any (l : List Psp.Req) (n : Nat) (v : Value) (w : World) (P : Nat → Prop) (hx : RdP w P 6 v n (l.flatMap rq)) (hn : l.length = n) (hbig : n ≤ 1099511627776) :
    Calls Try.prog 8 #[v] w fun e w' => ∃ A c, e = .returned (.slice A (Psp.ordR l).length c) ∧ w'.ownsRow w.heap.size 26 6 (.slice A (Psp.ordR l).length c) (Psp.ordR l).length ((Psp.ordR l).flatMap rq) ∧ Below w.heap.size w w' := by
  have HX := Lib.hid hx
  have Hone := Lib.hid (od_one l)
  clear hx
  go_enter Try.func8, Try.ntmps8
  go_wp2_with fail
  refine (clone_any (l.flatMap rq) n v w P HX.out Hone.out hbig).mono ?_
  rintro e w1 ⟨A1, c1, rfl, hown1, hb1⟩
  have HO1 := Lib.hid hown1
  have HB1 := Lib.hid hb1
  clear hown1 hb1
  go_wp2_with fail
  refine (sort_any w.heap.size n (.slice A1 n c1) l w1 hn HO1.out hbig).mono ?_
  rintro e w2 ⟨rfl, s, hp, hs, hown2, hf2⟩
  have HO2 := Lib.hid hown2
  have HS := Lib.hid (Psp.cpt_ord hp hs)
  have HB2 := Lib.hid (HB1.out.trans (hf2.to_below (B := w.heap.size) HB1.out.size fun k _ hk => (HO1.out.lt k hk).1))
  clear hown2 hf2 hp hs HO1 HB1
  go_wp2_with fail
  refine (compact_all w.heap.size n (.slice A1 n c1) s w2 HO2.out).mono ?_
  rw [HS.out]
  rintro e w3 ⟨A3, c3, rfl, hle, hown3, hf3⟩
  have HO3 := Lib.hid hown3
  have HB3 := Lib.hid (HB2.out.trans (hf3.to_below (B := w.heap.size) HB2.out.size fun k _ hk => (HO2.out.lt k hk).1))
  clear hown3 hf3
  go_wp2_with fail
  refine (clone_any ((Psp.ordR l).flatMap rq) (Psp.ordR l).length (.slice A3 (Psp.ordR l).length c3) w3 _ (RdP.of_own HO3.out) (od_one _) (by omega)).mono ?_
  rintro e w4 ⟨A4, c4, rfl, hown4, hb4⟩
  have HO4 := Lib.hid (own_more hown4 HB3.out.size)
  have HB4 := Lib.hid (Below.then HB3.out hb4 HB3.out.size)
  clear hown4 hb4
  go_wp2_with fail
  go_ret
  exact ⟨A4, c4, rfl, HO4.out, HB4.out⟩
end Go.Proofs.Ytnlnkcljehafkaa
