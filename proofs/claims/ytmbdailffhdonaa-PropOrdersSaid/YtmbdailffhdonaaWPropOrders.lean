/- The walk of PropOrders. -/
import Derived.Test.YtmbdailffhdonaaOrd
import Derived.Test.YtmbdailffhdonaaOpen
import Derived.Deep.RegionHeld3
import Derived.Deep.AppendLies
namespace Go.Proofs.Ytmbdailffhdonaa.propOrders
open Go.RowKit
set_option linter.unusedVariables false

def pc (x : Psp.Req × Int) : List Value := [iv x.1.c, iv x.1.t, iv x.1.k, iv x.1.y, iv x.1.v, iv x.1.s, iv x.2]
theorem pairE : Elem Try.prog 43 45 7 56 := ⟨by kernel_rfl, by kernel_rfl, by decide⟩
theorem pair_info : (Try.prog.info? 45).map (fun i => (i.zero, i.size, i.bytes)) = some (some (.agg #[.int .i64 0, .int .i64 0, .int .i64 0, .int .i64 0, .int .i64 0, .int .i64 0, .int .i64 0]), 7, 56) := by kernel_rfl
/-- What was laid: pairs of the first requests and nodes. -/
structure PInv (w0 wr : World) (rs : List Psp.Req) (v : Value) (P : List (Psp.Req × Int)) (n : Nat) : Prop where
  own : wr.ownsRow w0.heap.size 45 7 v P.length (P.flatMap pc)
  bel : Below w0.heap.size w0 wr
  mem : ∀ x ∈ P, x.1 ∈ rs ∧ 0 ≤ x.2 ∧ x.2 < 4
  len : P.length = n

theorem pair_cells {w : World} {b : Nat} {P : List (Psp.Req × Int)} (h : Lies w b 0 (P.flatMap pc)) {k : Nat} (hk : k < P.length) {r : Psp.Req} {n : Int} (he : P[k] = (r, n)) :
    w.cell? ⟨b, k * 7, none⟩ = some (.int .i64 r.c) ∧ w.cell? ⟨b, k * 7 + 1, none⟩ = some (.int .i64 r.t) ∧ w.cell? ⟨b, k * 7 + 2, none⟩ = some (.int .i64 r.k) ∧ w.cell? ⟨b, k * 7 + 3, none⟩ = some (.int .i64 r.y) ∧ w.cell? ⟨b, k * 7 + 4, none⟩ = some (.int .i64 r.v) ∧ w.cell? ⟨b, k * 7 + 5, none⟩ = some (.int .i64 r.s) ∧ w.cell? ⟨b, k * 7 + 6, none⟩ = some (.int .i64 n) := by
  have hc : ∀ j v, (pc (r, n))[j]? = some v → w.cell? ⟨b, k * 7 + j, none⟩ = some v := by
    intro j v hv
    have hj : j < 7 := (List.getElem?_eq_some_iff.1 hv).1
    have h1 := flat_get (f := pc) (k := 7) (fun _ => rfl) P k j hj
    rw [List.getElem?_eq_getElem hk, he] at h1
    have h2 := h (k * 7 + j) v (by rw [h1]; exact hv)
    rwa [Nat.zero_add] at h2
  exact ⟨hc 0 _ rfl, hc 1 _ rfl, hc 2 _ rfl, hc 3 _ rfl, hc 4 _ rfl, hc 5 _ rfl, hc 6 _ rfl⟩
/-- Two tables: one hears P, one hears it turned. -/
structure OInv (w0 wr : World) (g g2 : Nat) (A : Option Addr) (P : List (Psp.Req × Int)) (a i j : Nat) (S1 S2 : Nat → Prop) (tl ul : List Psp.Told) : Prop where
  t1 : Tab wr S1 g 1 3 tl
  t2 : Tab wr S2 g2 1 3 ul
  apart : ∀ k, S1 k → ¬ S2 k
  low : ∀ k, S1 k ∨ S2 k → w0.heap.size ≤ k
  h1 : Psp.Heard 1 3 (P.take i) tl
  h2 : Psp.Heard 1 3 ((Psp.turned P a).take j) ul
  bel : Below w0.heap.size w0 wr
  row : 0 < P.length → ∃ b, A = some ⟨b, 0, none⟩ ∧ w0.heap.size ≤ b ∧ b < wr.heap.size ∧ Lies wr b 0 (P.flatMap pc) ∧ ∀ k, S1 k ∨ S2 k → k ≠ b
theorem OInv.put1 {w0 wr w2 w3 : World} {g g2 : Nat} {A : Option Addr} {P : List (Psp.Req × Int)} {a i j : Nat} {S1 S2 : Nat → Prop} {tl ul tl' : List Psp.Told} (h : OInv w0 wr g g2 A P a i j S1 S2 tl ul) (hw2 : Below wr.heap.size wr w2)
    (hT : Tab w3 (fun k => S1 k ∨ (w2.heap.size ≤ k ∧ k < w3.heap.size)) g 1 3 tl') (hF : Fp S1 w2 w3) {i' : Nat} (hH : Psp.Heard 1 3 (P.take i') tl') :
    OInv w0 w3 g g2 A P a i' j (fun k => S1 k ∨ (w2.heap.size ≤ k ∧ k < w3.heap.size)) S2 tl' ul := by
  have s1 := h.bel.size
  have s2 := hw2.size
  have s3 := hF.size
  refine ⟨hT, (h.t2.below hw2).fp hF fun k hk hk2 => h.apart k hk2 hk, fun k hk hk2 => ?_, fun k hk => ?_, hH, h.h2, (h.bel.trans (hw2.mono s1)).trans (hF.to_below (by omega) fun k _ hk => h.low k (Or.inl hk)), fun hn => ?_⟩
  · rcases hk with hk | hk
    · exact h.apart k hk hk2
    · have := h.t2.lt k hk2; omega
  · rcases hk with (hk | hk) | hk
    · exact h.low k (Or.inl hk)
    · omega
    · exact h.low k (Or.inr hk)
  · obtain ⟨b, e, b1, b2, b3, b4⟩ := h.row hn
    refine ⟨b, e, b1, by omega, (b3.keep (hw2.block b b2)).keep (hF.block b (by omega) fun hk => b4 b (Or.inl hk) rfl), fun k hk => ?_⟩
    rcases hk with (hk | hk) | hk
    · exact b4 k (Or.inl hk)
    · omega
    · exact b4 k (Or.inr hk)

theorem OInv.put2 {w0 wr w2 w3 : World} {g g2 : Nat} {A : Option Addr} {P : List (Psp.Req × Int)} {a i j : Nat} {S1 S2 : Nat → Prop} {tl ul ul' : List Psp.Told} (h : OInv w0 wr g g2 A P a i j S1 S2 tl ul) (hw2 : Below wr.heap.size wr w2)
    (hT : Tab w3 (fun k => S2 k ∨ (w2.heap.size ≤ k ∧ k < w3.heap.size)) g2 1 3 ul') (hF : Fp S2 w2 w3) {j' : Nat} (hH : Psp.Heard 1 3 ((Psp.turned P a).take j') ul') :
    OInv w0 w3 g g2 A P a i j' S1 (fun k => S2 k ∨ (w2.heap.size ≤ k ∧ k < w3.heap.size)) tl ul' := by
  have s1 := h.bel.size
  have s2 := hw2.size
  have s3 := hF.size
  refine ⟨(h.t1.below hw2).fp hF fun k hk hk2 => h.apart k hk hk2, hT, fun k hk hk2 => ?_, fun k hk => ?_, h.h1, hH, (h.bel.trans (hw2.mono s1)).trans (hF.to_below (by omega) fun k _ hk => h.low k (Or.inr hk)), fun hn => ?_⟩
  · rcases hk2 with hk2 | hk2
    · exact h.apart k hk hk2
    · have := h.t1.lt k hk; omega
  · rcases hk with hk | hk | hk
    · exact h.low k (Or.inl hk)
    · exact h.low k (Or.inr hk)
    · omega
  · obtain ⟨b, e, b1, b2, b3, b4⟩ := h.row hn
    refine ⟨b, e, b1, by omega, (b3.keep (hw2.block b b2)).keep (hF.block b (by omega) fun hk => b4 b (Or.inr hk) rfl), fun k hk => ?_⟩
    rcases hk with hk | hk | hk
    · exact b4 k (Or.inl hk)
    · exact b4 k (Or.inr hk)
    · omega

set_option maxRecDepth 100000 in
set_option maxHeartbeats 8000000 in
theorem walk_a (v : Value) (l : List Psp.Req) (v2 : Value) (ns : List Int) (a0 : Int) (w : World) (hr : Rd w w.heap.size 6 v l.length (l.flatMap rq)) (hl : ∀ r ∈ l, wfReq r) (hr2 : Rd w w.heap.size 1 v2 ns.length (ns.flatMap fun n => [iv n])) (hl2 : ∀ n ∈ ns, isI64 n) (b0 : isI64 a0) (h40 : 4 < l.length) :
    Calls Try.prog 5 #[v, v2, .int .i64 a0] w fun e w' => e = .returned (.bool true) ∧ Below w.heap.size w w' := by
  rw [flat_one] at hr2
  obtain ⟨c0, d0⟩ := b0
  obtain ⟨hrl, A, cp, rfl, hc1, hc2, hcell⟩ := hr
  obtain ⟨len, hlen⟩ : ∃ len, l.length = len := ⟨_, rfl⟩
  rw [hlen] at hcell hc1 ⊢
  unfold maxLen at hc2
  obtain ⟨hrl2, A2, cp2, rfl, hd1, hd2, hcell2⟩ := hr2
  obtain ⟨len2, hlen2⟩ : ∃ len, ns.length = len := ⟨_, rfl⟩
  rw [hlen2] at hcell2 hd1 ⊢
  unfold maxLen at hd2
  have Hlen := Lib.hid hlen
  have Hcell := Lib.hid hcell
  have Hlen2 := Lib.hid hlen2
  have Hcell2 := Lib.hid hcell2
  have Hl2 := Lib.hid hl2
  obtain ⟨m, hm⟩ : ∃ m, min len 4 = m := ⟨_, rfl⟩
  have m4 : m ≤ 4 := by omega
  have mlen : m ≤ len := by omega
  clear hlen hcell hlen2 hcell2 hl hl2 hrl hrl2
  have h4 : 4 < len := by rw [← Hlen.out]; exact h40
  obtain rfl : m = 4 := by omega
  have d4 : decide (4 < (len : Int)) = true := by simp; omega
  clear hm
  go_enter Try.func5, Try.ntmps5
  go_wp2_with (first | (go_at_call 10; refine (new_any 1 3 w (by omega) (by omega) (by omega) (by omega)).mono ?_; rintro e w1 ⟨g, rfl, hT, hg, hb1⟩; have HT1 := Lib.hid hT; have Hb1 := Lib.hid hb1; have Hg := Lib.hid hg; have hgl := hT.lt g rfl; clear hT hb1 hg) | (go_at_call 10; refine (new_any 1 3 w1 (by omega) (by omega) (by omega) (by omega)).mono ?_; rintro e w2 ⟨g2, rfl, hT, hg, hb1⟩; have HT2 := Lib.hid hT; have Hb2 := Lib.hid hb1; have Hg2 := Lib.hid hg; have hgl2 := hT.lt g2 rfl; clear hT hb1 hg))
  go_loopw [11, 46] (fun v i wr => ∃ (k : Nat) (P : List (Psp.Req × Int)), i = .int .i64 (k : Int) ∧ k ≤ min len 4 ∧ PInv w2 wr (l.take 4) v P (k * min len2 6)) (fun _ i _ => 4 - (intOf i).toNat)
  case atStart => exact ⟨0, [], rfl, Nat.zero_le _, World.ownsRow_nil _ _ _ _, Below.refl _ _, fun x hx => by simp at hx, by simp⟩
  case round =>
    obtain ⟨k, P, rfl, hk, hI⟩ := hrel
    have HI := Lib.hid hI
    clear hI
    by_cases hlt : k < min len 4
    · have dk : decide ((k : Int) < 4) = true := by simp; omega
      go_wp2_with fail
      clear dk
      go_loopw [11, 13] (fun v i wr => ∃ (j : Nat) (P : List (Psp.Req × Int)) (ov : Value), ov = v ∧ i = .int .i64 (j : Int) ∧ j ≤ min len2 6 ∧ PInv w2 wr (l.take 4) ov P (k * min len2 6 + j)) (fun _ i _ => 6 - (intOf i).toNat)
      case atStart => exact ⟨0, P, _, rfl, rfl, Nat.zero_le _, HI.out⟩
      case round =>
        obtain ⟨j, Q, ov, rfl, rfl, hj, hI2⟩ := hrel
        have hwb := hI2.bel.size
        have hb2 := Hb2.out.size
        have hb1 := Hb1.out.size
        have HI2 := Lib.hid hI2
        clear hI2
        by_cases hlt2 : j < min len2 6
        · obtain ⟨b, o, hAe, hb, hlies⟩ := Hcell.out (by omega)
          obtain ⟨b2, o2, hAe2, hbb2, hlies2⟩ := Hcell2.out (by omega)
          subst hAe hAe2
          have hkl : k < l.length := by have := Hlen.out; omega
          have hjl : j < ns.length := by have := Hlen2.out; omega
          have hbw : Below w.heap.size w wr := (Hb1.out.trans (Hb2.out.mono hb1)).trans (HI2.out.bel.mono (by omega))
          have rg := reqs_range (hlies.keep (hbw.block b hb)) hkl
          have cy := (hlies2.keep (hbw.block b2 hbb2)).at_ (j := j) (by simpa using hjl)
          obtain ⟨r, hr⟩ : ∃ r, l[k] = r := ⟨_, rfl⟩
          obtain ⟨y, hy⟩ : ∃ y, ns[j] = y := ⟨_, rfl⟩
          obtain ⟨hy1, hy2⟩ := Hl2.out y (by rw [← hy]; exact List.getElem_mem hjl)
          have hrm : r ∈ l.take 4 := by
            rw [← hr, List.mem_iff_getElem]
            exact ⟨k, by rw [List.length_take]; omega, by rw [List.getElem_take]⟩
          simp only [List.getElem_map, hy, iv] at cy
          rw [hr] at rg
          have e0 := rg 0 _ rfl
          have e1 := rg 1 _ rfl
          have e2 := rg 2 _ rfl
          have e3 := rg 3 _ rfl
          have e4 := rg 4 _ rfl
          have e5 := rg 5 _ rfl
          simp only [Nat.add_zero, iv] at e0 e1 e2 e3 e4 e5
          obtain ⟨z, hz⟩ : ∃ z, IntKind.i64.wrap (y + (k : Int)) = z := ⟨_, rfl⟩
          have z1 : -9223372036854775808 ≤ z ∧ z ≤ 9223372036854775807 := by rw [← hz, IntKind.wrap_i64]; omega
          obtain ⟨z1, z2⟩ := z1
          obtain ⟨n, hn⟩ : ∃ n, Psp.within z 4 = n := ⟨_, rfl⟩
          have n1 := Psp.within_lo z 4
          have n2 := Psp.within_hi z 4 (by omega)
          rw [hn] at n1 n2
          have HNd : Hid (∀ W : World, Calls Try.prog 11 #[.int .i64 1] W fun e w' => e = .returned (.int .i64 4) ∧ w' = W) := Lib.hid fun W => (r_nodes_any 1 W).mono fun _ _ h => ⟨h.1, h.2.symm⟩
          have HWi : Hid (∀ W : World, Calls Try.prog 9 #[.int .i64 z, .int .i64 4] W fun e w' => e = .returned (.int .i64 n) ∧ w' = W) := Lib.hid fun W => by rw [← hn]; exact (within_any z 4 W (by omega) (by omega) (by omega) (by omega)).mono fun _ _ h => ⟨h.1, h.2.symm⟩
          have Hrm := Lib.hid hrm
          have hQ6 : Q.length ≤ 100 := by rw [HI2.out.len]; have : k * min len2 6 ≤ 4 * 6 := Nat.mul_le_mul (by omega) (by omega); omega
          clear rg hr hy hlies hlies2 hkl hjl hbw hrm hn
          go_wp2_with fail
          obtain ⟨i0, hi0, hz0, hz1, hz2⟩ := info_parts pair_info
          have hown0 := HI2.out.own
          have hbw2 : b < w2.heap.size := by omega
          have hb2w2 : b2 < w2.heap.size := by omega
          have kb0 : (0 : Int) ≤ (k : Int) := by omega
          have kb1 : (k : Int) < 4 := by omega
          go_region_held3 (fun w' => w'.cell? ⟨b, o + k * 6, none⟩ = some (.int .i64 r.c) ∧ w'.cell? ⟨b, o + k * 6 + 1, none⟩ = some (.int .i64 r.t) ∧ w'.cell? ⟨b, o + k * 6 + 2, none⟩ = some (.int .i64 r.k) ∧ w'.cell? ⟨b, o + k * 6 + 3, none⟩ = some (.int .i64 r.y) ∧ w'.cell? ⟨b, o + k * 6 + 4, none⟩ = some (.int .i64 r.v) ∧ w'.cell? ⟨b, o + k * 6 + 5, none⟩ = some (.int .i64 r.s) ∧ w'.cell? ⟨b2, o2 + j, none⟩ = some (.int .i64 y))
            (first
              | go_keep
              | (go_split_ands
                 refine ⟨?_, ?_, ?_, ?_, ?_, ?_, ?_⟩ <;> (first | exact (own_far ((hown0.alloc _).drew) hgrow hbw2 (by simp; omega)).trans (by assumption) | exact (own_far ((hown0.alloc _).drew) hgrow hb2w2 (by simp; omega)).trans (by assumption))))
            (first
              | (go_at_call 11; refine (HNd.out _).mono ?_; rintro e w' ⟨rfl, rfl⟩)
              | (go_at_call 9; refine (HWi.out _).mono ?_; rintro e w' ⟨rfl, rfl⟩)
              | ((refine step_append_lies _ (by rfl) _ _ _ (by rfl) w2.heap.size 45 i0 _ 7 56 Try.underlying43 hi0 hz0 hz1 hz2 rfl (by omega) ov Q.length (Q.flatMap pc) (by rfl) ((hown0.alloc _).drew)
                   ⟨wr.heap.size, 0, none⟩ 1 1 (pc (r, n)) (by rfl) (by rfl) (World.news_of_block (cs := (pc (r, n)).toArray) (t := 45) (fr := (0, 0)) (heap_alloc_new wr _)) (by simp [Value.oneCell', pc, iv])
                   (by omega) (by unfold maxLen; omega) (by omega) (by simp; omega) (wr.heap.size + 1) (by simp) ?_; intro gg cap w1' hown1 hgrow hat hlt')))
          have hbn : Below w2.heap.size w2 w1' := (((HI2.out.bel).alloc (by omega) _).drew).grown hgrow (by simp; omega) (own_lt hown0)
          have Hown1 := Lib.hid hown1
          have Hbn := Lib.hid hbn
          clear hown1 hbn hgrow hown0 e0 e1 e2 e3 e4 e5 cy
          go_wp2_with fail
          go_roundw
          case rel =>
            refine ⟨j + 1, Q ++ [(r, n)], _, rfl, by go_num, by omega, ?_, Hbn.out, fun x hx => ?_, by rw [List.length_append, HI2.out.len]; rfl⟩
            · rw [List.length_append, List.flatMap_append]; simpa using Hown1.out
            · rcases List.mem_append.1 hx with hx | hx
              · exact HI2.out.mem x hx
              · rw [List.mem_singleton.1 hx]; exact ⟨Hrm.out, n1, n2⟩
          case measure => simp [intOf]; omega
        · obtain rfl : j = min len2 6 := by omega
          by_cases h6 : min len2 6 < len2
          · have h60 : min len2 6 = 6 := by omega
            go_wp2_with fail
            exact ⟨⟨k + 1, Q, by go_num, by omega, HI2.out.own, HI2.out.bel, HI2.out.mem, by rw [HI2.out.len, Nat.succ_mul]⟩, by simp [intOf]; omega⟩
          · go_wp2_with fail
            exact ⟨⟨k + 1, Q, by go_num, by omega, HI2.out.own, HI2.out.bel, HI2.out.mem, by rw [HI2.out.len, Nat.succ_mul]⟩, by simp [intOf]; omega⟩
    · obtain rfl : k = min len 4 := by omega
      have dk : ((min len 4 : Nat) : Int) = 4 := by omega
      obtain ⟨A7, c7, hv7, hn7, hm7, hcell7⟩ := own_slice HI.out.own
      subst hv7
      obtain ⟨N, hN⟩ : ∃ N, P.length = N := ⟨_, rfl⟩
      rw [hN] at hn7 hcell7
      have HN := Lib.hid hN
      have Hcell7 := Lib.hid hcell7
      have hN24 : N ≤ 24 := by rw [← hN, HI.out.len]; exact (Nat.mul_le_mul (by omega : min len 4 ≤ 4) (by omega : min len2 6 ≤ 6) : min len 4 * min len2 6 ≤ 4 * 6)
      rw [hN]
      have y1 := Psp.within_lo a0 ((N : Int) + 1)
      have y2 := Psp.within_hi a0 ((N : Int) + 1) (by omega)
      obtain ⟨t, ht⟩ : ∃ t, Psp.within a0 ((N : Int) + 1) = t := ⟨_, rfl⟩
      rw [ht] at y1 y2
      have Ht := Lib.hid ht
      clear hN hcell7 ht
      go_wp2_with (go_at_call 9; refine (within_any _ _ _ (by omega) (by omega) (by omega) (by omega)).mono ?_; rintro e w' ⟨rfl, rfl⟩; rw [Ht.out])
      obtain ⟨tn, rfl⟩ : ∃ tn : Nat, t = (tn : Int) := ⟨t.toNat, by omega⟩
      go_loopw [83] (fun i wx => ∃ (k : Nat) (S1 S2 : Nat → Prop) (tl ul : List Psp.Told), i = .int .i64 (k : Int) ∧ k ≤ N ∧ OInv w wx g g2 A7 P tn k k S1 S2 tl ul) (fun i _ => N - (intOf i).toNat)
      case atStart =>
        have z1 := Hb1.out.size
        have z2 := Hb2.out.size
        have z3 := HI.out.bel.size
        have z4 := Hg.out
        have z5 := Hg2.out
        have hd0 := Psp.Heard.nil 1 3
        refine ⟨0, fun k => k = g, fun k => k = g2, [], [], rfl, Nat.zero_le _, (HT1.out.below Hb2.out).below HI.out.bel, HT2.out.below HI.out.bel, fun k e1 e2 => by omega, fun k e => by omega, hd0, hd0, (Hb1.out.trans (Hb2.out.mono z1)).trans (HI.out.bel.mono (by omega)), fun hn => ?_⟩
        obtain ⟨b, e, b1, b2, b3⟩ := Hcell7.out (by rw [← HN.out]; exact hn)
        exact ⟨b, e, by omega, b2, b3, fun k hk => by omega⟩
      case round =>
        obtain ⟨k, S1, S2, tl, ul, rfl, hk, hO⟩ := hrel
        have hmem := HI.out.mem
        have hm4 : (l.take 4).length ≤ 4 := by rw [List.length_take]; omega
        have HO := Lib.hid hO
        have Hmem := Lib.hid hmem
        have Hm4 := Lib.hid hm4
        clear hO hmem hm4
        by_cases hlt : k < N
        · obtain ⟨b, hA7, b1, b2, b3, b4⟩ := HO.out.row (by rw [HN.out]; omega)
          subst hA7
          have hkP : k < P.length := by rw [HN.out]; exact hlt
          obtain ⟨⟨r, n⟩, hx⟩ : ∃ x, P[k] = x := ⟨_, rfl⟩
          obtain ⟨x0, x1, x2, x3, x4, x5, x6⟩ := pair_cells b3 hkP hx
          obtain ⟨hl4, hH⟩ := HO.out.h1.step Hm4.out Hmem.out hkP hx 5
          have HH := Lib.hid hH
          have kb0 : (0 : Int) ≤ (k : Int) := by omega
          have kb1 : (k : Int) < (N : Int) := by omega
          clear b3 b4 hH hx hkP
          go_wp2_with fail
          refine wp_region_still_tail_drew 11 (by kernel_rfl) (by kernel_rfl) ?_
          simp only [List.take_succ_cons, List.take_zero, List.drop_succ_cons, List.drop_zero]
          repeat still_step
          refine wpStill_nil ?_
          clear x0 x1 x2 x3 x4 x5 x6
          go_wp2_with fail
          refine (put_all r n 5 S1 g 1 3 tl _ (HO.out.t1.below ((Below.refl _ _).drew)) (by omega)).mono ?_
          rintro e w4 ⟨rfl, hT, hF⟩
          have hO1 := HO.out.put1 ((Below.refl _ _).drew) hT hF HH.out
          obtain ⟨b', hb', p1, p2, p3, p4⟩ := hO1.row (by rw [HN.out]; omega)
          obtain rfl : b = b' := by simpa using hb'
          have hqN : (k + tn) % N < N := Nat.mod_lt _ (by omega)
          obtain ⟨q, hq⟩ : ∃ q, (k + tn) % N = q := ⟨_, rfl⟩
          rw [hq] at hqN
          have hqP : q < P.length := by rw [HN.out]; exact hqN
          obtain ⟨⟨r2, n2⟩, hx⟩ : ∃ x, P[q] = x := ⟨_, rfl⟩
          obtain ⟨x0, x1, x2, x3, x4, x5, x6⟩ := pair_cells p3 hqP hx
          have htl : k < (Psp.turned P tn).length := by rw [Psp.turned_len, HN.out]; exact hlt
          have hqe : (k + tn) % P.length = q := by rw [HN.out]; exact hq
          have htx : (Psp.turned P tn)[k] = (r2, n2) := by
            rw [Psp.turned_get P tn k (by rw [HN.out]; exact hlt) (by rw [hqe]; exact hqP)]
            simp only [hqe]
            exact hx
          obtain ⟨hl42, hH2⟩ := hO1.h2.step Hm4.out (fun x hx => Hmem.out x ((Psp.turned_mem P tn x).2 hx)) htl htx 5
          have HH2 := Lib.hid hH2
          have HO1 := Lib.hid hO1
          have hqi : ((k : Int) + (tn : Int)) % (N : Int) = (q : Int) := by rw [← hq]; rfl
          have q0 : (0 : Int) ≤ (q : Int) := by omega
          have q1 : (q : Int) < (N : Int) := by omega
          clear hT hF hO1 hb' p3 p4 hq hqP hx htl hqe htx hH2
          go_wp2_with fail
          refine wp_region_still_tail_drew 11 (by kernel_rfl) (by kernel_rfl) ?_
          simp only [List.take_succ_cons, List.take_zero, List.drop_succ_cons, List.drop_zero]
          repeat still_step
          refine wpStill_nil ?_
          clear x0 x1 x2 x3 x4 x5 x6 hqi
          go_wp2_with fail
          refine (put_all r2 n2 5 S2 g2 1 3 ul _ (HO1.out.t2.below ((Below.refl _ _).drew)) (by omega)).mono ?_
          rintro e w5 ⟨rfl, hT, hF⟩
          have hO2 := HO1.out.put2 ((Below.refl _ _).drew) hT hF HH2.out
          have HO2 := Lib.hid hO2
          clear hT hF hO2
          go_wp2_with fail
          go_roundw
          case rel => exact ⟨k + 1, _, _, _, _, by go_num, by omega, HO2.out⟩
          case measure => simp [intOf]; omega
        · obtain rfl : k = N := by omega
          have hS1 := HO.out.h1
          have hS2 := HO.out.h2
          have htp : ∀ x, x ∈ P.take k ↔ x ∈ (Psp.turned P tn).take k := fun x => by
            rw [List.take_of_length_le (by rw [HN.out]; exact Nat.le_refl _), List.take_of_length_le (by rw [Psp.turned_len, HN.out]; exact Nat.le_refl _)]
            exact Psp.turned_mem P tn x
          obtain ⟨he1, he2⟩ := hS1.same hS2 htp
          have hel : ul.length = tl.length := by
            have := congrArg List.length he1
            unfold Psp.reqsOf at this
            simpa using this.symm
          have He1 : Hid (ul.map (·.r) = tl.map (·.r)) := Lib.hid he1.symm
          have He2 : Hid (readyOf ul = readyOf tl) := Lib.hid he2.symm
          have Hel := Lib.hid hel
          clear hS1 hS2 htp he1 he2 hel
          go_wp2_with fail
          refine (all_tab S1 g 1 3 tl _ HO.out.t1).mono ?_
          rintro e w6 ⟨v6, rfl, hv6, hb6⟩
          have HA := Lib.hid (HO.out.t1.below hb6)
          have HB := Lib.hid (HO.out.t2.below hb6)
          have Hv6 := Lib.hid hv6
          have Hb6 := Lib.hid hb6
          clear hv6 hb6
          go_wp2_with fail
          refine (all_tab S2 g2 1 3 ul _ HB.out).mono ?_
          rintro e w7 ⟨v7, rfl, hv7, hb7⟩
          rw [He1.out, Hel.out] at hv7
          have Hv7 := Lib.hid hv7
          have HA7 := Lib.hid (HA.out.below hb7)
          have HB7 := Lib.hid (HB.out.below hb7)
          have Hv67 := Lib.hid (own_below Hv6.out hb7)
          have Hb7 := Lib.hid hb7
          clear hv7 hb7
          go_wp2_with fail
          refine (same_req v6 v7 (tl.map (·.r)) tl.length _ _ _ (by simp) (Rd.of_own Hv67.out) (Rd.of_own Hv7.out)).mono ?_
          rintro e w8 ⟨rfl, q, rfl⟩
          have hb8 : Below w7.heap.size w7 (w7.drewN q) := below_drewN (Below.refl _ _) q
          have HA8 := Lib.hid (HA7.out.below hb8)
          have HB8 := Lib.hid (HB7.out.below hb8)
          have Hb8 := Lib.hid hb8
          clear hb8
          go_wp2_with fail
          refine (ready_tab S1 g 1 3 tl _ HA8.out).mono ?_
          rintro e w9 ⟨v9, rfl, hv9, hb9⟩
          have HB9 := Lib.hid (HB8.out.below hb9)
          have Hv9 := Lib.hid hv9
          have Hb9 := Lib.hid hb9
          clear hv9 hb9
          go_wp2_with fail
          refine (ready_tab S2 g2 1 3 ul _ HB9.out).mono ?_
          rintro e wa ⟨va, rfl, hva, hba⟩
          rw [He2.out] at hva
          have Hva := Lib.hid hva
          have Hv9a := Lib.hid (own_below Hv9.out hba)
          have Hba := Lib.hid hba
          clear hva hba
          go_wp2_with fail
          refine (same_req v9 va (readyOf tl) (readyOf tl).length _ _ _ rfl (Rd.of_own Hv9a.out) (Rd.of_own Hva.out)).mono ?_
          rintro e wb ⟨rfl, q2, rfl⟩
          go_wp2_with fail
          refine (wakes13 _).mono ?_
          rintro e wc ⟨rfl, hbc⟩
          have Hbc := Lib.hid hbc
          clear hbc
          go_wp2_with fail
          go_ret
          have s0 := HO.out.bel.size
          have s1 := Hb6.out.size
          have s2 := Hb7.out.size
          have s3 := Hb8.out.size
          have s4 := Hb9.out.size
          have s5 := Hba.out.size
          have t1 := HO.out.bel.trans (Hb6.out.mono s0)
          have t2 := t1.trans (Hb7.out.mono (by omega))
          have t3 := t2.trans (Hb8.out.mono (by omega))
          have t4 := t3.trans (Hb9.out.mono (by omega))
          have t5 := t4.trans (Hba.out.mono (by omega))
          have t6 : Below w.heap.size w (wa.drewN q2) := below_drewN t5 q2
          exact ⟨rfl, t6.trans (Hbc.out.mono t6.size)⟩

set_option maxRecDepth 100000 in
set_option maxHeartbeats 8000000 in
theorem walk_b (v : Value) (l : List Psp.Req) (v2 : Value) (ns : List Int) (a0 : Int) (w : World) (hr : Rd w w.heap.size 6 v l.length (l.flatMap rq)) (hl : ∀ r ∈ l, wfReq r) (hr2 : Rd w w.heap.size 1 v2 ns.length (ns.flatMap fun n => [iv n])) (hl2 : ∀ n ∈ ns, isI64 n) (b0 : isI64 a0) (h40 : l.length ≤ 4) :
    Calls Try.prog 5 #[v, v2, .int .i64 a0] w fun e w' => e = .returned (.bool true) ∧ Below w.heap.size w w' := by
  rw [flat_one] at hr2
  obtain ⟨c0, d0⟩ := b0
  obtain ⟨hrl, A, cp, rfl, hc1, hc2, hcell⟩ := hr
  obtain ⟨len, hlen⟩ : ∃ len, l.length = len := ⟨_, rfl⟩
  rw [hlen] at hcell hc1 ⊢
  unfold maxLen at hc2
  obtain ⟨hrl2, A2, cp2, rfl, hd1, hd2, hcell2⟩ := hr2
  obtain ⟨len2, hlen2⟩ : ∃ len, ns.length = len := ⟨_, rfl⟩
  rw [hlen2] at hcell2 hd1 ⊢
  unfold maxLen at hd2
  have Hlen := Lib.hid hlen
  have Hcell := Lib.hid hcell
  have Hlen2 := Lib.hid hlen2
  have Hcell2 := Lib.hid hcell2
  have Hl2 := Lib.hid hl2
  obtain ⟨m, hm⟩ : ∃ m, min len 4 = m := ⟨_, rfl⟩
  have m4 : m ≤ 4 := by omega
  have mlen : m ≤ len := by omega
  clear hlen hcell hlen2 hcell2 hl hl2 hrl hrl2
  have h4 : len ≤ 4 := by rw [← Hlen.out]; exact h40
  obtain rfl : len = m := by omega
  have d4 : decide (4 < (len : Int)) = false := by simp; omega
  clear hm
  go_enter Try.func5, Try.ntmps5
  go_wp2_with (first | (go_at_call 10; refine (new_any 1 3 w (by omega) (by omega) (by omega) (by omega)).mono ?_; rintro e w1 ⟨g, rfl, hT, hg, hb1⟩; have HT1 := Lib.hid hT; have Hb1 := Lib.hid hb1; have Hg := Lib.hid hg; have hgl := hT.lt g rfl; clear hT hb1 hg) | (go_at_call 10; refine (new_any 1 3 w1 (by omega) (by omega) (by omega) (by omega)).mono ?_; rintro e w2 ⟨g2, rfl, hT, hg, hb1⟩; have HT2 := Lib.hid hT; have Hb2 := Lib.hid hb1; have Hg2 := Lib.hid hg; have hgl2 := hT.lt g2 rfl; clear hT hb1 hg))
  go_loopw [11, 46] (fun v i wr => ∃ (k : Nat) (P : List (Psp.Req × Int)), i = .int .i64 (k : Int) ∧ k ≤ min len 4 ∧ PInv w2 wr (l.take 4) v P (k * min len2 6)) (fun _ i _ => 4 - (intOf i).toNat)
  case atStart => exact ⟨0, [], rfl, Nat.zero_le _, World.ownsRow_nil _ _ _ _, Below.refl _ _, fun x hx => by simp at hx, by simp⟩
  case round =>
    obtain ⟨k, P, rfl, hk, hI⟩ := hrel
    have HI := Lib.hid hI
    clear hI
    by_cases hlt : k < min len 4
    · have dk : decide (k < len) = true := by simp; omega
      go_wp2_with fail
      clear dk
      go_loopw [11, 13] (fun v i wr => ∃ (j : Nat) (P : List (Psp.Req × Int)) (ov : Value), ov = v ∧ i = .int .i64 (j : Int) ∧ j ≤ min len2 6 ∧ PInv w2 wr (l.take 4) ov P (k * min len2 6 + j)) (fun _ i _ => 6 - (intOf i).toNat)
      case atStart => exact ⟨0, P, _, rfl, rfl, Nat.zero_le _, HI.out⟩
      case round =>
        obtain ⟨j, Q, ov, rfl, rfl, hj, hI2⟩ := hrel
        have hwb := hI2.bel.size
        have hb2 := Hb2.out.size
        have hb1 := Hb1.out.size
        have HI2 := Lib.hid hI2
        clear hI2
        by_cases hlt2 : j < min len2 6
        · obtain ⟨b, o, hAe, hb, hlies⟩ := Hcell.out (by omega)
          obtain ⟨b2, o2, hAe2, hbb2, hlies2⟩ := Hcell2.out (by omega)
          subst hAe hAe2
          have hkl : k < l.length := by have := Hlen.out; omega
          have hjl : j < ns.length := by have := Hlen2.out; omega
          have hbw : Below w.heap.size w wr := (Hb1.out.trans (Hb2.out.mono hb1)).trans (HI2.out.bel.mono (by omega))
          have rg := reqs_range (hlies.keep (hbw.block b hb)) hkl
          have cy := (hlies2.keep (hbw.block b2 hbb2)).at_ (j := j) (by simpa using hjl)
          obtain ⟨r, hr⟩ : ∃ r, l[k] = r := ⟨_, rfl⟩
          obtain ⟨y, hy⟩ : ∃ y, ns[j] = y := ⟨_, rfl⟩
          obtain ⟨hy1, hy2⟩ := Hl2.out y (by rw [← hy]; exact List.getElem_mem hjl)
          have hrm : r ∈ l.take 4 := by
            rw [← hr, List.mem_iff_getElem]
            exact ⟨k, by rw [List.length_take]; omega, by rw [List.getElem_take]⟩
          simp only [List.getElem_map, hy, iv] at cy
          rw [hr] at rg
          have e0 := rg 0 _ rfl
          have e1 := rg 1 _ rfl
          have e2 := rg 2 _ rfl
          have e3 := rg 3 _ rfl
          have e4 := rg 4 _ rfl
          have e5 := rg 5 _ rfl
          simp only [Nat.add_zero, iv] at e0 e1 e2 e3 e4 e5
          obtain ⟨z, hz⟩ : ∃ z, IntKind.i64.wrap (y + (k : Int)) = z := ⟨_, rfl⟩
          have z1 : -9223372036854775808 ≤ z ∧ z ≤ 9223372036854775807 := by rw [← hz, IntKind.wrap_i64]; omega
          obtain ⟨z1, z2⟩ := z1
          obtain ⟨n, hn⟩ : ∃ n, Psp.within z 4 = n := ⟨_, rfl⟩
          have n1 := Psp.within_lo z 4
          have n2 := Psp.within_hi z 4 (by omega)
          rw [hn] at n1 n2
          have HNd : Hid (∀ W : World, Calls Try.prog 11 #[.int .i64 1] W fun e w' => e = .returned (.int .i64 4) ∧ w' = W) := Lib.hid fun W => (r_nodes_any 1 W).mono fun _ _ h => ⟨h.1, h.2.symm⟩
          have HWi : Hid (∀ W : World, Calls Try.prog 9 #[.int .i64 z, .int .i64 4] W fun e w' => e = .returned (.int .i64 n) ∧ w' = W) := Lib.hid fun W => by rw [← hn]; exact (within_any z 4 W (by omega) (by omega) (by omega) (by omega)).mono fun _ _ h => ⟨h.1, h.2.symm⟩
          have Hrm := Lib.hid hrm
          have hQ6 : Q.length ≤ 100 := by rw [HI2.out.len]; have : k * min len2 6 ≤ 4 * 6 := Nat.mul_le_mul (by omega) (by omega); omega
          clear rg hr hy hlies hlies2 hkl hjl hbw hrm hn
          go_wp2_with fail
          obtain ⟨i0, hi0, hz0, hz1, hz2⟩ := info_parts pair_info
          have hown0 := HI2.out.own
          have hbw2 : b < w2.heap.size := by omega
          have hb2w2 : b2 < w2.heap.size := by omega
          have kb0 : (0 : Int) ≤ (k : Int) := by omega
          have kb1 : (k : Int) < (len : Int) := by omega
          go_region_held3 (fun w' => w'.cell? ⟨b, o + k * 6, none⟩ = some (.int .i64 r.c) ∧ w'.cell? ⟨b, o + k * 6 + 1, none⟩ = some (.int .i64 r.t) ∧ w'.cell? ⟨b, o + k * 6 + 2, none⟩ = some (.int .i64 r.k) ∧ w'.cell? ⟨b, o + k * 6 + 3, none⟩ = some (.int .i64 r.y) ∧ w'.cell? ⟨b, o + k * 6 + 4, none⟩ = some (.int .i64 r.v) ∧ w'.cell? ⟨b, o + k * 6 + 5, none⟩ = some (.int .i64 r.s) ∧ w'.cell? ⟨b2, o2 + j, none⟩ = some (.int .i64 y))
            (first
              | go_keep
              | (go_split_ands
                 refine ⟨?_, ?_, ?_, ?_, ?_, ?_, ?_⟩ <;> (first | exact (own_far ((hown0.alloc _).drew) hgrow hbw2 (by simp; omega)).trans (by assumption) | exact (own_far ((hown0.alloc _).drew) hgrow hb2w2 (by simp; omega)).trans (by assumption))))
            (first
              | (go_at_call 11; refine (HNd.out _).mono ?_; rintro e w' ⟨rfl, rfl⟩)
              | (go_at_call 9; refine (HWi.out _).mono ?_; rintro e w' ⟨rfl, rfl⟩)
              | ((refine step_append_lies _ (by rfl) _ _ _ (by rfl) w2.heap.size 45 i0 _ 7 56 Try.underlying43 hi0 hz0 hz1 hz2 rfl (by omega) ov Q.length (Q.flatMap pc) (by rfl) ((hown0.alloc _).drew)
                   ⟨wr.heap.size, 0, none⟩ 1 1 (pc (r, n)) (by rfl) (by rfl) (World.news_of_block (cs := (pc (r, n)).toArray) (t := 45) (fr := (0, 0)) (heap_alloc_new wr _)) (by simp [Value.oneCell', pc, iv])
                   (by omega) (by unfold maxLen; omega) (by omega) (by simp; omega) (wr.heap.size + 1) (by simp) ?_; intro gg cap w1' hown1 hgrow hat hlt')))
          have hbn : Below w2.heap.size w2 w1' := (((HI2.out.bel).alloc (by omega) _).drew).grown hgrow (by simp; omega) (own_lt hown0)
          have Hown1 := Lib.hid hown1
          have Hbn := Lib.hid hbn
          clear hown1 hbn hgrow hown0 e0 e1 e2 e3 e4 e5 cy
          go_wp2_with fail
          go_roundw
          case rel =>
            refine ⟨j + 1, Q ++ [(r, n)], _, rfl, by go_num, by omega, ?_, Hbn.out, fun x hx => ?_, by rw [List.length_append, HI2.out.len]; rfl⟩
            · rw [List.length_append, List.flatMap_append]; simpa using Hown1.out
            · rcases List.mem_append.1 hx with hx | hx
              · exact HI2.out.mem x hx
              · rw [List.mem_singleton.1 hx]; exact ⟨Hrm.out, n1, n2⟩
          case measure => simp [intOf]; omega
        · obtain rfl : j = min len2 6 := by omega
          by_cases h6 : min len2 6 < len2
          · have h60 : min len2 6 = 6 := by omega
            go_wp2_with fail
            exact ⟨⟨k + 1, Q, by go_num, by omega, HI2.out.own, HI2.out.bel, HI2.out.mem, by rw [HI2.out.len, Nat.succ_mul]⟩, by simp [intOf]; omega⟩
          · go_wp2_with fail
            exact ⟨⟨k + 1, Q, by go_num, by omega, HI2.out.own, HI2.out.bel, HI2.out.mem, by rw [HI2.out.len, Nat.succ_mul]⟩, by simp [intOf]; omega⟩
    · obtain rfl : k = min len 4 := by omega
      have dk : ((min len 4 : Nat) : Int) = (len : Int) := by omega
      obtain ⟨A7, c7, hv7, hn7, hm7, hcell7⟩ := own_slice HI.out.own
      subst hv7
      obtain ⟨N, hN⟩ : ∃ N, P.length = N := ⟨_, rfl⟩
      rw [hN] at hn7 hcell7
      have HN := Lib.hid hN
      have Hcell7 := Lib.hid hcell7
      have hN24 : N ≤ 24 := by rw [← hN, HI.out.len]; exact (Nat.mul_le_mul (by omega : min len 4 ≤ 4) (by omega : min len2 6 ≤ 6) : min len 4 * min len2 6 ≤ 4 * 6)
      rw [hN]
      have y1 := Psp.within_lo a0 ((N : Int) + 1)
      have y2 := Psp.within_hi a0 ((N : Int) + 1) (by omega)
      obtain ⟨t, ht⟩ : ∃ t, Psp.within a0 ((N : Int) + 1) = t := ⟨_, rfl⟩
      rw [ht] at y1 y2
      have Ht := Lib.hid ht
      clear hN hcell7 ht
      go_wp2_with (go_at_call 9; refine (within_any _ _ _ (by omega) (by omega) (by omega) (by omega)).mono ?_; rintro e w' ⟨rfl, rfl⟩; rw [Ht.out])
      obtain ⟨tn, rfl⟩ : ∃ tn : Nat, t = (tn : Int) := ⟨t.toNat, by omega⟩
      go_loopw [83] (fun i wx => ∃ (k : Nat) (S1 S2 : Nat → Prop) (tl ul : List Psp.Told), i = .int .i64 (k : Int) ∧ k ≤ N ∧ OInv w wx g g2 A7 P tn k k S1 S2 tl ul) (fun i _ => N - (intOf i).toNat)
      case atStart =>
        have z1 := Hb1.out.size
        have z2 := Hb2.out.size
        have z3 := HI.out.bel.size
        have z4 := Hg.out
        have z5 := Hg2.out
        have hd0 := Psp.Heard.nil 1 3
        refine ⟨0, fun k => k = g, fun k => k = g2, [], [], rfl, Nat.zero_le _, (HT1.out.below Hb2.out).below HI.out.bel, HT2.out.below HI.out.bel, fun k e1 e2 => by omega, fun k e => by omega, hd0, hd0, (Hb1.out.trans (Hb2.out.mono z1)).trans (HI.out.bel.mono (by omega)), fun hn => ?_⟩
        obtain ⟨b, e, b1, b2, b3⟩ := Hcell7.out (by rw [← HN.out]; exact hn)
        exact ⟨b, e, by omega, b2, b3, fun k hk => by omega⟩
      case round =>
        obtain ⟨k, S1, S2, tl, ul, rfl, hk, hO⟩ := hrel
        have hmem := HI.out.mem
        have hm4 : (l.take 4).length ≤ 4 := by rw [List.length_take]; omega
        have HO := Lib.hid hO
        have Hmem := Lib.hid hmem
        have Hm4 := Lib.hid hm4
        clear hO hmem hm4
        by_cases hlt : k < N
        · obtain ⟨b, hA7, b1, b2, b3, b4⟩ := HO.out.row (by rw [HN.out]; omega)
          subst hA7
          have hkP : k < P.length := by rw [HN.out]; exact hlt
          obtain ⟨⟨r, n⟩, hx⟩ : ∃ x, P[k] = x := ⟨_, rfl⟩
          obtain ⟨x0, x1, x2, x3, x4, x5, x6⟩ := pair_cells b3 hkP hx
          obtain ⟨hl4, hH⟩ := HO.out.h1.step Hm4.out Hmem.out hkP hx 5
          have HH := Lib.hid hH
          have kb0 : (0 : Int) ≤ (k : Int) := by omega
          have kb1 : (k : Int) < (N : Int) := by omega
          clear b3 b4 hH hx hkP
          go_wp2_with fail
          refine wp_region_still_tail_drew 11 (by kernel_rfl) (by kernel_rfl) ?_
          simp only [List.take_succ_cons, List.take_zero, List.drop_succ_cons, List.drop_zero]
          repeat still_step
          refine wpStill_nil ?_
          clear x0 x1 x2 x3 x4 x5 x6
          go_wp2_with fail
          refine (put_all r n 5 S1 g 1 3 tl _ (HO.out.t1.below ((Below.refl _ _).drew)) (by omega)).mono ?_
          rintro e w4 ⟨rfl, hT, hF⟩
          have hO1 := HO.out.put1 ((Below.refl _ _).drew) hT hF HH.out
          obtain ⟨b', hb', p1, p2, p3, p4⟩ := hO1.row (by rw [HN.out]; omega)
          obtain rfl : b = b' := by simpa using hb'
          have hqN : (k + tn) % N < N := Nat.mod_lt _ (by omega)
          obtain ⟨q, hq⟩ : ∃ q, (k + tn) % N = q := ⟨_, rfl⟩
          rw [hq] at hqN
          have hqP : q < P.length := by rw [HN.out]; exact hqN
          obtain ⟨⟨r2, n2⟩, hx⟩ : ∃ x, P[q] = x := ⟨_, rfl⟩
          obtain ⟨x0, x1, x2, x3, x4, x5, x6⟩ := pair_cells p3 hqP hx
          have htl : k < (Psp.turned P tn).length := by rw [Psp.turned_len, HN.out]; exact hlt
          have hqe : (k + tn) % P.length = q := by rw [HN.out]; exact hq
          have htx : (Psp.turned P tn)[k] = (r2, n2) := by
            rw [Psp.turned_get P tn k (by rw [HN.out]; exact hlt) (by rw [hqe]; exact hqP)]
            simp only [hqe]
            exact hx
          obtain ⟨hl42, hH2⟩ := hO1.h2.step Hm4.out (fun x hx => Hmem.out x ((Psp.turned_mem P tn x).2 hx)) htl htx 5
          have HH2 := Lib.hid hH2
          have HO1 := Lib.hid hO1
          have hqi : ((k : Int) + (tn : Int)) % (N : Int) = (q : Int) := by rw [← hq]; rfl
          have q0 : (0 : Int) ≤ (q : Int) := by omega
          have q1 : (q : Int) < (N : Int) := by omega
          clear hT hF hO1 hb' p3 p4 hq hqP hx htl hqe htx hH2
          go_wp2_with fail
          refine wp_region_still_tail_drew 11 (by kernel_rfl) (by kernel_rfl) ?_
          simp only [List.take_succ_cons, List.take_zero, List.drop_succ_cons, List.drop_zero]
          repeat still_step
          refine wpStill_nil ?_
          clear x0 x1 x2 x3 x4 x5 x6 hqi
          go_wp2_with fail
          refine (put_all r2 n2 5 S2 g2 1 3 ul _ (HO1.out.t2.below ((Below.refl _ _).drew)) (by omega)).mono ?_
          rintro e w5 ⟨rfl, hT, hF⟩
          have hO2 := HO1.out.put2 ((Below.refl _ _).drew) hT hF HH2.out
          have HO2 := Lib.hid hO2
          clear hT hF hO2
          go_wp2_with fail
          go_roundw
          case rel => exact ⟨k + 1, _, _, _, _, by go_num, by omega, HO2.out⟩
          case measure => simp [intOf]; omega
        · obtain rfl : k = N := by omega
          have hS1 := HO.out.h1
          have hS2 := HO.out.h2
          have htp : ∀ x, x ∈ P.take k ↔ x ∈ (Psp.turned P tn).take k := fun x => by
            rw [List.take_of_length_le (by rw [HN.out]; exact Nat.le_refl _), List.take_of_length_le (by rw [Psp.turned_len, HN.out]; exact Nat.le_refl _)]
            exact Psp.turned_mem P tn x
          obtain ⟨he1, he2⟩ := hS1.same hS2 htp
          have hel : ul.length = tl.length := by
            have := congrArg List.length he1
            unfold Psp.reqsOf at this
            simpa using this.symm
          have He1 : Hid (ul.map (·.r) = tl.map (·.r)) := Lib.hid he1.symm
          have He2 : Hid (readyOf ul = readyOf tl) := Lib.hid he2.symm
          have Hel := Lib.hid hel
          clear hS1 hS2 htp he1 he2 hel
          go_wp2_with fail
          refine (all_tab S1 g 1 3 tl _ HO.out.t1).mono ?_
          rintro e w6 ⟨v6, rfl, hv6, hb6⟩
          have HA := Lib.hid (HO.out.t1.below hb6)
          have HB := Lib.hid (HO.out.t2.below hb6)
          have Hv6 := Lib.hid hv6
          have Hb6 := Lib.hid hb6
          clear hv6 hb6
          go_wp2_with fail
          refine (all_tab S2 g2 1 3 ul _ HB.out).mono ?_
          rintro e w7 ⟨v7, rfl, hv7, hb7⟩
          rw [He1.out, Hel.out] at hv7
          have Hv7 := Lib.hid hv7
          have HA7 := Lib.hid (HA.out.below hb7)
          have HB7 := Lib.hid (HB.out.below hb7)
          have Hv67 := Lib.hid (own_below Hv6.out hb7)
          have Hb7 := Lib.hid hb7
          clear hv7 hb7
          go_wp2_with fail
          refine (same_req v6 v7 (tl.map (·.r)) tl.length _ _ _ (by simp) (Rd.of_own Hv67.out) (Rd.of_own Hv7.out)).mono ?_
          rintro e w8 ⟨rfl, q, rfl⟩
          have hb8 : Below w7.heap.size w7 (w7.drewN q) := below_drewN (Below.refl _ _) q
          have HA8 := Lib.hid (HA7.out.below hb8)
          have HB8 := Lib.hid (HB7.out.below hb8)
          have Hb8 := Lib.hid hb8
          clear hb8
          go_wp2_with fail
          refine (ready_tab S1 g 1 3 tl _ HA8.out).mono ?_
          rintro e w9 ⟨v9, rfl, hv9, hb9⟩
          have HB9 := Lib.hid (HB8.out.below hb9)
          have Hv9 := Lib.hid hv9
          have Hb9 := Lib.hid hb9
          clear hv9 hb9
          go_wp2_with fail
          refine (ready_tab S2 g2 1 3 ul _ HB9.out).mono ?_
          rintro e wa ⟨va, rfl, hva, hba⟩
          rw [He2.out] at hva
          have Hva := Lib.hid hva
          have Hv9a := Lib.hid (own_below Hv9.out hba)
          have Hba := Lib.hid hba
          clear hva hba
          go_wp2_with fail
          refine (same_req v9 va (readyOf tl) (readyOf tl).length _ _ _ rfl (Rd.of_own Hv9a.out) (Rd.of_own Hva.out)).mono ?_
          rintro e wb ⟨rfl, q2, rfl⟩
          go_wp2_with fail
          refine (wakes13 _).mono ?_
          rintro e wc ⟨rfl, hbc⟩
          have Hbc := Lib.hid hbc
          clear hbc
          go_wp2_with fail
          go_ret
          have s0 := HO.out.bel.size
          have s1 := Hb6.out.size
          have s2 := Hb7.out.size
          have s3 := Hb8.out.size
          have s4 := Hb9.out.size
          have s5 := Hba.out.size
          have t1 := HO.out.bel.trans (Hb6.out.mono s0)
          have t2 := t1.trans (Hb7.out.mono (by omega))
          have t3 := t2.trans (Hb8.out.mono (by omega))
          have t4 := t3.trans (Hb9.out.mono (by omega))
          have t5 := t4.trans (Hba.out.mono (by omega))
          have t6 : Below w.heap.size w (wa.drewN q2) := below_drewN t5 q2
          exact ⟨rfl, t6.trans (Hbc.out.mono t6.size)⟩

theorem walk (v : Value) (l : List Psp.Req) (v2 : Value) (ns : List Int) (a0 : Int) (w : World) (hr : Rd w w.heap.size 6 v l.length (l.flatMap rq)) (hl : ∀ r ∈ l, wfReq r) (hr2 : Rd w w.heap.size 1 v2 ns.length (ns.flatMap fun n => [iv n])) (hl2 : ∀ n ∈ ns, isI64 n) (b0 : isI64 a0) :
    Calls Try.prog 5 #[v, v2, .int .i64 a0] w fun e w' => e = .returned (.bool true) ∧ Below w.heap.size w w' := by
  rcases Nat.lt_or_ge 4 l.length with h | h
  · exact walk_a v l v2 ns a0 w hr hl hr2 hl2 b0 h
  · exact walk_b v l v2 ns a0 w hr hl hr2 hl2 b0 h
end Go.Proofs.Ytmbdailffhdonaa.propOrders
