/- The walk of the law BallotWeak. -/
import Derived.Test.YtekpnihdbfgcdaaWakes4
import Derived.Test.YtekpnihdbfgcdaaOpen
import Derived.Test.YtekpnihdbfgcdaaSet
import Derived.Deep.CutBlock
namespace Psp
theorem cnt_all (s : List Bool) : ∀ (k : Nat), k ≤ s.length → (∀ j, j < k → s[j]? = some true) → k ≤ s.countP id := by
  induction s with
  | nil => intro k h _; simpa using h
  | cons b s ih =>
    intro k hk h
    cases k with
    | zero => omega
    | succ k =>
      have h0 := h 0 (by omega)
      simp at h0
      subst h0
      have := ih k (by simpa using hk) (fun j hj => by have := h (j + 1) (by omega); rwa [List.getElem?_cons_succ] at this)
      simp; omega

theorem cnt_sub (a : List Bool) : ∀ (b : List Bool), a.length = b.length → (∀ j : Nat, a[j]? = some true → b[j]? = some true) → a.countP id ≤ b.countP id := by
  induction a with
  | nil => intro b _ _; simp
  | cons x a ih =>
    intro b hl h
    cases b with
    | nil => simp at hl
    | cons y b =>
      have := ih b (by simpa using hl) (fun j hj => by have := h (j + 1) (by rwa [List.getElem?_cons_succ]); rwa [List.getElem?_cons_succ] at this)
      rw [List.countP_cons, List.countP_cons]
      have h0 := h 0
      cases x <;> cases y <;> simp_all <;> omega

theorem members_mem (s : List Bool) : ∀ (k : Int) (j : Nat), s[j]? = some true → (k + (j : Int)) ∈ members s k := by
  induction s with
  | nil => intro k j h; simp at h
  | cons b s ih =>
    intro k j h
    cases j with
    | zero => simp at h; subst h; simp [members]
    | succ j =>
      rw [List.getElem?_cons_succ] at h
      have := ih (k + 1) j h
      rw [members, show k + ((j + 1 : Nat) : Int) = k + 1 + (j : Int) by omega]
      cases b <;> simp [this]

/-- If each member of a is one of b, a has no more. -/
theorem cnt_in {a b : List Bool} (ha : a.length = 13) (hb : b.length = 13) (h : ∀ m ∈ members a 0, hasB b m = true) : a.countP id ≤ b.countP id := by
  refine cnt_sub a b (by omega) fun j hj => ?_
  have hlt : j < a.length := (List.getElem?_eq_some_iff.1 hj).1
  have := h _ (members_mem a 0 j hj)
  simp only [hasB, Bool.and_eq_true, decide_eq_true_eq] at this
  have h3 := this.2.2
  rw [show (0 + (j : Int)).toNat = j by omega, List.getD_eq_getElem?_getD, List.getElem?_eq_getElem (by omega)] at h3
  rw [List.getElem?_eq_getElem (by omega)]
  simpa using h3

theorem put_has {s : List Bool} (hs : s.length = 13) {n : Int} (h0 : 0 ≤ n) (h1 : n ≤ 12) : (put s n)[n.toNat]? = some true := by
  have := has_put hs n
  rw [decide_eq_true h0, decide_eq_true h1] at this
  unfold hasB at this
  rw [Bool.and_true, Bool.and_eq_true, Bool.and_eq_true] at this
  have h3 := this.2.2
  have hl : (put s n).length = 13 := by rw [put_len, hs]
  rw [List.getD_eq_getElem?_getD, List.getElem?_eq_getElem (by omega)] at h3
  rw [List.getElem?_eq_getElem (by omega)]
  simpa using h3
theorem put_keep {s : List Bool} {n : Int} {j : Nat} (h : s[j]? = some true) : (put s n)[j]? = some true := by
  unfold put
  split
  · rw [List.getElem?_set]
    split
    · split
      · rfl
      · rename_i h1 h2; exact absurd ((List.getElem?_eq_some_iff.1 h).1) (by omega)
    · exact h
  · exact h
theorem cnt_put_le {s : List Bool} (hs : s.length = 13) (n : Int) : (put s n).countP id ≤ s.countP id + 1 := by
  have := cnt_put hs n
  split at this <;> omega
end Psp
namespace Go.Proofs.Ytekpnihdbfgcdaa.ballotWeak
open Go.RowKit
set_option linter.unusedVariables false

/-- Two sets in the call's first two blocks: a of no more than f + 1, b of no more than f. -/
structure Two (w0 wr : World) (f : Int) (sa sb : List Bool) : Prop where
  la : sa.length = 13
  lb : sb.length = 13
  ba : Bools wr w0.heap.size 31 sa
  bb : Bools wr (w0.heap.size + 1) 31 sb
  ca : (sa.countP id : Int) ≤ f + 1
  cb : (sb.countP id : Int) ≤ f
  bel : Below w0.heap.size w0 wr

theorem Two.below {w0 wr w1 : World} {f : Int} {sa sb : List Bool} (h : Two w0 wr f sa sb) (hb : Below wr.heap.size wr w1) : Two w0 w1 f sa sb :=
  ⟨h.la, h.lb, h.ba.below hb h.ba.lt, h.bb.below hb h.bb.lt, h.ca, h.cb, h.bel.trans (hb.mono h.bel.size)⟩
theorem Two.puta {w0 wr w1 : World} {f n : Int} {sa sb : List Bool} (h : Two w0 wr f sa sb) (hc : (sa.countP id : Int) < f + 1) (hb : Bools w1 w0.heap.size 31 (Psp.put sa n)) (ho : Only w0.heap.size wr w1) : Two w0 w1 f (Psp.put sa n) sb :=
  ⟨by rw [Psp.put_len, h.la], h.lb, hb, h.bb.only ho (by omega), by have := Psp.cnt_put_le h.la n; omega, h.cb, h.bel.trans (ho.below (Nat.le_refl _))⟩
theorem Two.putb {w0 wr w1 : World} {f n : Int} {sa sb : List Bool} (h : Two w0 wr f sa sb) (hc : (sb.countP id : Int) < f) (hb : Bools w1 (w0.heap.size + 1) 31 (Psp.put sb n)) (ho : Only (w0.heap.size + 1) wr w1) : Two w0 w1 f sa (Psp.put sb n) :=
  ⟨h.la, by rw [Psp.put_len, h.lb], h.ba.only ho (by omega), hb, h.ca, by have := Psp.cnt_put_le h.lb n; omega, h.bel.trans (ho.below (by omega))⟩
theorem Two.start (w : World) (t : TypeId) {f : Int} (hf : 1 ≤ f) (h : t = 31) : Two w ((w.alloc (.cells (Array.replicate 13 (.bool false)) t)).alloc (.cells (Array.replicate 13 (.bool false)) t)) f (List.replicate 13 false) (List.replicate 13 false) := by
  subst h
  refine ⟨rfl, rfl, ?_, ?_, by simp; omega, by simp; omega, ((Below.refl _ _).alloc (Nat.le_refl _) _).alloc (by simp) _⟩
  · exact (Bools.new w _).keep (heap_alloc_old _ _ (by simp))
  · have := Bools.new (w.alloc (.cells (Array.replicate 13 (.bool false)) 31)) 31
    simpa using this

set_option maxRecDepth 100000 in
set_option maxHeartbeats 1000000 in
theorem walk (a0 : Int) (v1 : Value) (l1 : List Int) (v2 : Value) (l2 : List Int) (w : World) (b0 : isI64 a0) (hr1 : Rd w w.heap.size 1 v1 l1.length (l1.flatMap fun n => [iv n])) (hl1 : ∀ n ∈ l1, isI64 n)
    (hr2 : Rd w w.heap.size 1 v2 l2.length (l2.flatMap fun n => [iv n])) (hl2 : ∀ n ∈ l2, isI64 n) :
    Calls Try.prog 8 #[.int .i64 a0, v1, v2] w fun e w' => e = .returned (.bool true) ∧ Below w.heap.size w w' := by
  rw [flat_one] at hr1 hr2
  obtain ⟨c0, d0⟩ := b0
  have x0 := Psp.within_lo a0 4
  have x1 := Psp.within_hi a0 4 (by omega)
  obtain ⟨x, hx⟩ : ∃ x, Psp.within a0 4 = x := ⟨_, rfl⟩
  rw [hx] at x0 x1
  have hn' : Psp.nodes (1 + x) = 3 * (1 + x) + 1 := by unfold Psp.nodes; rw [if_pos ⟨by omega, by omega⟩]
  have hk' : Psp.weak (1 + x) = (1 + x) + 1 := by unfold Psp.weak; rw [if_pos ⟨by omega, by omega⟩]
  obtain ⟨f, hf⟩ : ∃ f, 1 + x = f := ⟨_, rfl⟩
  have f1 : 1 ≤ f := by omega
  have f2 : f ≤ 4 := by omega
  rw [hf] at hn' hk'
  obtain ⟨n, hn⟩ : ∃ n, 3 * f + 1 = n := ⟨_, rfl⟩
  rw [hn] at hn'
  have n1 : n = 3 * f + 1 := hn.symm
  have N1 := Lib.hid n1
  have n2 : 4 ≤ n := by omega
  have n3 : n ≤ 13 := by omega
  clear n1 hn
  have Hst := Lib.hid (Two.start w 31 f1 rfl)
  obtain ⟨hrl1, A1, cp1, rfl, hc11, hc12, hcell1⟩ := hr1
  obtain ⟨hrl2, A2, cp2, rfl, hc21, hc22, hcell2⟩ := hr2
  obtain ⟨len1, hlen1⟩ : ∃ len, l1.length = len := ⟨_, rfl⟩
  obtain ⟨len2, hlen2⟩ : ∃ len, l2.length = len := ⟨_, rfl⟩
  rw [hlen1] at hcell1 hc11 ⊢
  rw [hlen2] at hcell2 hc21 ⊢
  unfold maxLen at hc12 hc22
  have Hlen1 := Lib.hid hlen1
  have Hl1 := Lib.hid hl1
  have Hcell1 := Lib.hid hcell1
  have Hlen2 := Lib.hid hlen2
  have Hl2 := Lib.hid hl2
  have Hcell2 := Lib.hid hcell2
  clear hlen1 hl1 hrl1 hcell1 hlen2 hl2 hrl2 hcell2
  go_enter Try.func8, Try.ntmps8
  go_upto_block 0 with (first | (go_at_call 20; refine (within_any _ _ _ (by omega) (by omega) (by omega) (by omega)).mono ?_; rintro e w' ⟨rfl, rfl⟩) | (go_at_call 21; refine (b_nodes_any _ _).mono ?_; rintro e w' ⟨rfl, rfl⟩))
  go_cut [10] from 16 (fun i wx => ∃ sa sb, Two w wx f sa sb)
  case first =>
    go_wp2_with fail
    go_loopw [10] (fun i wr => ∃ (k : Nat) (sa sb : List Bool), i = .int .i64 (k : Int) ∧ k ≤ len2 ∧ k ≤ 40 ∧ Two w wr f sa sb) (fun i _ => 40 - (intOf i).toNat)
    case atStart => exact ⟨0, _, _, rfl, Nat.zero_le _, Nat.zero_le _, Hst.out⟩
    case round =>
      obtain ⟨k, sa, sb, rfl, hk, hk40, hT⟩ := hrel
      have hcf := hT.cb
      have hsz := hT.bel.size
      have HT := Lib.hid hT
      clear hT
      obtain ⟨cb, hcb⟩ : ∃ c, sb.countP id = c := ⟨_, rfl⟩
      rw [hcb] at hcf
      by_cases hlt : k < len2
      · by_cases h40 : k < 40
        · by_cases hc : (cb : Int) < f
          · obtain ⟨b, o, hAe, hb, hlies⟩ := Hcell2.out (by omega)
            subst hAe
            have hx0 : k < l2.length := by have := Hlen2.out; omega
            have hcy := ((hlies.keep (HT.out.bel.block b hb)).at_ (j := k) (by simpa using hx0))
            obtain ⟨y, hy⟩ : ∃ x, l2[k] = x := ⟨_, rfl⟩
            obtain ⟨hy1, hy2⟩ := Hl2.out y (by rw [← hy]; exact List.getElem_mem hx0)
            simp only [List.getElem_map, hy, iv] at hcy
            clear hlies hy
            have z0 := Psp.within_lo y n
            have z1 := Psp.within_hi y n (by omega)
            go_wp2_with (first | (go_at_call 33; refine (len_any sb _ _ HT.out.lb HT.out.bb).mono ?_; rintro e w1 ⟨rfl, hb1⟩; rw [hcb]; have HT1 := Lib.hid (HT.out.below hb1); have hc1 : w1.cell? ⟨b, o + k, none⟩ = some (.int .i64 y) := (hb1.cell (p := ⟨b, o + k, none⟩) (by simp; omega)).trans hcy) | (go_at_call 20; refine (within_any _ _ _ (by omega) (by omega) (by omega) (by omega)).mono ?_; rintro e w' ⟨rfl, rfl⟩) | (go_at_call 27; refine (b_weak_any _ _).mono ?_; rintro e w' ⟨rfl, rfl⟩) | (go_at_call 32; refine (put_any sb _ _ _ (by omega) (by omega) HT1.out.lb HT1.out.bb).mono ?_; rintro e w2 ⟨rfl, hb2, ho2⟩))
            go_roundw
            case rel => exact ⟨k + 1, sa, Psp.put sb (Psp.within y n), by go_num, by omega, by omega, HT1.out.putb (by rw [hcb]; exact hc) hb2 ho2⟩
            case measure => simp [intOf]; omega
          · go_wp2_with (first | (go_at_call 33; refine (len_any sb _ _ HT.out.lb HT.out.bb).mono ?_; rintro e w1 ⟨rfl, hb1⟩; rw [hcb]; have HT1 := Lib.hid (HT.out.below hb1)) | (go_at_call 27; refine (b_weak_any _ _).mono ?_; rintro e w' ⟨rfl, rfl⟩))
            go_meet
            exact ⟨_, _, HT1.out⟩
        · go_wp2_with fail
          go_meet
          exact ⟨_, _, HT.out⟩
      · go_wp2_with fail
        go_meet
        exact ⟨_, _, HT.out⟩
  case rest =>
  obtain ⟨sa0, sb0, hT0⟩ := hcut
  have HT0 := Lib.hid hT0
  clear hT0
  go_upto_block 2 with (first | (go_at_call 20; refine (within_any _ _ _ (by omega) (by omega) (by omega) (by omega)).mono ?_; rintro e w' ⟨rfl, rfl⟩) | (go_at_call 21; refine (b_nodes_any _ _).mono ?_; rintro e w' ⟨rfl, rfl⟩))
  go_cut [11] from 16 (fun i wx => ∃ sa sb, Two w wx f sa sb)
  case first =>
    go_wp2_with fail
    go_loopw [11] (fun i wr => ∃ (k : Nat) (sa sb : List Bool), i = .int .i64 (k : Int) ∧ k ≤ len1 ∧ k ≤ 60 ∧ Two w wr f sa sb) (fun i _ => 60 - (intOf i).toNat)
    case atStart => exact ⟨0, _, _, rfl, Nat.zero_le _, Nat.zero_le _, HT0.out⟩
    case round =>
      obtain ⟨k, sa, sb, rfl, hk, hk40, hT⟩ := hrel
      have hcf := hT.ca
      have hsz := hT.bel.size
      have HT := Lib.hid hT
      clear hT
      obtain ⟨cb, hcb⟩ : ∃ c, sa.countP id = c := ⟨_, rfl⟩
      rw [hcb] at hcf
      by_cases hlt : k < len1
      · by_cases h40 : k < 60
        · by_cases hc : (cb : Int) < f + 1
          · obtain ⟨b, o, hAe, hb, hlies⟩ := Hcell1.out (by omega)
            subst hAe
            have hx0 : k < l1.length := by have := Hlen1.out; omega
            have hcy := ((hlies.keep (HT.out.bel.block b hb)).at_ (j := k) (by simpa using hx0))
            obtain ⟨y, hy⟩ : ∃ x, l1[k] = x := ⟨_, rfl⟩
            obtain ⟨hy1, hy2⟩ := Hl1.out y (by rw [← hy]; exact List.getElem_mem hx0)
            simp only [List.getElem_map, hy, iv] at hcy
            clear hlies hy
            have z0 := Psp.within_lo y n
            have z1 := Psp.within_hi y n (by omega)
            go_wp2_with (first | (go_at_call 33; refine (len_any sa _ _ HT.out.la HT.out.ba).mono ?_; rintro e w1 ⟨rfl, hb1⟩; rw [hcb]; have HT1 := Lib.hid (HT.out.below hb1); have hc1 : w1.cell? ⟨b, o + k, none⟩ = some (.int .i64 y) := (hb1.cell (p := ⟨b, o + k, none⟩) (by simp; omega)).trans hcy) | (go_at_call 20; refine (within_any _ _ _ (by omega) (by omega) (by omega) (by omega)).mono ?_; rintro e w' ⟨rfl, rfl⟩) | (go_at_call 27; refine (b_weak_any _ _).mono ?_; rintro e w' ⟨rfl, rfl⟩) | (go_at_call 32; refine (put_any sa _ _ _ (by omega) (by omega) HT1.out.la HT1.out.ba).mono ?_; rintro e w2 ⟨rfl, hb2, ho2⟩))
            go_roundw
            case rel => exact ⟨k + 1, Psp.put sa (Psp.within y n), sb, by go_num, by omega, by omega, HT1.out.puta (by rw [hcb]; exact hc) hb2 ho2⟩
            case measure => simp [intOf]; omega
          · go_wp2_with (first | (go_at_call 33; refine (len_any sa _ _ HT.out.la HT.out.ba).mono ?_; rintro e w1 ⟨rfl, hb1⟩; rw [hcb]; have HT1 := Lib.hid (HT.out.below hb1)) | (go_at_call 27; refine (b_weak_any _ _).mono ?_; rintro e w' ⟨rfl, rfl⟩))
            go_meet
            exact ⟨_, _, HT1.out⟩
        · go_wp2_with fail
          go_meet
          exact ⟨_, _, HT.out⟩
      · go_wp2_with fail
        go_meet
        exact ⟨_, _, HT.out⟩
  case rest =>
  obtain ⟨sa0, sb0, hT0⟩ := hcut
  have HT0 := Lib.hid hT0
  clear hT0
  go_upto_block 4 with fail
  go_cut [12] from 16 (fun i wx => ∃ sa sb, Two w wx f sa sb ∧ (sa.countP id : Int) = f + 1)
  case first =>
    go_wp2_with fail
    go_loopw [12] (fun i wr => ∃ (k : Nat) (sa sb : List Bool), i = .int .i64 (k : Int) ∧ (k : Int) ≤ n ∧ Two w wr f sa sb ∧ ∀ j, j < k → sa[j]? = some true) (fun i _ => 13 - (intOf i).toNat)
    case atStart => exact ⟨0, _, _, rfl, by omega, HT0.out, fun j h => by omega⟩
    case round =>
      obtain ⟨k, sa, sb, rfl, hk, hT, hall⟩ := hrel
      have hcf := hT.ca
      have HT := Lib.hid hT
      have Hall := Lib.hid hall
      clear hT hall
      obtain ⟨cb, hcb⟩ : ∃ c, sa.countP id = c := ⟨_, rfl⟩
      rw [hcb] at hcf
      by_cases hlt : (k : Int) < n
      · by_cases hc : (cb : Int) < f + 1
        · go_wp2_with (first | (go_at_call 33; refine (len_any sa _ _ HT.out.la HT.out.ba).mono ?_; rintro e w1 ⟨rfl, hb1⟩; rw [hcb]; have HT1 := Lib.hid (HT.out.below hb1)) | (go_at_call 27; refine (b_weak_any _ _).mono ?_; rintro e w' ⟨rfl, rfl⟩) | (go_at_call 32; refine (put_any sa _ _ _ (by omega) (by omega) HT1.out.la HT1.out.ba).mono ?_; rintro e w2 ⟨rfl, hb2, ho2⟩))
          go_roundw
          case rel =>
            refine ⟨k + 1, Psp.put sa (k : Int), sb, by go_num, by omega, HT1.out.puta (by rw [hcb]; exact hc) hb2 ho2, fun j hj => ?_⟩
            by_cases hjk : j = k
            · subst hjk
              have := Psp.put_has HT.out.la (n := (j : Int)) (by omega) (by omega)
              rwa [Int.toNat_natCast] at this
            · exact Psp.put_keep (Hall.out j (by omega))
          case measure => simp [intOf]; omega
        · go_wp2_with (first | (go_at_call 33; refine (len_any sa _ _ HT.out.la HT.out.ba).mono ?_; rintro e w1 ⟨rfl, hb1⟩; rw [hcb]; have HT1 := Lib.hid (HT.out.below hb1)) | (go_at_call 27; refine (b_weak_any _ _).mono ?_; rintro e w' ⟨rfl, rfl⟩))
          go_meet
          exact ⟨_, _, HT1.out, by rw [hcb]; omega⟩
      · exfalso
        have h1 := Psp.cnt_all sa k (by rw [HT.out.la]; omega) Hall.out
        have := N1.out
        omega
  case rest =>
  obtain ⟨sa, sb, hT, hca⟩ := hcut
  obtain ⟨c, hc⟩ : ∃ c, sa.countP id = c := ⟨_, rfl⟩
  rw [hc] at hca
  have hml := Psp.members_len sa 0
  rw [hc] at hml
  have Hml := Lib.hid hml
  have HT := Lib.hid hT
  have hsz := hT.bel.size
  clear hT hml
  go_wp2_with (go_at_call 35; refine (all_any sa _ _ HT.out.la HT.out.ba).mono ?_; rintro e w2 ⟨v2, rfl, hown, hbel2⟩; rw [Hml.out] at hown; obtain ⟨A3, cp3, rfl, hc31, hc32, hxx⟩ := own_slice hown; clear hxx; have Hown := Lib.hid hown; clear hown; have HT2 := Lib.hid (HT.out.below hbel2))
  have hsz2 := hbel2.size
  go_loop [13, 82] (fun cr j => ∃ q z : Nat, j = .int .i64 (q : Int) ∧ q ≤ c ∧ cr = .int .i64 (z : Int) ∧ z ≤ q ∧ (1 ≤ z ∨ ∀ p (hp : p < (Psp.members sa 0).length), p < q → Psp.hasB sb (Psp.members sa 0)[p] = true)) (fun _ j => c - (intOf j).toNat)
  case atStart => exact ⟨0, 0, rfl, Nat.zero_le _, rfl, Nat.zero_le _, Or.inr fun p hp h => by omega⟩
  case round =>
    obtain ⟨q, z, rfl, hq, rfl, hz, hor⟩ := hrel
    have Hor := Lib.hid hor
    clear hor
    by_cases hqn : q < c
    · have hqm : q < (Psp.members sa 0).length := by rw [Hml.out]; exact hqn
      obtain ⟨g2, rfl, hqx, hcq⟩ := own_cell Hown.out hqn
      obtain ⟨m, hm⟩ : ∃ m, (Psp.members sa 0)[q] = m := ⟨_, rfl⟩
      simp only [List.getElem_map, hm, iv] at hcq
      obtain ⟨m0, m1, m2⟩ := Psp.members_bd sa 0 m (by rw [← hm]; exact List.getElem_mem hqm)
      rw [HT.out.la] at m1
      obtain ⟨hh, hhas⟩ : ∃ h, Psp.hasB sb m = h := ⟨_, rfl⟩
      have Hm := Lib.hid hm
      clear m2 hm
      cases hh with
      | true =>
        go_wp2_with (go_at_call 34; refine (has_any sb _ _ _ (by omega) (by omega) HT2.out.lb HT2.out.bb).mono ?_; rintro e w' ⟨rfl, rfl⟩; rw [hhas])
        go_round
        case rel =>
          refine ⟨q + 1, z, by go_num, by omega, rfl, by omega, ?_⟩
          rcases Hor.out with h | h
          · exact Or.inl h
          · refine Or.inr fun p hp hpq => ?_
            by_cases hpe : p = q
            · subst hpe; rw [Hm.out]; exact hhas
            · exact h p hp (by omega)
        case measure => simp [intOf]; omega
      | false =>
        go_wp2_with (go_at_call 34; refine (has_any sb _ _ _ (by omega) (by omega) HT2.out.lb HT2.out.bb).mono ?_; rintro e w' ⟨rfl, rfl⟩; rw [hhas])
        go_round
        case rel => exact ⟨q + 1, z + 1, by go_num, by omega, by go_num, by omega, Or.inl (by omega)⟩
        case measure => simp [intOf]; omega
    · have hqe : q = c := by omega
      have hz1 : 1 ≤ z := by
        rcases Hor.out with h | h
        · exact h
        · exfalso
          have h2 := Psp.cnt_in HT.out.la HT.out.lb fun m hm => by
            obtain ⟨p, hp, hpe⟩ := List.getElem_of_mem hm
            rw [← hpe]
            exact h p hp (by have := Hml.out; omega)
          have h3 := HT.out.cb
          omega
      have hzb : decide (1 ≤ (z : Int)) = true := by simp; omega
      go_wp2_with (first | (go_at_call 33; refine (len_any sa _ _ HT2.out.la HT2.out.ba).mono ?_; rintro e w1 ⟨rfl, hb1⟩; rw [hc, hca]) | (go_at_call 27; refine (b_weak_any _ _).mono ?_; rintro e w' ⟨rfl, rfl⟩) | (go_at_call 23; refine (wakes4 _).mono ?_; rintro e w' ⟨rfl, rfl⟩))
      go_ret
      exact ⟨rfl, HT2.out.bel.trans (hb1.mono (by omega))⟩
end Go.Proofs.Ytekpnihdbfgcdaa.ballotWeak
