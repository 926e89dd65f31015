/- The walk of PropSince. -/
import Derived.Test.YtmbdailffhdonaaOne
import Derived.Test.YtmbdailffhdonaaPutR
import Derived.Test.YtmbdailffhdonaaOpen
namespace Psp
/-- The first i nodes. -/
def firsts (i : Nat) : List Bool := (List.range 13).map fun j => decide (j < i)
theorem firsts_len (i : Nat) : (firsts i).length = 13 := by simp [firsts]
theorem firsts_get {i j : Nat} (h : j < 13) : (firsts i).getD j false = decide (j < i) := by
  unfold firsts
  rw [List.getD_eq_getElem?_getD, List.getElem?_map, List.getElem?_range h]; rfl
theorem firsts_put {i : Nat} (h : i < 13) : putB (firsts i) (i : Int) = true ∧ put (firsts i) (i : Int) = firsts (i + 1) := by
  have hg : (firsts i).getD i false = false := by rw [firsts_get h]; simp
  have hp : putB (firsts i) (i : Int) = true := by
    unfold putB
    rw [decide_eq_true (by omega : (0 : Int) ≤ i), decide_eq_true (by omega : (i : Int) ≤ 12), Int.toNat_natCast, hg]; rfl
  refine ⟨hp, ?_⟩
  unfold put
  rw [if_pos hp, Int.toNat_natCast]
  refine List.ext_getElem (by rw [List.length_set, firsts_len, firsts_len]) fun j h1 h2 => ?_
  rw [List.getElem_set]
  have hj : j < 13 := by rw [firsts_len] at h2; exact h2
  simp only [firsts, List.getElem_map, List.getElem_range]
  split
  · rename_i e; simp; omega
  · rename_i e; congr 1; exact propext ⟨fun h => by omega, fun h => by omega⟩
theorem firsts_cnt : ∀ (i : Nat), i ≤ 13 → (firsts i).countP id = i
  | 0, _ => rfl
  | i + 1, h => by
    obtain ⟨h1, h2⟩ := firsts_put (i := i) (by omega)
    rw [← h2, cnt_put (firsts_len i), h1, if_pos rfl, firsts_cnt i (by omega)]
theorem firsts_has {i : Nat} {n : Int} (h0 : 0 ≤ n) (h1 : n ≤ 12) : hasB (firsts i) n = decide (n < (i : Int)) := by
  unfold hasB
  rw [decide_eq_true h0, decide_eq_true h1, firsts_get (by omega)]
  simp only [Bool.true_and]
  congr 1
  exact propext ⟨fun h => by omega, fun h => by omega⟩
theorem putAt_since {f : Int} {r : Req} {s : List Bool} {n : Nat} {since k c : Int} (f1 : 1 ≤ f) (f2 : f ≤ 4) (hs : s.length = 13) (hn : s.countP id = n) (hp : putB s k = true) :
    (putAt f ⟨r, s, decide (f + 1 ≤ (n : Int)), since⟩ k c).1.since = if (n : Int) = f then c else since := by
  have hw : weak f = f + 1 := by unfold weak; rw [if_pos ⟨f1, f2⟩]
  have hc := cnt_put hs k
  rw [hp, if_pos rfl, hn] at hc
  unfold putAt
  simp only [hw, hc]
  by_cases h1 : f + 1 ≤ (n : Int)
  · rw [decide_eq_true h1, if_neg (by omega : ¬ (n : Int) = f)]; rfl
  · rw [decide_eq_false h1]
    by_cases h2 : f + 1 ≤ ((n + 1 : Nat) : Int)
    · rw [decide_eq_true h2, if_pos (by omega : (n : Int) = f)]; rfl
    · rw [decide_eq_false h2, if_neg (by omega : ¬ (n : Int) = f)]; rfl
theorem one_other {i : Nat} {r r' : Req} {s : List Bool} {rd : Bool} {since : Int} (h : r ≠ r') : isAt (one (i + 1) r s rd since) r' = false := by
  cases ha : isAt (one (i + 1) r s rd since) r' with
  | false => rfl
  | true =>
    exfalso
    obtain ⟨t, ht, e⟩ := isAt_mem ha
    have hall : ∀ t ∈ one (i + 1) r s rd since, t.r = r := by
      unfold one
      rw [if_neg (by omega)]
      intro t ht
      rw [List.mem_singleton.1 ht]
    exact h (by rw [← hall t ht, e])
theorem since_other {l : List Told} {r : Req} (h : isAt l r = false) : sinceOf l r = (0, false) := by
  unfold sinceOf; rw [h]; split <;> rfl
theorem has_other {l : List Told} {r : Req} {n : Int} (h : isAt l r = false) : hasOf l r n = false := by
  unfold hasOf; rw [h]; rfl
theorem one_has {i : Nat} {r : Req} {s : List Bool} {rd : Bool} {since n : Int} : hasOf (one (i + 1) r s rd since) r n = hasB s n := by
  unfold one
  rw [if_neg (by omega)]
  have hcs : cmpR r r = 0 := cmpR_self r
  have hp : pos [(⟨r, s, rd, since⟩ : Told)] r = 0 := by
    unfold pos
    rw [List.takeWhile_cons, if_neg (by rw [hcs]; simp)]; rfl
  have ha : isAt [(⟨r, s, rd, since⟩ : Told)] r = true := by rw [isAt_lt hp (by simp)]; simp
  unfold hasOf
  rw [hp, ha]; rfl
/-- The clock of the i-th node. -/
def clk (l : List Int) (i : Nat) : Int := match l[i]? with | some y => within y 1000 | none => i
end Psp
namespace Go.Proofs.Ytmbdailffhdonaa.propSince
open Go.RowKit
set_option linter.unusedVariables false

theorem ready_one (i : Nat) (r : Psp.Req) (s : List Bool) (rd : Bool) (since : Int) : (readyOf (Psp.one (i + 1) r s rd since)).length = if rd = true then 1 else 0 := by
  unfold readyOf Psp.one
  rw [if_neg (by omega), List.length_map]
  cases rd <;> rfl

theorem at_clk (l : List Int) (i bc : Nat) (A : Option Addr) (cp : Nat) (w : World) (B : Nat) (hr : Rd w B 1 (.slice A l.length cp) l.length (l.map iv)) (hl : ∀ n ∈ l, isI64 n) (hb : w.cell? ⟨bc, 0, none⟩ = some (.slice A l.length cp)) (hi : i ≤ 100) :
    Calls Try.prog 20 #[.int .i64 (i : Int), .pointer (some ⟨bc, 0, none⟩)] w fun e w' => e = .returned (.int .i64 (Psp.clk l i)) ∧ w = w' := by
  obtain ⟨hrl, A', c', e, hc1, hc2, hcell⟩ := hr
  injection e with e1 _ e2
  subst e1 e2
  obtain ⟨len, hlen⟩ : ∃ len, l.length = len := ⟨_, rfl⟩
  rw [hlen] at hcell hc1 hb
  unfold maxLen at hc2
  by_cases hlt : i < len
  · obtain ⟨b, o, rfl, hbb, hlies⟩ := hcell (by omega)
    have hx0 : i < l.length := by omega
    have hcy := hlies.at_ (j := i) (by simpa using hx0)
    obtain ⟨y, hy⟩ : ∃ x, l[i] = x := ⟨_, rfl⟩
    obtain ⟨hy1, hy2⟩ := hl y (by rw [← hy]; exact List.getElem_mem hx0)
    simp only [List.getElem_map, hy, iv] at hcy
    have hk : Psp.clk l i = Psp.within y 1000 := by unfold Psp.clk; rw [List.getElem?_eq_getElem hx0, hy]
    rw [hk]
    clear hlies hy hlen hl hk hrl hcell
    go_enter Try.func20, Try.ntmps20
    go_wp2_with (go_at_call 9; refine (within_any _ _ _ (by omega) (by omega) (by omega) (by omega)).mono ?_; rintro e w' ⟨rfl, rfl⟩)
    go_ret
    exact ⟨rfl, rfl⟩
  · have hk : Psp.clk l i = (i : Int) := by unfold Psp.clk; rw [List.getElem?_eq_none (by omega)]
    rw [hk]
    clear hlen hl hk hrl hcell
    go_enter Try.func20, Try.ntmps20
    go_wp2_with fail
    go_ret
    exact ⟨rfl, rfl⟩

theorem at_clk' (l : List Int) (x : Int) (bc : Nat) (A : Option Addr) (cp : Nat) (w : World) (B : Nat) (hr : Rd w B 1 (.slice A l.length cp) l.length (l.map iv)) (hl : ∀ n ∈ l, isI64 n) (hb : w.cell? ⟨bc, 0, none⟩ = some (.slice A l.length cp)) (h0 : 0 ≤ x) (hi : x ≤ 100) :
    Calls Try.prog 20 #[.int .i64 x, .pointer (some ⟨bc, 0, none⟩)] w fun e w' => e = .returned (.int .i64 (Psp.clk l x.toNat)) ∧ w = w' := by
  have h := at_clk l x.toNat bc A cp w B hr hl hb (by omega)
  rwa [Int.toNat_of_nonneg h0] at h
theorem ready_slice (S : Nat → Prop) (g : Nat) (f cl : Int) (l : List Psp.Told) (n : Nat) (w : World) (hT : Tab w S g f cl l) (hn : (readyOf l).length = n) :
    Calls Try.prog 19 #[.pointer (some ⟨g, 0, none⟩)] w fun e w' => ∃ A c, e = .returned (.slice A n c) ∧ Below w.heap.size w w' := by
  refine (ready_tab S g f cl l w hT).mono ?_
  rintro e w' ⟨v, rfl, ho, hb⟩
  rw [hn] at ho
  obtain ⟨A, c, rfl, _⟩ := own_slice ho
  exact ⟨A, c, rfl, hb⟩

theorem six {w : World} {b : Nat} {r : Psp.Req} (h : w.rangeAt b 0 (rq r)) : w.cell? ⟨b, 0, none⟩ = some (.int .i64 r.c) ∧ w.cell? ⟨b, 1, none⟩ = some (.int .i64 r.t) ∧ w.cell? ⟨b, 2, none⟩ = some (.int .i64 r.k) ∧ w.cell? ⟨b, 3, none⟩ = some (.int .i64 r.y) ∧ w.cell? ⟨b, 4, none⟩ = some (.int .i64 r.v) ∧ w.cell? ⟨b, 5, none⟩ = some (.int .i64 r.s) :=
  ⟨h 0 _ rfl, h 1 _ rfl, h 2 _ rfl, h 3 _ rfl, h 4 _ rfl, h 5 _ rfl⟩
theorem wrap_ne (t : Int) (h1 : -9223372036854775808 ≤ t) (h2 : t ≤ 9223372036854775807) : t ≠ wrap64 (t + 1) := by
  unfold wrap64; omega

structure SInv (w0 wr : World) (r : Psp.Req) (f : Int) (g bx bc i : Nat) (hd : Value) (l : List Int) (since : Int) : Prop where
  tab : ∃ S, Tab wr S g f 2 (Psp.one i r (Psp.firsts i) (decide (f + 1 ≤ (i : Int))) since) ∧ ∀ k, S k → w0.heap.size ≤ k ∧ k ≠ bx ∧ k ≠ bc
  box : wr.rangeAt bx 0 (rq r)
  cbox : wr.cell? ⟨bc, 0, none⟩ = some hd
  bel : Below w0.heap.size w0 wr
  lo : w0.heap.size ≤ bx ∧ w0.heap.size ≤ bc ∧ bx < wr.heap.size ∧ bc < wr.heap.size
  sn : f + 1 ≤ (i : Int) → since = Psp.clk l f.toNat
  z : i = 0 → since = 0
theorem SInv.after {w0 wr w2 w3 : World} {r : Psp.Req} {f : Int} {g bx bc i : Nat} {hd : Value} {l : List Int} {since : Int} (h : SInv w0 wr r f g bx bc i hd l since) {S : Nat → Prop} (hw2 : Below wr.heap.size wr w2) (hS : ∀ k, S k → w0.heap.size ≤ k ∧ k ≠ bx ∧ k ≠ bc) (hF : Fp S w2 w3) :
    w3.rangeAt bx 0 (rq r) ∧ w3.cell? ⟨bc, 0, none⟩ = some hd ∧ Below w0.heap.size w0 w3 ∧ (∀ k, (S k ∨ (w2.heap.size ≤ k ∧ k < w3.heap.size)) → w0.heap.size ≤ k ∧ k ≠ bx ∧ k ≠ bc) ∧ bx < w3.heap.size ∧ bc < w3.heap.size := by
  obtain ⟨l1, l2, l3, l4⟩ := h.lo
  have h3 := hw2.size
  have h4 := h.bel.size
  have h5 := hF.size
  refine ⟨range_keep (range_keep h.box (hw2.block _ l3)) (hF.block _ (by omega) fun hk => (hS _ hk).2.1 rfl), ?_, (h.bel.trans (hw2.mono h4)).trans (hF.to_below (by omega) fun k _ hk => (hS k hk).1), fun k hk => ?_, by omega, by omega⟩
  · exact ((World.cell?_of_block (a := ⟨bc, 0, none⟩) (hF.block bc (by omega) fun hk => (hS _ hk).2.2 rfl)).trans (World.cell?_of_block (a := ⟨bc, 0, none⟩) (hw2.block bc l4))).trans h.cbox
  · rcases hk with hk | hk
    · exact hS k hk
    · exact ⟨by omega, by omega, by omega⟩

set_option maxRecDepth 100000 in
set_option maxHeartbeats 4000000 in
theorem walk (a0 : Int) (r0 : Psp.Req) (v : Value) (l : List Int) (w : World) (b0 : isI64 a0) (b1 : wfReq r0) (hr : Rd w w.heap.size 1 v l.length (l.flatMap fun n => [iv n])) (hl : ∀ n ∈ l, isI64 n) :
    Calls Try.prog 7 #[.int .i64 a0, .agg #[.int .i64 r0.c, .int .i64 r0.t, .int .i64 r0.k, .int .i64 r0.y, .int .i64 r0.v, .int .i64 r0.s], v] w fun e w' => e = .returned (.bool true) ∧ Below w.heap.size w w' := by
  rw [flat_one] at hr
  obtain ⟨c0, d0⟩ := b0
  obtain ⟨rc1, rc2⟩ := b1.1
  obtain ⟨rt1, rt2⟩ := b1.2.1
  have x0 := Psp.within_lo a0 4
  have x1 := Psp.within_hi a0 4 (by omega)
  obtain ⟨x, hx⟩ : ∃ x, Psp.within a0 4 = x := ⟨_, rfl⟩
  rw [hx] at x0 x1
  have y0 := Psp.within_lo r0.c 2
  have y1 := Psp.within_hi r0.c 2 (by omega)
  obtain ⟨rc, hrc⟩ : ∃ x, Psp.within r0.c 2 = x := ⟨_, rfl⟩
  rw [hrc] at y0 y1
  obtain ⟨f, hf⟩ : ∃ f, 1 + x = f := ⟨_, rfl⟩
  have f1 : 1 ≤ f := by omega
  have f2 : f ≤ 4 := by omega
  obtain ⟨r, hrr⟩ : ∃ r : Psp.Req, (⟨rc, r0.t, r0.k, r0.y, r0.v, r0.s⟩ : Psp.Req) = r := ⟨_, rfl⟩
  have q0 : 0 ≤ r.c := by rw [← hrr]; exact y0
  have q1 : r.c < 2 := by rw [← hrr]; exact y1
  have et1 : -9223372036854775808 ≤ r.t := by rw [← hrr]; exact rt1
  have et2 : r.t ≤ 9223372036854775807 := by rw [← hrr]; exact rt2
  have hn' : Psp.nodes f = 3 * f + 1 := by unfold Psp.nodes; rw [if_pos ⟨f1, f2⟩]
  have Hn := Lib.hid hn'
  obtain ⟨A, cp, rfl⟩ : ∃ A cp, v = .slice A l.length cp := by obtain ⟨_, A, c, e, _⟩ := hr; exact ⟨A, c, e⟩
  have Hr := Lib.hid hr
  have Hl := Lib.hid hl
  have Hrr := Lib.hid hrr
  obtain ⟨fn, hfn⟩ : ∃ n : Nat, f.toNat = n := ⟨_, rfl⟩
  have hfn' : (fn : Int) = f := by omega
  have Hfn := Lib.hid hfn'
  have Hfn2 := Lib.hid hfn
  clear hrr hn' hr hl b1 hfn hfn'
  go_enter Try.func7, Try.ntmps7
  go_wp2_with (first | (go_at_call 9; refine (within_any _ _ _ (by omega) (by omega) (by omega) (by omega)).mono ?_; rintro e w' ⟨rfl, rfl⟩) | (go_at_call 10; refine (new_any _ 2 _ (by omega) (by omega) (by omega) (by omega)).mono ?_; rintro e w1 ⟨g, rfl, hT, hg, hb1⟩; have HT1 := Lib.hid hT; have Hb1 := Lib.hid hb1; have Hg := Lib.hid hg; have hgl := hT.lt g rfl; clear hT hb1 hg))
  go_loopw [10] (fun i wr => ∃ (k : Nat) (since : Int), i = .int .i64 (k : Int) ∧ (k : Int) ≤ 3 * f + 1 ∧ SInv w wr r f g w.heap.size (w.heap.size + 1) k (.slice A l.length cp) l since) (fun i _ => 14 - (intOf i).toNat)
  case atStart =>
    have hs1 := Hb1.out.size
    have hg' := Hg.out
    simp at hs1 hg'
    refine ⟨0, 0, rfl, by omega, ?_⟩
    have e0 : Psp.one 0 r (Psp.firsts 0) (decide (f + 1 ≤ ((0 : Nat) : Int))) 0 = [] := rfl
    refine ⟨⟨fun k => k = g, ?_, fun k hk => by subst hk; exact ⟨by omega, by omega, by omega⟩⟩, ?_, ?_, ?_, ⟨Nat.le_refl _, by omega, by omega, by omega⟩, fun h => by omega, fun _ => rfl⟩
    · rw [e0]; exact HT1.out
    · rw [← Hrr.out]
      exact range_keep (range_keep (range_new w _ _) (heap_alloc_old _ _ (by simp))) (Hb1.out.block _ (by simp; omega))
    · have hc := (range_keep (range_new (w.alloc _) _ _) (Hb1.out.block _ (by simp))) 0 _ rfl
      simpa using hc
    · exact (((Below.refl _ _).alloc (Nat.le_refl _) _).alloc (by simp) _).trans (Hb1.out.mono (by simp; omega))
  case round =>
    obtain ⟨k, since, rfl, hk, hI⟩ := hrel
    have HI := Lib.hid hI
    have hlo := hI.bel.size
    clear hI
    have hk13 : k ≤ 13 := by omega
    by_cases hlt : (k : Int) < 3 * f + 1
    · obtain ⟨S, hT, hS⟩ := HI.out.tab
      have HT := Lib.hid hT
      have HS := Lib.hid hS
      have c0 := HI.out.box 0 _ rfl
      have c1 := HI.out.box 1 _ rfl
      have c2 := HI.out.box 2 _ rfl
      have c3 := HI.out.box 3 _ rfl
      have c4 := HI.out.box 4 _ rfl
      have c5 := HI.out.box 5 _ rfl
      simp only [Nat.zero_add, iv] at c0 c1 c2 c3 c4 c5
      clear hT hS
      go_wp2_with fail
      refine wp_region_still_tail_drew 6 (by kernel_rfl) (by kernel_rfl) ?_
      simp only [List.take_succ_cons, List.take_zero, List.drop_succ_cons, List.drop_zero]
      repeat (first | still_step | still_call ((at_clk l k (w.heap.size + 1) A cp _ w.heap.size (Hr.out.below HI.out.bel.drew) Hl.out HI.out.cbox (by omega)).mono fun _ _ h => ⟨h.1, h.2.symm⟩))
      refine wpStill_nil ?_
      clear c0 c1 c2 c3 c4 c5
      have hS0 : Psp.firsts 0 = List.replicate 13 false := by decide
      have hstep := Psp.one_step (f := f) (i := k) (r := r) (s := Psp.firsts k) (rd := decide (f + 1 ≤ (k : Int))) (since := since) (k := (k : Int)) (c := Psp.clk l k) q0 q1 (by omega) (by rw [Hn.out]; exact hlt) (fun h => ⟨by rw [h]; exact hS0, by rw [decide_eq_false]; omega, HI.out.z h⟩)
      obtain ⟨p1, p2⟩ := Psp.firsts_put (i := k) (by omega)
      have hcnt := Psp.firsts_cnt k hk13
      obtain ⟨p3, p4⟩ := Psp.putAt_new (r := r) (s := Psp.firsts k) (since := since) (k := (k : Int)) (c := Psp.clk l k) f1 f2 (Psp.firsts_len k) hcnt p1
      have p5 := Psp.putAt_since (r := r) (s := Psp.firsts k) (since := since) (k := (k : Int)) (c := Psp.clk l k) f1 f2 (Psp.firsts_len k) hcnt p1
      rw [p2, p4, p5] at hstep
      obtain ⟨si, hsi⟩ : ∃ si, (if (k : Int) = f then Psp.clk l k else since) = si := ⟨_, rfl⟩
      rw [hsi] at hstep
      have hsi2 : f ≤ (k : Int) → si = Psp.clk l f.toNat := fun h => by
        rw [← hsi]
        by_cases h2 : (k : Int) = f
        · rw [if_pos h2, ← h2, Int.toNat_natCast]
        · rw [if_neg h2]; exact HI.out.sn (by omega)
      have Hstep := Lib.hid hstep
      have Hsi2 := Lib.hid hsi2
      obtain ⟨X, hX⟩ : ∃ X, Psp.clk l k = X := ⟨_, rfl⟩
      rw [hX]
      have HX := Lib.hid hX
      clear hstep p1 p2 p3 p4 p5 hcnt hsi hsi2 hX hS0
      go_wp2_with fail
      refine (put_all r _ _ S g f 2 _ _ (HT.out.below (Below.refl _ _).drew) (by have := Psp.one_len k r (Psp.firsts k) (decide (f + 1 ≤ (k : Int))) since; omega)).mono ?_
      rintro e w3 ⟨rfl, hT3, hF3⟩
      rw [← HX.out, Hstep.out] at hT3
      rw [← HX.out, Hstep.out]
      obtain ⟨a1, a2, a3, a4, a5, a6⟩ := HI.out.after (Below.refl _ _).drew HS.out hF3
      have A1 := Lib.hid a1
      have A2 := Lib.hid a2
      have A3 := Lib.hid a3
      have A4 := Lib.hid a4
      have g0 := a1 0 _ rfl
      have g1 := a1 1 _ rfl
      have g2 := a1 2 _ rfl
      have g3 := a1 3 _ rfl
      have g4 := a1 4 _ rfl
      have g5 := a1 5 _ rfl
      simp only [Nat.zero_add, iv] at g0 g1 g2 g3 g4 g5
      have HSi := Lib.hid (Psp.one_since (i := k) (r := r) (s := Psp.firsts (k + 1)) (rd := decide (f + 1 ≤ ((k + 1 : Nat) : Int))) (since := si))
      have HRl := Lib.hid (ready_one k r (Psp.firsts (k + 1)) (decide (f + 1 ≤ ((k + 1 : Nat) : Int))) si)
      by_cases hkf : f ≤ (k : Int)
      · have e1 : decide (f + 1 ≤ ((k + 1 : Nat) : Int)) = true := decide_eq_true (by omega)
        have hSi := HSi.out
        have hRl := HRl.out
        rw [e1] at hT3 hSi hRl
        rw [if_pos rfl] at hSi hRl
        rw [Hsi2.out hkf] at hSi hT3
        have HT3 := Lib.hid hT3
        have HSi3 := Lib.hid hSi
        have HRl3 := Lib.hid hRl
        obtain ⟨Y, hY⟩ : ∃ Y, Psp.clk l f.toNat = Y := ⟨_, rfl⟩
        have HY := Lib.hid hY
        have dk : decide (f ≤ (k : Int)) = true := decide_eq_true hkf
        rw [e1]
        clear hT3 hSi hRl e1 a1 a2 a3 a4 hF3 HSi HRl hY
        go_wp2_with (first | (go_at_call 13; refine (since_any r _ g f 2 _ _ HT3.out).mono ?_; rintro e w5 ⟨rfl, hb5⟩; rw [HSi3.out, HY.out]; have HB5 := Lib.hid hb5; have HT5 := Lib.hid (HT3.out.below hb5); clear hb5) | (go_at_call 20; refine (at_clk' l f (w.heap.size + 1) A cp _ w.heap.size ((Hr.out.below A3.out).below (HB5.out.mono A3.out.size)) Hl.out ((World.cell?_of_block (a := ⟨w.heap.size + 1, 0, none⟩) (HB5.out.block _ a6)).trans A2.out) (by omega) (by omega)).mono ?_; rintro e w6 ⟨rfl, rfl⟩; rw [HY.out]) | (go_at_call 19; refine (ready_slice _ g f 2 _ 1 _ HT5.out HRl3.out).mono ?_; rintro e w6 ⟨A7, c7, rfl, hb6⟩; have HB6 := Lib.hid hb6; clear hb6))
        go_roundw
        case rel =>
          have hB := HB5.out.trans (HB6.out.mono HB5.out.size)
          have hsz := hB.size
          refine ⟨k + 1, Psp.clk l f.toNat, by go_num, by omega, ⟨_, ?_, A4.out⟩, range_keep A1.out (hB.block _ a5), (World.cell?_of_block (a := ⟨w.heap.size + 1, 0, none⟩) (hB.block _ a6)).trans A2.out, A3.out.trans (hB.mono A3.out.size), ⟨Nat.le_refl _, by omega, by omega, by omega⟩, fun _ => rfl, fun h => by omega⟩
          rw [decide_eq_true (by omega : f + 1 ≤ ((k + 1 : Nat) : Int))]
          exact HT5.out.below HB6.out
        case measure => simp [intOf]; omega
      · have e1 : decide (f + 1 ≤ ((k + 1 : Nat) : Int)) = false := decide_eq_false (by omega)
        have hSi := HSi.out
        have hRl := HRl.out
        rw [e1] at hT3 hSi hRl
        rw [if_neg (by simp)] at hSi hRl
        have HT3 := Lib.hid hT3
        have HSi3 := Lib.hid hSi
        have HRl3 := Lib.hid hRl
        have dk : decide (f ≤ (k : Int)) = false := decide_eq_false hkf
        have e7 : decide ((k : Int) + 1 = f + 1) = false := decide_eq_false (by omega)
        have hz0 : k + 1 = 0 → si = 0 := by omega
        rw [e1]
        clear hT3 hSi hRl e1 a1 a2 a3 a4 hF3 HSi HRl hz0
        go_wp2_with (first | (go_at_call 13; refine (since_any r _ g f 2 _ _ HT3.out).mono ?_; rintro e w5 ⟨rfl, hb5⟩; rw [HSi3.out]; have HB5 := Lib.hid hb5; have HT5 := Lib.hid (HT3.out.below hb5); clear hb5) | (go_at_call 19; refine (ready_slice _ g f 2 _ 0 _ HT5.out HRl3.out).mono ?_; rintro e w6 ⟨A7, c7, rfl, hb6⟩; have HB6 := Lib.hid hb6; clear hb6))
        go_roundw
        case rel =>
          have hB := HB5.out.trans (HB6.out.mono HB5.out.size)
          have hsz := hB.size
          refine ⟨k + 1, si, by go_num, by omega, ⟨_, ?_, A4.out⟩, range_keep A1.out (hB.block _ a5), (World.cell?_of_block (a := ⟨w.heap.size + 1, 0, none⟩) (hB.block _ a6)).trans A2.out, A3.out.trans (hB.mono A3.out.size), ⟨Nat.le_refl _, by omega, by omega, by omega⟩, fun h => by omega, fun h => by omega⟩
          rw [decide_eq_false (by omega : ¬ f + 1 ≤ ((k + 1 : Nat) : Int))]
          exact HT5.out.below HB6.out
        case measure => simp [intOf]; omega
    · obtain ⟨m, rfl⟩ : ∃ m, k = m + 1 := ⟨k - 1, by omega⟩
      obtain ⟨S, hT, hS⟩ := HI.out.tab
      have HT := Lib.hid hT
      have HS := Lib.hid hS
      have c0 := HI.out.box 0 _ rfl
      have c1 := HI.out.box 1 _ rfl
      have c2 := HI.out.box 2 _ rfl
      have c3 := HI.out.box 3 _ rfl
      have c4 := HI.out.box 4 _ rfl
      have c5 := HI.out.box 5 _ rfl
      simp only [Nat.zero_add, iv] at c0 c1 c2 c3 c4 c5
      clear hT hS
      have hne := wrap_ne r.t et1 et2
      have hhas0 := Psp.one_has (i := m) (r := r) (s := Psp.firsts (m + 1)) (rd := decide (f + 1 ≤ ((m + 1 : Nat) : Int))) (since := since) (n := 0)
      have hhas1 := Psp.one_has (i := m) (r := r) (s := Psp.firsts (m + 1)) (rd := decide (f + 1 ≤ ((m + 1 : Nat) : Int))) (since := since) (n := 3 * f + 1)
      rw [Psp.firsts_has (by omega) (by omega), decide_eq_true (by omega : (0 : Int) < ((m + 1 : Nat) : Int))] at hhas0
      have hh1 : Psp.hasB (Psp.firsts (m + 1)) (3 * f + 1) = false := by
        by_cases h : 3 * f + 1 ≤ 12
        · rw [Psp.firsts_has (by omega) h, decide_eq_false (by omega)]
        · unfold Psp.hasB; rw [decide_eq_false h]; simp
      rw [hh1] at hhas1
      have Hhas0 := Lib.hid hhas0
      have Hhas1 := Lib.hid hhas1
      clear hhas0 hhas1 hh1
      go_wp2_with fail
      obtain ⟨T, hTT⟩ : ∃ T, wrap64 (r.t + 1) = T := ⟨_, rfl⟩
      rw [hTT] at hne ⊢
      have hr' : r ≠ ⟨r.c, T, r.k, r.y, r.v, r.s⟩ := fun h => hne (congrArg Psp.Req.t h)
      have hoth := Psp.one_other (i := m) (s := Psp.firsts (m + 1)) (rd := decide (f + 1 ≤ ((m + 1 : Nat) : Int))) (since := since) hr'
      have Hs0 := Lib.hid (Psp.since_other hoth)
      have Hs1 := Lib.hid (Psp.has_other (n := 0) hoth)
      clear hoth hr' hne hTT c0 c1 c2 c3 c4 c5
      refine (since_any ⟨r.c, T, r.k, r.y, r.v, r.s⟩ S g f 2 _ _ (HT.out.below ((Below.refl _ _).alloc (Nat.le_refl _) _))).mono ?_
      rintro e w5 ⟨rfl, hb5⟩
      rw [Hs0.out]
      have hz := hb5.size
      simp at hz
      have hB5 := ((Below.refl wr.heap.size wr).alloc (Nat.le_refl _) _).trans (hb5.mono (by simp))
      obtain ⟨x0, x1, x2, x3, x4, x5⟩ := six (r := ⟨r.c, T, r.k, r.y, r.v, r.s⟩) (range_keep (range_new wr _ _) (hb5.block _ (by simp)))
      dsimp only at x0 x1 x2 x3 x4 x5
      have HB5 := Lib.hid hB5
      clear hb5 hB5
      have hT5 := HT.out.below HB5.out
      obtain ⟨y0, y1, y2, y3, y4, y5⟩ := six (range_keep HI.out.box (HB5.out.block _ HI.out.lo.2.2.1))
      have HT5 := Lib.hid hT5
      clear hT5
      go_wp2_with fail
      refine (has_tab ⟨r.c, T, r.k, r.y, r.v, r.s⟩ 0 (by omega) (by omega) S g f 2 _ _ HT5.out).mono ?_
      rintro e w6 ⟨rfl, hb6⟩
      rw [Hs1.out]
      have HB6 := Lib.hid (HB5.out.trans (hb6.mono HB5.out.size))
      have HT6 := Lib.hid (HT5.out.below hb6)
      obtain ⟨y0, y1, y2, y3, y4, y5⟩ := six (range_keep HI.out.box (HB6.out.block _ HI.out.lo.2.2.1))
      clear hb6 x0 x1 x2 x3 x4 x5
      go_wp2_with fail
      refine (has_tab r 0 (by omega) (by omega) S g f 2 _ _ HT6.out).mono ?_
      rintro e w7 ⟨rfl, hb7⟩
      rw [Hhas0.out]
      have HB7 := Lib.hid (HB6.out.trans (hb7.mono HB6.out.size))
      have HT7 := Lib.hid (HT6.out.below hb7)
      clear y0 y1 y2 y3 y4 y5
      obtain ⟨y0, y1, y2, y3, y4, y5⟩ := six (range_keep HI.out.box (HB7.out.block _ HI.out.lo.2.2.1))
      clear hb7
      go_wp2_with fail
      refine (has_tab r (3 * f + 1) (by omega) (by omega) S g f 2 _ _ HT7.out).mono ?_
      rintro e w8 ⟨rfl, hb8⟩
      rw [Hhas1.out]
      have HB8 := Lib.hid hb8
      clear hb8 y0 y1 y2 y3 y4 y5
      go_wp2_with (go_at_call 15; refine (wakes13 _).mono ?_; rintro e w' ⟨rfl, hb9⟩)
      go_ret
      have h1 := HB7.out.trans (HB8.out.mono HB7.out.size)
      exact ⟨rfl, HI.out.bel.trans ((h1.trans (hb9.mono h1.size)).mono hlo)⟩
end Go.Proofs.Ytmbdailffhdonaa.propSince
