/- The walk of PropReady. -/
import Derived.Test.YtmbdailffhdonaaTab9
import Derived.Test.YtmbdailffhdonaaOpen
namespace Psp
/-- The table behind i calls: the one request, if any. -/
def one (i : Nat) (r : Req) (s : List Bool) (rd : Bool) (since : Int) : List Told := if i = 0 then [] else [⟨r, s, rd, since⟩]
theorem one_step {f : Int} {i : Nat} {r : Req} {s : List Bool} {rd : Bool} {since k c : Int} (hc0 : 0 ≤ r.c) (hc : r.c < 2) (k0 : 0 ≤ k) (k1 : k < nodes f) (h0 : i = 0 → s = List.replicate 13 false ∧ rd = false ∧ since = 0) :
    putP f 2 (one i r s rd since) r k c = ((decide (i = 0), (putAt f ⟨r, s, rd, since⟩ k c).2, 0), one (i + 1) r (put s k) (putAt f ⟨r, s, rd, since⟩ k c).1.ready (putAt f ⟨r, s, rd, since⟩ k c).1.since) := by
  have hok : 0 ≤ r.c ∧ r.c < 2 ∧ 0 ≤ k ∧ k < nodes f := ⟨hc0, hc, k0, k1⟩
  have hwho : ∀ t n cc, (putAt f t n cc).1 = ⟨t.r, put t.who n, (putAt f t n cc).1.ready, (putAt f t n cc).1.since⟩ := fun t n cc => by
    unfold putAt; split <;> rfl
  unfold putP
  rw [if_pos hok]
  unfold one
  rw [if_neg (by omega : ¬ i + 1 = 0)]
  by_cases hi : i = 0
  · obtain ⟨e1, e2, e3⟩ := h0 hi
    subst hi e1 e2 e3
    rw [if_pos rfl]
    have hp : pos [] r = 0 := rfl
    have ha : isAt [] r = false := rfl
    have hins : insT [] r = [told0 r] := by unfold insT; rw [ha, hp]; rfl
    unfold putR
    rw [ha, hins, hp]
    show (if (!false && decide (4 ≤ cntOf [] r.c)) = true then _ else _) = _
    rw [if_neg (by simp [cntOf])]
    show ((!false, (putAt f (told0 r) k c).2, 0), [(putAt f (told0 r) k c).1]) = _
    rw [hwho (told0 r) k c]
    rfl
  · rw [if_neg hi]
    have hcs : cmpR r r = 0 := cmpR_self r
    have hp : pos [(⟨r, s, rd, since⟩ : Told)] r = 0 := by
      unfold pos
      rw [List.takeWhile_cons, if_neg (by rw [hcs]; simp)]; rfl
    have ha : isAt [(⟨r, s, rd, since⟩ : Told)] r = true := by rw [isAt_lt hp (by simp)]; simp
    have hins : insT [(⟨r, s, rd, since⟩ : Told)] r = [⟨r, s, rd, since⟩] := by unfold insT; rw [ha]; rfl
    unfold putR
    rw [ha, hins, hp]
    show (if (!true && _) = true then _ else _) = _
    rw [if_neg (by simp)]
    show ((!true, (putAt f ⟨r, s, rd, since⟩ k c).2, 0), [(putAt f ⟨r, s, rd, since⟩ k c).1]) = _
    rw [hwho ⟨r, s, rd, since⟩ k c, decide_eq_false hi]
    rfl
theorem one_since {i : Nat} {r : Req} {s : List Bool} {rd : Bool} {since : Int} : (sinceOf (one (i + 1) r s rd since) r) = (if rd then since else 0, rd) := by
  unfold one
  rw [if_neg (by omega)]
  have hcs : cmpR r r = 0 := cmpR_self r
  have hp : pos [(⟨r, s, rd, since⟩ : Told)] r = 0 := by
    unfold pos
    rw [List.takeWhile_cons, if_neg (by rw [hcs]; simp)]; rfl
  have ha : isAt [(⟨r, s, rd, since⟩ : Told)] r = true := by rw [isAt_lt hp (by simp)]; simp
  unfold sinceOf
  rw [hp]
  show (if isAt [(⟨r, s, rd, since⟩ : Told)] r && rd then (since, true) else (0, false)) = _
  rw [ha]
  cases rd <;> rfl
theorem one_len (i : Nat) (r : Req) (s : List Bool) (rd : Bool) (since : Int) : (one i r s rd since).length ≤ 1 := by unfold one; split <;> simp
/-- What putAt makes of the marks. -/
theorem putAt_new {f : Int} {r : Req} {s : List Bool} {n : Nat} {since k c : Int} (f1 : 1 ≤ f) (f2 : f ≤ 4) (hs : s.length = 13) (hn : s.countP id = n) (hp : putB s k = true) :
    (putAt f ⟨r, s, decide (f + 1 ≤ (n : Int)), since⟩ k c).2 = decide ((n : Int) + 1 = f + 1) ∧ (putAt f ⟨r, s, decide (f + 1 ≤ (n : Int)), since⟩ k c).1.ready = decide (f + 1 ≤ ((n + 1 : Nat) : Int)) := by
  have hw : weak f = f + 1 := by unfold weak; rw [if_pos ⟨f1, f2⟩]
  have hc := cnt_put hs k
  rw [hp, if_pos rfl, hn] at hc
  unfold putAt
  simp only [hw, hc]
  by_cases h1 : f + 1 ≤ (n : Int)
  · rw [decide_eq_true h1, decide_eq_false (by omega : ¬ (n : Int) + 1 = f + 1), decide_eq_true (by omega : f + 1 ≤ ((n + 1 : Nat) : Int))]; exact ⟨rfl, rfl⟩
  · rw [decide_eq_false h1]
    by_cases h2 : f + 1 ≤ ((n + 1 : Nat) : Int)
    · rw [decide_eq_true h2, decide_eq_true (by omega : (n : Int) + 1 = f + 1)]; exact ⟨rfl, rfl⟩
    · rw [decide_eq_false h2, decide_eq_false (by omega : ¬ (n : Int) + 1 = f + 1)]; exact ⟨rfl, rfl⟩
theorem putAt_old {f : Int} {r : Req} {s : List Bool} {n : Nat} {since k c : Int} (f1 : 1 ≤ f) (f2 : f ≤ 4) (hn : s.countP id = n) (hp : putB s k = false) :
    (putAt f ⟨r, s, decide (f + 1 ≤ (n : Int)), since⟩ k c).2 = false ∧ (putAt f ⟨r, s, decide (f + 1 ≤ (n : Int)), since⟩ k c).1.ready = decide (f + 1 ≤ (n : Int)) := by
  have hw : weak f = f + 1 := by unfold weak; rw [if_pos ⟨f1, f2⟩]
  have hc : put s k = s := by unfold put; rw [hp]; rfl
  unfold putAt
  simp only [hw, hc, hn]
  by_cases h1 : f + 1 ≤ (n : Int)
  · rw [decide_eq_true h1]; exact ⟨rfl, rfl⟩
  · rw [decide_eq_false h1]; exact ⟨rfl, rfl⟩
end Psp
namespace Go.Proofs.Ytmbdailffhdonaa.propReady
open Go.RowKit
set_option linter.unusedVariables false

def rdOf (f : Int) (s : List Bool) : Bool := decide (f + 1 ≤ ((s.countP id : Nat) : Int))
structure RInv (w0 wr : World) (r : Psp.Req) (f : Int) (g hb bx i : Nat) (s : List Bool) (since : Int) : Prop where
  tab : ∃ S, Tab wr S g f 2 (Psp.one i r s (rdOf f s) since) ∧ ∀ k, S k → w0.heap.size ≤ k ∧ k ≠ bx ∧ k ≠ hb
  box : wr.rangeAt bx 0 (rq r)
  has : Bools wr hb 32 s
  bel : Below w0.heap.size w0 wr
  len : s.length = 13
  z : i = 0 → s = List.replicate 13 false ∧ since = 0
  bxlo : w0.heap.size ≤ bx
  hblo : w0.heap.size ≤ hb
  ne : bx ≠ hb
  bxlt : bx < wr.heap.size

theorem RInv.after {w0 wr w2 w3 : World} {r : Psp.Req} {f : Int} {g hb bx i : Nat} {s : List Bool} {since : Int} (h : RInv w0 wr r f g hb bx i s since) {S : Nat → Prop} (hw2 : Below wr.heap.size wr w2) (hS : ∀ k, S k → w0.heap.size ≤ k ∧ k ≠ bx ∧ k ≠ hb) (hF : Fp S w2 w3) :
    w3.rangeAt bx 0 (rq r) ∧ Bools w3 hb 32 s ∧ Below w0.heap.size w0 w3 ∧ (∀ k, (S k ∨ (w2.heap.size ≤ k ∧ k < w3.heap.size)) → w0.heap.size ≤ k ∧ k ≠ bx ∧ k ≠ hb) ∧ bx < w3.heap.size := by
  have h1 := h.bxlt
  have h2 := h.has.lt
  have h3 := hw2.size
  have h4 := h.bel.size
  have h5 := hF.size
  refine ⟨range_keep (range_keep h.box (hw2.block _ h1)) (hF.block _ (by omega) fun hk => (hS _ hk).2.1 rfl), (h.has.keep (hw2.block _ h2)).keep (hF.block _ (by omega) fun hk => (hS _ hk).2.2 rfl), ?_, fun k hk => ?_, by omega⟩
  · exact (h.bel.trans (hw2.mono h4)).trans (hF.to_below (by omega) fun k _ hk => (hS k hk).1)
  · rcases hk with hk | hk
    · exact hS k hk
    · have := h.bxlo; have := h.hblo; exact ⟨by omega, by omega, by omega⟩
theorem Tab.set_other {w : World} {S : Nat → Prop} {g : Nat} {f cl : Int} {l : List Psp.Told} (h : Tab w S g f cl l) {b o : Nat} (hb : ¬ S b) (u : Value) : Tab (w.setCell ⟨b, o, none⟩ u) S g f cl l :=
  h.fp ((Fp.refl (fun k => k = b) w).setCell (p := ⟨b, o, none⟩) (Or.inl rfl) u) fun k hk e => hb (by rw [← e]; exact hk)
theorem putB_new {s : List Bool} {x : Int} (h0 : 0 ≤ x) (h1 : x ≤ 12) (h : s.getD x.toNat false = false) : Psp.putB s x = true ∧ Psp.put s x = s.set x.toNat true := by
  have : Psp.putB s x = true := by unfold Psp.putB; rw [decide_eq_true h0, decide_eq_true h1, h]; rfl
  exact ⟨this, by unfold Psp.put; rw [if_pos this]⟩
theorem putB_old {s : List Bool} {x : Int} (h : s.getD x.toNat false = true) : Psp.putB s x = false ∧ Psp.put s x = s := by
  have : Psp.putB s x = false := by unfold Psp.putB; rw [h]; simp
  exact ⟨this, by unfold Psp.put; rw [this]; rfl⟩

set_option maxRecDepth 100000 in
set_option maxHeartbeats 4000000 in
theorem walk (a0 : Int) (r0 : Psp.Req) (v : Value) (l : List Int) (w : World) (b0 : isI64 a0) (b1 : wfReq r0) (hr : Rd w w.heap.size 1 v l.length (l.flatMap fun n => [iv n])) (hl : ∀ n ∈ l, isI64 n) :
    Calls Try.prog 3 #[.int .i64 a0, .agg #[.int .i64 r0.c, .int .i64 r0.t, .int .i64 r0.k, .int .i64 r0.y, .int .i64 r0.v, .int .i64 r0.s], v] w fun e w' => e = .returned (.bool true) ∧ Below w.heap.size w w' := by
  rw [flat_one] at hr
  obtain ⟨c0, d0⟩ := b0
  obtain ⟨rc1, rc2⟩ := b1.1
  have x0 := Psp.within_lo a0 4
  have x1 := Psp.within_hi a0 4 (by omega)
  obtain ⟨x, hx⟩ : ∃ x, Psp.within a0 4 = x := ⟨_, rfl⟩
  rw [hx] at x0 x1
  have y0 := Psp.within_lo r0.c 2
  have y1 := Psp.within_hi r0.c 2 (by omega)
  obtain ⟨rc, hrc⟩ : ∃ x, Psp.within r0.c 2 = x := ⟨_, rfl⟩
  rw [hrc] at y0 y1
  obtain ⟨f, hf⟩ : ∃ f, 1 + x = f := ⟨_, rfl⟩
  have f1 : 1 ≤ f := by omega
  have f2 : f ≤ 4 := by omega
  obtain ⟨r, hrr⟩ : ∃ r : Psp.Req, (⟨rc, r0.t, r0.k, r0.y, r0.v, r0.s⟩ : Psp.Req) = r := ⟨_, rfl⟩
  have ec : r.c = rc := by rw [← hrr]
  have et : r.t = r0.t := by rw [← hrr]
  have ek : r.k = r0.k := by rw [← hrr]
  have ey : r.y = r0.y := by rw [← hrr]
  have ev : r.v = r0.v := by rw [← hrr]
  have es : r.s = r0.s := by rw [← hrr]
  have q0 : 0 ≤ r.c := by omega
  have q1 : r.c < 2 := by omega
  have hn' : Psp.nodes f = 3 * f + 1 := by unfold Psp.nodes; rw [if_pos ⟨f1, f2⟩]
  obtain ⟨n, hn⟩ : ∃ n, Psp.nodes f = n := ⟨_, rfl⟩
  have n1 : 4 ≤ n := by omega
  have n2 : n ≤ 13 := by omega
  have Hn := Lib.hid hn
  have Hr := Lib.hid hr
  obtain ⟨hrl, A, cp, rfl, hc1, hc2, hcell⟩ := hr
  obtain ⟨len, hlen⟩ : ∃ len, l.length = len := ⟨_, rfl⟩
  rw [hlen] at hcell hc1 ⊢
  unfold maxLen at hc2
  have Hlen := Lib.hid hlen
  have Hl := Lib.hid hl
  have Hcell := Lib.hid hcell
  obtain ⟨N, hN⟩ : ∃ N, min len 60 = N := ⟨_, rfl⟩
  have N1 : N ≤ len := by omega
  have N2 : N ≤ 60 := by omega
  have HN := Lib.hid hN
  have Hrr := Lib.hid hrr
  have Hec := Lib.hid ec
  have Het := Lib.hid et
  have Hek := Lib.hid ek
  have Hey := Lib.hid ey
  have Hev := Lib.hid ev
  have Hes := Lib.hid es
  clear hlen hl hrl hcell hN hn hn' ec et ek ey ev es hrr Hr b1
  go_enter Try.func3, Try.ntmps3
  go_wp2_with (first | (go_at_call 9; refine (within_any _ _ _ (by omega) (by omega) (by omega) (by omega)).mono ?_; rintro e w' ⟨rfl, rfl⟩) | (go_at_call 10; refine (new_any _ 2 _ (by omega) (by omega) (by omega) (by omega)).mono ?_; rintro e w1 ⟨g, rfl, hT, hg, hb1⟩; have HT1 := Lib.hid hT; have Hb1 := Lib.hid hb1; have hgl := hT.lt g rfl; clear hT hb1))
  go_loopw [10, 11] (fun cn i wr => ∃ (k : Nat) (s : List Bool) (since : Int), i = .int .i64 (k : Int) ∧ k ≤ N ∧ cn = .int .i64 (s.countP id : Nat) ∧ RInv w wr r f g w1.heap.size w.heap.size k s since) (fun _ i _ => 60 - (intOf i).toNat)
  case atStart =>
    have hs1 := Hb1.out.size
    have hg' := hg
    simp at hs1 hg'
    refine ⟨0, List.replicate 13 false, 0, rfl, Nat.zero_le _, rfl, ⟨_, HT1.out.below ((Below.refl _ _).alloc (Nat.le_refl _) _), fun k hk => by subst hk; exact ⟨by omega, by omega, by omega⟩⟩, ?_, heap_alloc_new w1 _, ?_, rfl, fun _ => ⟨rfl, rfl⟩, Nat.le_refl _, by omega, by omega, by simp; omega⟩
    · rw [← Hrr.out]
      exact range_keep (range_keep (range_new w _ _) (Hb1.out.block _ (by simp))) (heap_alloc_old _ _ (by omega))
    · exact ((((Below.refl _ _).alloc (Nat.le_refl _) _).trans (Hb1.out.mono (by simp))).alloc (by omega) _)
  case round =>
    obtain ⟨k, s, since, rfl, hk, rfl, hI⟩ := hrel
    have hlo := hI.bel.size
    have hc13 : s.countP id ≤ 13 := by have := Psp.cnt_le s; have := hI.len; omega
    have HI := Lib.hid hI
    clear hI
    obtain ⟨cn, hcn⟩ : ∃ cn, s.countP id = cn := ⟨_, rfl⟩
    rw [hcn] at hc13 ⊢
    have Hcn := Lib.hid hcn
    clear hcn
    by_cases hlt : k < N
    · have hlt1 : k < len := by omega
      have h60 : k < 60 := by omega
      obtain ⟨b, o, hAe, hb, hlies⟩ := Hcell.out (by omega)
      subst hAe
      have hx0 : k < l.length := by have := Hlen.out; omega
      have hcy := ((hlies.keep (HI.out.bel.block b hb)).at_ (j := k) (by simpa using hx0))
      obtain ⟨y, hy⟩ : ∃ x, l[k] = x := ⟨_, rfl⟩
      obtain ⟨hy1, hy2⟩ := Hl.out y (by rw [← hy]; exact List.getElem_mem hx0)
      simp only [List.getElem_map, hy, iv] at hcy
      clear hlies hy
      have z0 := Psp.within_lo y n
      have z1 := Psp.within_hi y n (by omega)
      obtain ⟨m, hm⟩ : ∃ m, Psp.within y n = m := ⟨_, rfl⟩
      rw [hm] at z0 z1
      have Hm := Lib.hid hm
      clear hm
      have HNd : Hid (∀ W : World, Calls Try.prog 11 #[.int .i64 f] W fun e w' => e = .returned (.int .i64 n) ∧ w' = W) := Lib.hid fun W => by rw [← Hn.out]; exact (r_nodes_any f W).mono fun _ _ h => ⟨h.1, h.2.symm⟩
      have HWi : Hid (∀ W : World, Calls Try.prog 9 #[.int .i64 y, .int .i64 n] W fun e w' => e = .returned (.int .i64 m) ∧ w' = W) := Lib.hid fun W => by rw [← Hm.out]; exact (within_any y n W (by omega) (by omega) (by omega) (by omega)).mono fun _ _ h => ⟨h.1, h.2.symm⟩
      obtain ⟨S, hT, hS⟩ := HI.out.tab
      have HT := Lib.hid hT
      have HS := Lib.hid hS
      clear hT hS
      go_wp2_with fail
      go_quiet (first | (go_at_call 11; exact Calls.quiet_of_same (HNd.out _)) | (go_at_call 9; exact Calls.quiet_of_same (HWi.out _)))
      have hB2 : Below wr.heap.size wr (wr.drewN nq) := below_drewN (Below.refl _ _) nq
      have HB2 := Lib.hid hB2
      have c0 := HI.out.box 0 _ rfl
      have c1 := HI.out.box 1 _ rfl
      have c2 := HI.out.box 2 _ rfl
      have c3 := HI.out.box 3 _ rfl
      have c4 := HI.out.box 4 _ rfl
      have c5 := HI.out.box 5 _ rfl
      simp only [Nat.zero_add, iv] at c0 c1 c2 c3 c4 c5
      clear hB2 hcy
      go_wp2_with fail
      refine (put_all r m (k : Int) S g f 2 _ _ (HT.out.below HB2.out) (by have := Psp.one_len k r s (rdOf f s) since; omega)).mono ?_
      rintro e w3 ⟨rfl, hT3, hF3⟩
      have hstep := Psp.one_step (f := f) (i := k) (r := r) (s := s) (rd := rdOf f s) (since := since) (k := m) (c := (k : Int)) q0 q1 z0 (by rw [Hn.out]; exact z1) (fun h => by
        obtain ⟨e1, e2⟩ := HI.out.z h
        subst e1 e2
        exact ⟨rfl, by unfold rdOf; rw [decide_eq_false]; simp; omega, rfl⟩)
      rw [hstep] at hT3 ⊢
      obtain ⟨a1, a2, a3, a4, a5⟩ := HI.out.after HB2.out HS.out hF3
      have A1 := Lib.hid a1
      have A2 := Lib.hid a2
      have A3 := Lib.hid a3
      have A4 := Lib.hid a4
      have HT3 := Lib.hid hT3
      have hrd : rdOf f s = decide (f + 1 ≤ (cn : Int)) := by unfold rdOf; rw [Hcn.out]
      obtain ⟨F, hF⟩ : ∃ F, decide (k = 0) = F := ⟨_, rfl⟩
      have dF : ((k : Int) == 0) = F := by rw [← hF]; by_cases h : k = 0 <;> simp [h]
      rw [hF]
      obtain ⟨j, hj⟩ : ∃ j, m.toNat = j := ⟨_, rfl⟩
      have hj13 : j < 13 := by omega
      have kh := a2.cell (j := j) (by rw [HI.out.len]; exact hj13)
      have fh := a2.frozen j
      have hmj : m = (j : Int) := by omega
      subst hmj
      have g0 := a1 0 _ rfl
      have g1 := a1 1 _ rfl
      have g2 := a1 2 _ rfl
      have g3 := a1 3 _ rfl
      have g4 := a1 4 _ rfl
      have g5 := a1 5 _ rfl
      simp only [Nat.zero_add, iv] at g0 g1 g2 g3 g4 g5
      have hneb : w.heap.size ≠ w1.heap.size := HI.out.ne
      clear hF hstep hT3 hF3 a1 a2 a3 a4 c0 c1 c2 c3 c4 c5 hj
      cases hold : s.getD j false with
      | true =>
        obtain ⟨p1, p2⟩ := putB_old (s := s) (x := (j : Int)) (by rw [Int.toNat_natCast]; exact hold)
        obtain ⟨p3, p4⟩ := Psp.putAt_old (r := r) (s := s) (since := since) (k := (j : Int)) (c := (k : Int)) f1 f2 Hcn.out p1
        rw [← hrd] at p3 p4
        rw [p3]
        rw [hold] at kh
        obtain ⟨R', hR'⟩ : ∃ R', decide (f + 1 ≤ (cn : Int)) = R' := ⟨_, rfl⟩
        have dR : decide (f < (cn : Int)) = R' := by rw [← hR']; congr 1
        obtain ⟨si, hsi⟩ : ∃ si, (Psp.putAt f ⟨r, s, rdOf f s, since⟩ (j : Int) (k : Int)).1.since = si := ⟨_, rfl⟩
        have hT4 : Tab w3 _ g f 2 (Psp.one (k + 1) r (Psp.put s (j : Int)) (Psp.putAt f ⟨r, s, rdOf f s, since⟩ (j : Int) (k : Int)).1.ready (Psp.putAt f ⟨r, s, rdOf f s, since⟩ (j : Int) (k : Int)).1.since) := HT3.out
        rw [p2, p4, hsi, hrd, hR'] at hT4
        have HT4 := Lib.hid hT4
        have Hsi := Lib.hid (Psp.one_since (i := k) (r := r) (s := s) (rd := R') (since := si))
        have Hrd := Lib.hid (hrd.trans hR')
        clear hrd p1 p2 p3 p4 hold hR' HT3 hT4 hsi
        go_wp2_with (first | (go_at_call 13; refine (since_any r _ g f 2 _ _ HT4.out).mono ?_; rintro e w5 ⟨rfl, hb5⟩; rw [Hsi.out]; have HB5 := Lib.hid hb5; have HT5 := Lib.hid (HT4.out.below hb5); clear hb5) | (go_at_call 14; refine (len_tab _ g f 2 _ _ HT5.out).mono ?_; rintro e w6 ⟨rfl, rfl⟩; rw [show (Psp.one (k + 1) r s R' si).length = 1 from rfl]))
        go_roundw
        case rel =>
          have hB := HB5.out
          refine ⟨k + 1, s, si, by go_num, by omega, by rw [Hcn.out], ⟨_, ?_, A4.out⟩, range_keep A1.out (hB.block _ a5), A2.out.keep (hB.block _ A2.out.lt), A3.out.trans (hB.mono A3.out.size), HI.out.len, fun h => by omega, HI.out.bxlo, HI.out.hblo, HI.out.ne, Nat.lt_of_lt_of_le a5 hB.size⟩
          rw [Hrd.out]; exact HT5.out
        case measure => simp [intOf]; omega
      | false =>
        obtain ⟨p1, p2⟩ := putB_new (s := s) (x := (j : Int)) (by omega) (by omega) (by rw [Int.toNat_natCast]; exact hold)
        obtain ⟨p3, p4⟩ := Psp.putAt_new (r := r) (s := s) (since := since) (k := (j : Int)) (c := (k : Int)) f1 f2 HI.out.len Hcn.out p1
        have hcp := Psp.cnt_put HI.out.len (j : Int)
        rw [p1, if_pos rfl, p2, Int.toNat_natCast, Hcn.out] at hcp
        rw [← hrd] at p3 p4
        rw [p3]
        rw [hold] at kh
        obtain ⟨B, hB⟩ : ∃ B, decide ((cn : Int) + 1 = f + 1) = B := ⟨_, rfl⟩
        have dB : ((cn : Int) + 1 == f + 1) = B := by rw [← hB]; rfl
        rw [hB]
        obtain ⟨R', hR'⟩ : ∃ R', decide (f + 1 ≤ ((cn + 1 : Nat) : Int)) = R' := ⟨_, rfl⟩
        have dR : decide (f < (cn : Int) + 1) = R' := by rw [← hR']; congr 1
        obtain ⟨si, hsi⟩ : ∃ si, (Psp.putAt f ⟨r, s, rdOf f s, since⟩ (j : Int) (k : Int)).1.since = si := ⟨_, rfl⟩
        have hT4 : Tab w3 _ g f 2 (Psp.one (k + 1) r (Psp.put s (j : Int)) (Psp.putAt f ⟨r, s, rdOf f s, since⟩ (j : Int) (k : Int)).1.ready (Psp.putAt f ⟨r, s, rdOf f s, since⟩ (j : Int) (k : Int)).1.since) := HT3.out
        rw [p2, p4, hsi, hR', Int.toNat_natCast] at hT4
        have HT4 := Lib.hid (Tab.set_other hT4 (b := w1.heap.size) (o := j) (fun h => (A4.out _ h).2.2 rfl) (.bool true))
        have Hsi := Lib.hid (Psp.one_since (i := k) (r := r) (s := s.set j true) (rd := R') (since := si))
        have Hrd : Hid (rdOf f (s.set j true) = R') := Lib.hid (by unfold rdOf; rw [hcp, hR'])
        have Hcp := Lib.hid hcp
        clear hrd p1 p2 p3 p4 hold hR' HT3 hT4 hsi hB hcp
        go_wp2_with (first | (go_at_call 13; refine (since_any r _ g f 2 _ _ HT4.out).mono ?_; rintro e w5 ⟨rfl, hb5⟩; rw [Hsi.out]; have HB5 := Lib.hid hb5; have HT5 := Lib.hid (HT4.out.below hb5); clear hb5) | (go_at_call 14; refine (len_tab _ g f 2 _ _ HT5.out).mono ?_; rintro e w6 ⟨rfl, rfl⟩; rw [show (Psp.one (k + 1) r (s.set j true) R' si).length = 1 from rfl]))
        go_roundw
        case rel =>
          have hB := HB5.out
          have hz : (w3.setCell ⟨w1.heap.size, j, none⟩ (.bool true)).heap.size = w3.heap.size := by simp [World.setCell]
          have hbh := A2.out.set j true
          refine ⟨k + 1, s.set j true, si, by go_num, by omega, by rw [Hcp.out]; go_num, ⟨_, ?_, A4.out⟩, range_keep (range_keep A1.out (heap_setCell_other w3 _ _ _ hneb)) (hB.block _ (by rw [hz]; exact a5)), hbh.keep (hB.block _ hbh.lt), (A3.out.setCell HI.out.hblo _).trans (hB.mono (by rw [hz]; exact A3.out.size)), by rw [List.length_set]; exact HI.out.len, fun h => by omega, HI.out.bxlo, HI.out.hblo, HI.out.ne, Nat.lt_of_lt_of_le a5 (by have := hB.size; rw [hz] at this; exact this)⟩
          rw [Hrd.out]; exact HT5.out
        case measure => simp [intOf]; omega
    · obtain rfl : k = N := by omega
      have hfin : ∀ w' : World, Below wr.heap.size wr w' → Below w.heap.size w w' := fun w' h => HI.out.bel.trans (h.mono hlo)
      have HFi := Lib.hid hfin
      clear hfin
      by_cases hlt1 : k < len
      · have h60 : ¬ k < 60 := by have := HN.out; omega
        go_wp2_with (go_at_call 15; refine (wakes13 _).mono ?_; rintro e w' ⟨rfl, hb9⟩)
        go_ret
        exact ⟨rfl, HFi.out _ hb9⟩
      · go_wp2_with (go_at_call 15; refine (wakes13 _).mono ?_; rintro e w' ⟨rfl, hb9⟩)
        go_ret
        exact ⟨rfl, HFi.out _ hb9⟩
end Go.Proofs.Ytmbdailffhdonaa.propReady
