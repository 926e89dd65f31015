/- The table of package prop: how it lies in memory; plain words for what its methods do; the walk of at. -/
import Derived.Test.YtmbdailffhdonaaReq
import Derived.Test.YtmbdailffhdonaaFp
import Derived.Laws.StructEq
namespace Psp
structure Told where
  r : Req
  who : List Bool
  ready : Bool
  since : Int

/-- Where a request stands, or would stand. -/
def pos (l : List Told) (r : Req) : Nat := (l.takeWhile fun t => decide (cmpR t.r r < 0)).length
def isAt (l : List Told) (r : Req) : Bool := match l[pos l r]? with | some t => decide (t.r = r) | none => false

theorem pos_le (l : List Told) (r : Req) : pos l r ≤ l.length := by
  unfold pos
  induction l with
  | nil => simp
  | cons t l ih => rw [List.takeWhile_cons]; split <;> simp <;> omega
theorem pos_lt {r : Req} : ∀ {l : List Told} {k : Nat} (_ : k < pos l r) (hk : k < l.length), cmpR l[k].r r < 0
  | t :: l, k, h, hk => by
    unfold pos at h
    rw [List.takeWhile_cons] at h
    by_cases hc : cmpR t.r r < 0
    · rw [if_pos (by simpa using hc)] at h
      cases k with
      | zero => exact hc
      | succ k => exact pos_lt (l := l) (by unfold pos; simp at h; exact h) (by simpa using hk)
    · rw [if_neg (by simpa using hc)] at h; simp at h
theorem pos_at {r : Req} : ∀ {l : List Told} (hk : pos l r < l.length), ¬ cmpR l[pos l r].r r < 0
  | t :: l, hk => by
    by_cases hc : cmpR t.r r < 0
    · have e : pos (t :: l) r = pos l r + 1 := by unfold pos; rw [List.takeWhile_cons, if_pos (by simpa using hc)]; rfl
      have h2 : pos l r < l.length := by rw [e] at hk; simpa using hk
      have := pos_at (l := l) h2
      simpa [e] using this
    · have e : pos (t :: l) r = 0 := by unfold pos; rw [List.takeWhile_cons, if_neg (by simpa using hc)]; rfl
      simpa [e] using hc
theorem isAt_lt {l : List Told} {r : Req} {q : Nat} (hq : pos l r = q) (h : q < l.length) : isAt l r = decide (l[q].r = r) := by
  unfold isAt; rw [hq, List.getElem?_eq_getElem h]
theorem isAt_ge {l : List Told} {r : Req} (h : l.length ≤ pos l r) : isAt l r = false := by
  unfold isAt; rw [List.getElem?_eq_none h]
end Psp
namespace Go.Proofs.Ytmbdailffhdonaa
open Go.RowKit
set_option linter.unusedVariables false

/-! ### Laws for the walk -/
/-! ### Requests as values -/
/-! ### The rows -/
def bools13 (s : List Bool) : List Value := (List.range 13).map fun j => Value.bool (s.getD j false)
def tc (t : Psp.Told) : List Value := rq t.r ++ (bools13 t.who ++ [.bool t.ready, iv t.since])
theorem bools13_len (s : List Bool) : (bools13 s).length = 13 := by simp [bools13]
theorem tc_len (t : Psp.Told) : (tc t).length = 21 := by simp [tc, rq_len, bools13_len]
theorem bools13_is {s : List Bool} (h : s.length = 13) : bools13 s = s.map Value.bool := by
  refine List.ext_getElem (by simp [bools13_len, h]) fun j h1 h2 => ?_
  have hj : j < s.length := by simpa using h2
  simp [bools13, List.getD_eq_getElem?_getD, List.getElem?_eq_getElem hj]

/-- A table: block g has its two numbers and the slice of its requests. All that it has lies in blocks of S. -/
structure Tab (w : World) (S : Nat → Prop) (g : Nat) (f cl : Int) (l : List Psp.Told) : Prop where
  ex : ∃ v, w.heap[g]? = some (.cells #[.int .i64 f, .int .i64 cl, v] 64 (0, 0)) ∧ w.ownsRow 0 68 21 v l.length (l.flatMap tc) ∧ ∀ k, v.ownBlock = some k → S k
  own : S g
  lt : ∀ k, S k → k < w.heap.size
  who : ∀ t ∈ l, t.who.length = 13
  len : l.length ≤ 1000000

section
variable {w w' : World} {S S' : Nat → Prop} {g : Nat} {f cl : Int} {l : List Psp.Told}
theorem Tab.fp (h : Tab w S g f cl l) (hf : Fp S' w w') (hd : ∀ k, S k → ¬ S' k) : Tab w' S g f cl l := by
  obtain ⟨v, h1, h2, h3⟩ := h.ex
  refine ⟨⟨v, (hf.block g (h.lt g h.own) (hd g h.own)).trans h1, ⟨h2.1, ?_⟩, h3⟩, h.own, fun k hk => Nat.lt_of_lt_of_le (h.lt k hk) hf.size, h.who, h.len⟩
  rcases h2.2 with hn | ⟨b, cap, cur, rfl, hb, hh, r⟩
  · exact .inl hn
  · have hS := h3 b (by simp [Value.ownBlock])
    exact .inr ⟨b, cap, cur, rfl, hb, (hf.block b (h.lt b hS) (hd b hS)).trans hh, r⟩
theorem Tab.below (h : Tab w S g f cl l) (hb : Below w.heap.size w w') : Tab w' S g f cl l := h.fp (Fp.of_below hb fun _ => False) fun _ _ h => h
/-- What the walk wants of a table. -/
theorem Tab.cells (h : Tab w S g f cl l) : ∃ A c, l.length ≤ c ∧ c ≤ 9223372036854775807 ∧ w.cell? ⟨g, 0, none⟩ = some (.int .i64 f) ∧ w.cell? ⟨g, 1, none⟩ = some (.int .i64 cl) ∧ w.cell? ⟨g, 2, none⟩ = some (.slice A l.length c) ∧
    (0 < l.length → ∃ b, A = some ⟨b, 0, none⟩ ∧ b < w.heap.size ∧ Lies w b 0 (l.flatMap tc)) := by
  obtain ⟨v, h1, h2, h3⟩ := h.ex
  obtain ⟨A, c, rfl, hc1, hc2, hl⟩ := own_slice h2
  refine ⟨A, c, hc1, hc2, ?_, ?_, ?_, fun hn => ?_⟩
  · rw [cell_of_row w g 0 _ _ _ h1]; rfl
  · rw [cell_of_row w g 1 _ _ _ h1]; rfl
  · rw [cell_of_row w g 2 _ _ _ h1]; rfl
  · obtain ⟨b, e, _, hb, hli⟩ := hl hn
    exact ⟨b, e, hb, hli⟩
end
theorem told_range {w : World} {b : Nat} {l : List Psp.Told} (h : Lies w b 0 (l.flatMap tc)) {k : Nat} (hk : k < l.length) : w.rangeAt b (k * 21) (tc l[k]) := by
  intro j v hv
  have hj : j < 21 := by have := (List.getElem?_eq_some_iff.1 hv).1; rwa [tc_len] at this
  have h1 := flat_get (f := tc) (k := 21) tc_len l k j hj
  rw [List.getElem?_eq_getElem hk] at h1
  have h2 := h (k * 21 + j) v (by rw [h1]; exact hv)
  rwa [Nat.zero_add] at h2
theorem told_req {w : World} {b o : Nat} {t : Psp.Told} (h : w.rangeAt b o (tc t)) : w.rangeAt b o (rq t.r) := range_left h
theorem told_who {w : World} {b o : Nat} {t : Psp.Told} (h : w.rangeAt b o (tc t)) (hw : t.who.length = 13) : w.rangeAt b (o + 6) (t.who.map Value.bool) := by
  have := range_left (range_right h)
  rwa [bools13_is hw, rq_len] at this
theorem told_ready {w : World} {b o : Nat} {t : Psp.Told} (h : w.rangeAt b o (tc t)) : w.cell? ⟨b, o + 19, none⟩ = some (.bool t.ready) :=
  h 19 _ (by unfold tc; rw [List.getElem?_append_right (by rw [rq_len]; omega), List.getElem?_append_right (by rw [rq_len, bools13_len]; omega), rq_len, bools13_len]; rfl)
theorem told_since {w : World} {b o : Nat} {t : Psp.Told} (h : w.rangeAt b o (tc t)) : w.cell? ⟨b, o + 20, none⟩ = some (.int .i64 t.since) :=
  h 20 _ (by unfold tc; rw [List.getElem?_append_right (by rw [rq_len]; omega), List.getElem?_append_right (by rw [rq_len, bools13_len]; omega), rq_len, bools13_len]; rfl)
set_option maxRecDepth 100000 in
theorem at_any (r : Psp.Req) (S : Nat → Prop) (g : Nat) (f cl : Int) (l : List Psp.Told) (w : World) (hT : Tab w S g f cl l) :
    Calls Try.prog 26 #[.pointer (some ⟨g, 0, none⟩), .agg (rq r).toArray] w fun e w' => e = .returned (.tuple #[.int .i64 (Psp.pos l r : Nat), .bool (Psp.isAt l r)]) ∧ Below w.heap.size w w' := by
  have hglt := hT.lt g hT.own
  obtain ⟨A, c, hc1, hc2, hc0, hcl, hcv, hrow⟩ := hT.cells
  have hpl := Psp.pos_le l r
  have hlen := hT.len
  obtain ⟨n, hn⟩ : ∃ n, l.length = n := ⟨_, rfl⟩
  obtain ⟨q, hq⟩ : ∃ q, Psp.pos l r = q := ⟨_, rfl⟩
  rw [hn] at hc1 hcv hrow hpl hlen
  rw [hq] at hpl ⊢
  have Hn := Lib.hid hn
  have Hq := Lib.hid hq
  have Hrow := Lib.hid hrow
  clear hrow hn hq
  go_enter Try.func26, Try.ntmps26
  go_wp2_with fail
  go_loopw [6] (fun i wr => ∃ k : Nat, i = .int .i64 (k : Int) ∧ k ≤ q ∧ Below w.heap.size w wr ∧ wr.rangeAt w.heap.size 0 (rq r) ∧ w.heap.size < wr.heap.size) (fun i _ => q - (intOf i).toNat)
  case atStart => exact ⟨0, rfl, Nat.zero_le _, (Below.refl _ _).alloc (Nat.le_refl _) _, range_new w (rq r).toArray _, by simp⟩
  case round =>
    obtain ⟨k, rfl, hk, hbel, hr0, hsz⟩ := hrel
    have cv := (hbel.cell (p := ⟨g, 2, none⟩) hglt).trans hcv
    have CV := later_cell cv
    have RR := Lib.hid (range_later hr0 hsz)
    have Hbel := Lib.hid hbel
    have Hr0 := Lib.hid hr0
    clear hbel hr0
    by_cases hkn : k < n
    · obtain ⟨b, hAe, hb, hlies⟩ := Hrow.out (by omega)
      subst hAe
      have hkl : k < l.length := by have := Hn.out; omega
      obtain ⟨t, ht⟩ : ∃ t, l[k] = t := ⟨_, rfl⟩
      have hrg := told_req (told_range hlies hkl)
      rw [ht] at hrg
      have RT := Lib.hid (range_later (range_keep hrg (Hbel.out.block b hb)) (by omega))
      obtain ⟨z, hz⟩ : ∃ z, Psp.cmpR t.r r = z := ⟨_, rfl⟩
      have HC : Hid (∀ p : Later wr, Calls Try.prog 36 #[.agg (rq t.r).toArray, .agg (rq r).toArray] p.W fun e w' => e = .returned (.int .i64 z) ∧ Below p.W.heap.size p.W w') := Lib.hid fun p => by rw [← hz]; exact compare_any t.r r p.W
      have hnk : (k : Int) < (n : Int) := by omega
      have Ht := Lib.hid ht
      have Hz := Lib.hid hz
      clear hlies ht hrg hz
      by_cases hkq : k < q
      · have hneg : z < 0 := by
          have h1 := Psp.pos_lt (l := l) (r := r) (k := k) (by rw [Hq.out]; exact hkq) hkl
          rw [Ht.out, Hz.out] at h1; exact h1
        have d : decide (z < 0) = true := decide_eq_true hneg
        go_wp2_with fail
        refine wp_region_later (by kernel_rfl) (by kernel_rfl) ?_
        repeat (first | (refine quiet_load rfl 25 (.tmp 21) rfl b (k * 21) rfl (rq t.r) _ RT.out Try.underlying25 rfl req_size ?_; intro K hK; go_simp; refine hK _ ?_; clear hK K) | (refine quiet_load rfl 25 (.tmp 3) rfl w.heap.size 0 rfl (rq r) _ RR.out Try.underlying25 rfl req_size ?_; intro K hK; go_simp; refine hK _ ?_; clear hK K) | go_big_quiet_step ((go_at_call 36; exact later_call _ (HC.out _))))
        refine wpQuiet_nil ?_
        intro w3 hw'
        have hb3 := later_out hw'
        clear hw'
        go_wp2_with fail
        go_roundw
        case rel => exact ⟨k + 1, by go_num, by omega, Hbel.out.trans (hb3.mono Hbel.out.size), range_keep Hr0.out (hb3.block _ hsz), Nat.lt_of_lt_of_le hsz hb3.size⟩
        case measure => simp [intOf]; omega
      · obtain rfl : k = q := by omega
        have hnn : ¬ z < 0 := by
          have h1 := Psp.pos_at (l := l) (r := r) (by rw [Hq.out]; exact hkl)
          have h2 : l[Psp.pos l r]'(by rw [Hq.out]; exact hkl) = t := by rw [← Ht.out]; congr 1
          rw [h2, Hz.out] at h1; exact h1
        have d : decide (z < 0) = false := decide_eq_false hnn
        have Hat : Hid (Psp.isAt l r = decide (t.r = r)) := Lib.hid (by rw [Psp.isAt_lt Hq.out hkl, Ht.out])
        obtain ⟨R, hR⟩ : ∃ R, decide (t.r = r) = R := ⟨_, rfl⟩
        have HR := Lib.hid hR
        clear hR
        go_wp2_with fail
        refine wp_region_later (by kernel_rfl) (by kernel_rfl) ?_
        repeat (first | (refine quiet_load rfl 25 (.tmp 21) rfl b (k * 21) rfl (rq t.r) _ RT.out Try.underlying25 rfl req_size ?_; intro K hK; go_simp; refine hK _ ?_; clear hK K) | (refine quiet_load rfl 25 (.tmp 3) rfl w.heap.size 0 rfl (rq r) _ RR.out Try.underlying25 rfl req_size ?_; intro K hK; go_simp; refine hK _ ?_; clear hK K) | go_big_quiet_step ((go_at_call 36; exact later_call _ (HC.out _))))
        refine wpQuiet_nil ?_
        intro w3 hw'
        have hb3 := later_out hw'
        clear hw'
        have RT3 := Lib.hid (range_later (w := w3) (fun j v hv => RT.out w3 ⟨⟨w3, hb3⟩, rfl⟩ j v hv) (by have := hb3.size; have := Hbel.out.size; omega))
        have RR3 := Lib.hid (range_later (w := w3) (fun j v hv => RR.out w3 ⟨⟨w3, hb3⟩, rfl⟩ j v hv) (by have := hb3.size; omega))
        have cv3 := (hb3.cell (p := ⟨g, 2, none⟩) (by have := Hbel.out.size; simp; omega)).trans cv
        have CV3 := later_cell cv3
        clear CV cv
        go_wp2_with fail
        refine wp_region_later (by kernel_rfl) (by kernel_rfl) ?_
        repeat (first | (refine quiet_load rfl 25 (.tmp 44) rfl b (k * 21) rfl (rq t.r) _ RT3.out Try.underlying25 rfl req_size ?_; intro K hK; go_simp; refine hK _ ?_; clear hK K) | (refine quiet_load rfl 25 (.tmp 3) rfl w.heap.size 0 rfl (rq r) _ RR3.out Try.underlying25 rfl req_size ?_; intro K hK; go_simp; refine hK _ ?_; clear hK K) | (refine quiet_val rfl (.bool R) (fun w hC => by rw [← HR.out]; exact exec_eql_req (.tmp 45) (.tmp 46) _ rfl t.r r rfl rfl) ?_; intro K hK; go_simp; refine hK _ ?_; clear hK K) | go_big_quiet_step (fail))
        refine wpQuiet_nil ?_
        intro w4 hw'
        have hb4 := later_out hw'
        clear hw'
        go_wp2_with fail
        go_ret2
        rw [Hat.out, HR.out]
        exact ⟨rfl, (Hbel.out.trans (hb3.mono Hbel.out.size)).trans (hb4.mono (by have := hb3.size; have := Hbel.out.size; omega))⟩
    · obtain rfl : k = n := by omega
      have hat := Psp.isAt_ge (l := l) (r := r) (by rw [Hn.out, Hq.out]; exact hk)
      obtain rfl : q = k := by omega
      have Hat := Lib.hid hat
      clear hat
      go_wp2_with fail
      refine wp_region_later (by kernel_rfl) (by kernel_rfl) ?_
      repeat go_big_quiet_step (fail)
      refine wpQuiet_nil ?_
      intro w3 hw'
      have hb3 := later_out hw'
      clear hw'
      have cv3 := (hb3.cell (p := ⟨g, 2, none⟩) (by have := Hbel.out.size; simp; omega)).trans cv
      have CV3 := later_cell cv3
      clear CV cv
      go_wp2_with fail
      refine wp_region_later (by kernel_rfl) (by kernel_rfl) ?_
      repeat go_big_quiet_step (fail)
      refine wpQuiet_nil ?_
      intro w4 hw'
      have hb4 := later_out hw'
      clear hw'
      go_wp2_with fail
      go_ret2
      rw [Hat.out]
      exact ⟨rfl, (Hbel.out.trans (hb3.mono Hbel.out.size)).trans (hb4.mono (by have := hb3.size; have := Hbel.out.size; omega))⟩
end Go.Proofs.Ytmbdailffhdonaa
