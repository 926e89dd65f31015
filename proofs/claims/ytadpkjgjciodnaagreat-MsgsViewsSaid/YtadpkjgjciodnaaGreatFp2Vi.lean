/- Package msgs: bare, and looks at batches, votes, certificates. Printed by gen_fp2.py. -/
import Derived.Test.YtadpkjgjciodnaaGreatFp1Vi
import Derived.Test.YtadpkjgjciodnaaGreatGgVi
import Derived.Deep.CutBlock
namespace Go.Proofs.YtadpkjgjciodnaaGreat
open Go.RowKit
set_option linter.unusedVariables false

set_option maxRecDepth 100000 in
set_option maxHeartbeats 8000000 in
theorem bare_n (k f v i q r : Int) (Ab Ao Ac Ap : Option Addr) (nb no nc np cb co cc cp : Nat) (b o c p : Bool) (w : World) :
    Calls Tryz.prog 91 #[.agg #[.int .i64 k, .int .i64 f, .int .i64 v, .int .i64 i, .int .i64 q, .int .i64 r, .slice Ab nb cb, .slice Ao no co, .slice Ac nc cc, .slice Ap np cp], .bool b, .bool o, .bool c, .bool p] w fun e w' => e = .returned (.bool ((b || decide (nb = 0)) && ((o || decide (no = 0)) && ((c || decide (nc = 0)) && (p || decide (np = 0)))))) ∧ Below w.heap.size w w' := by
  cases b with
  | true =>
    cases o with
    | true =>
      cases c with
      | true =>
        cases p with
        | true =>
          go_enter Tryz.func91, Tryz.ntmps91
          go_wp2_with fail
          go_ret
          refine ⟨?_, by first | exact alloc_below w _ | exact below_drewN (alloc_below w _) _⟩
          simp [*]
        | false =>
          by_cases h3 : np = 0
          · have d3 : (((np : Nat) : Int) == 0) = true := by rw [h3]; rfl
            go_enter Tryz.func91, Tryz.ntmps91
            go_wp2_with fail
            go_ret
            refine ⟨?_, by first | exact alloc_below w _ | exact below_drewN (alloc_below w _) _⟩
            simp [*]
          · have d3 : (((np : Nat) : Int) == 0) = false := by rw [beq_eq_false_iff_ne]; omega
            go_enter Tryz.func91, Tryz.ntmps91
            go_wp2_with fail
            go_ret
            refine ⟨?_, by first | exact alloc_below w _ | exact below_drewN (alloc_below w _) _⟩
            simp [*]
      | false =>
        by_cases h2 : nc = 0
        · have d2 : (((nc : Nat) : Int) == 0) = true := by rw [h2]; rfl
          cases p with
          | true =>
            go_enter Tryz.func91, Tryz.ntmps91
            go_wp2_with fail
            go_ret
            refine ⟨?_, by first | exact alloc_below w _ | exact below_drewN (alloc_below w _) _⟩
            simp [*]
          | false =>
            by_cases h3 : np = 0
            · have d3 : (((np : Nat) : Int) == 0) = true := by rw [h3]; rfl
              go_enter Tryz.func91, Tryz.ntmps91
              go_wp2_with fail
              go_ret
              refine ⟨?_, by first | exact alloc_below w _ | exact below_drewN (alloc_below w _) _⟩
              simp [*]
            · have d3 : (((np : Nat) : Int) == 0) = false := by rw [beq_eq_false_iff_ne]; omega
              go_enter Tryz.func91, Tryz.ntmps91
              go_wp2_with fail
              go_ret
              refine ⟨?_, by first | exact alloc_below w _ | exact below_drewN (alloc_below w _) _⟩
              simp [*]
        · have d2 : (((nc : Nat) : Int) == 0) = false := by rw [beq_eq_false_iff_ne]; omega
          go_enter Tryz.func91, Tryz.ntmps91
          go_wp2_with fail
          go_ret
          refine ⟨?_, by first | exact alloc_below w _ | exact below_drewN (alloc_below w _) _⟩
          simp [*]
    | false =>
      by_cases h1 : no = 0
      · have d1 : (((no : Nat) : Int) == 0) = true := by rw [h1]; rfl
        cases c with
        | true =>
          cases p with
          | true =>
            go_enter Tryz.func91, Tryz.ntmps91
            go_wp2_with fail
            go_ret
            refine ⟨?_, by first | exact alloc_below w _ | exact below_drewN (alloc_below w _) _⟩
            simp [*]
          | false =>
            by_cases h3 : np = 0
            · have d3 : (((np : Nat) : Int) == 0) = true := by rw [h3]; rfl
              go_enter Tryz.func91, Tryz.ntmps91
              go_wp2_with fail
              go_ret
              refine ⟨?_, by first | exact alloc_below w _ | exact below_drewN (alloc_below w _) _⟩
              simp [*]
            · have d3 : (((np : Nat) : Int) == 0) = false := by rw [beq_eq_false_iff_ne]; omega
              go_enter Tryz.func91, Tryz.ntmps91
              go_wp2_with fail
              go_ret
              refine ⟨?_, by first | exact alloc_below w _ | exact below_drewN (alloc_below w _) _⟩
              simp [*]
        | false =>
          by_cases h2 : nc = 0
          · have d2 : (((nc : Nat) : Int) == 0) = true := by rw [h2]; rfl
            cases p with
            | true =>
              go_enter Tryz.func91, Tryz.ntmps91
              go_wp2_with fail
              go_ret
              refine ⟨?_, by first | exact alloc_below w _ | exact below_drewN (alloc_below w _) _⟩
              simp [*]
            | false =>
              by_cases h3 : np = 0
              · have d3 : (((np : Nat) : Int) == 0) = true := by rw [h3]; rfl
                go_enter Tryz.func91, Tryz.ntmps91
                go_wp2_with fail
                go_ret
                refine ⟨?_, by first | exact alloc_below w _ | exact below_drewN (alloc_below w _) _⟩
                simp [*]
              · have d3 : (((np : Nat) : Int) == 0) = false := by rw [beq_eq_false_iff_ne]; omega
                go_enter Tryz.func91, Tryz.ntmps91
                go_wp2_with fail
                go_ret
                refine ⟨?_, by first | exact alloc_below w _ | exact below_drewN (alloc_below w _) _⟩
                simp [*]
          · have d2 : (((nc : Nat) : Int) == 0) = false := by rw [beq_eq_false_iff_ne]; omega
            go_enter Tryz.func91, Tryz.ntmps91
            go_wp2_with fail
            go_ret
            refine ⟨?_, by first | exact alloc_below w _ | exact below_drewN (alloc_below w _) _⟩
            simp [*]
      · have d1 : (((no : Nat) : Int) == 0) = false := by rw [beq_eq_false_iff_ne]; omega
        go_enter Tryz.func91, Tryz.ntmps91
        go_wp2_with fail
        go_ret
        refine ⟨?_, by first | exact alloc_below w _ | exact below_drewN (alloc_below w _) _⟩
        simp [*]
  | false =>
    by_cases h0 : nb = 0
    · have d0 : (((nb : Nat) : Int) == 0) = true := by rw [h0]; rfl
      cases o with
      | true =>
        cases c with
        | true =>
          cases p with
          | true =>
            go_enter Tryz.func91, Tryz.ntmps91
            go_wp2_with fail
            go_ret
            refine ⟨?_, by first | exact alloc_below w _ | exact below_drewN (alloc_below w _) _⟩
            simp [*]
          | false =>
            by_cases h3 : np = 0
            · have d3 : (((np : Nat) : Int) == 0) = true := by rw [h3]; rfl
              go_enter Tryz.func91, Tryz.ntmps91
              go_wp2_with fail
              go_ret
              refine ⟨?_, by first | exact alloc_below w _ | exact below_drewN (alloc_below w _) _⟩
              simp [*]
            · have d3 : (((np : Nat) : Int) == 0) = false := by rw [beq_eq_false_iff_ne]; omega
              go_enter Tryz.func91, Tryz.ntmps91
              go_wp2_with fail
              go_ret
              refine ⟨?_, by first | exact alloc_below w _ | exact below_drewN (alloc_below w _) _⟩
              simp [*]
        | false =>
          by_cases h2 : nc = 0
          · have d2 : (((nc : Nat) : Int) == 0) = true := by rw [h2]; rfl
            cases p with
            | true =>
              go_enter Tryz.func91, Tryz.ntmps91
              go_wp2_with fail
              go_ret
              refine ⟨?_, by first | exact alloc_below w _ | exact below_drewN (alloc_below w _) _⟩
              simp [*]
            | false =>
              by_cases h3 : np = 0
              · have d3 : (((np : Nat) : Int) == 0) = true := by rw [h3]; rfl
                go_enter Tryz.func91, Tryz.ntmps91
                go_wp2_with fail
                go_ret
                refine ⟨?_, by first | exact alloc_below w _ | exact below_drewN (alloc_below w _) _⟩
                simp [*]
              · have d3 : (((np : Nat) : Int) == 0) = false := by rw [beq_eq_false_iff_ne]; omega
                go_enter Tryz.func91, Tryz.ntmps91
                go_wp2_with fail
                go_ret
                refine ⟨?_, by first | exact alloc_below w _ | exact below_drewN (alloc_below w _) _⟩
                simp [*]
          · have d2 : (((nc : Nat) : Int) == 0) = false := by rw [beq_eq_false_iff_ne]; omega
            go_enter Tryz.func91, Tryz.ntmps91
            go_wp2_with fail
            go_ret
            refine ⟨?_, by first | exact alloc_below w _ | exact below_drewN (alloc_below w _) _⟩
            simp [*]
      | false =>
        by_cases h1 : no = 0
        · have d1 : (((no : Nat) : Int) == 0) = true := by rw [h1]; rfl
          cases c with
          | true =>
            cases p with
            | true =>
              go_enter Tryz.func91, Tryz.ntmps91
              go_wp2_with fail
              go_ret
              refine ⟨?_, by first | exact alloc_below w _ | exact below_drewN (alloc_below w _) _⟩
              simp [*]
            | false =>
              by_cases h3 : np = 0
              · have d3 : (((np : Nat) : Int) == 0) = true := by rw [h3]; rfl
                go_enter Tryz.func91, Tryz.ntmps91
                go_wp2_with fail
                go_ret
                refine ⟨?_, by first | exact alloc_below w _ | exact below_drewN (alloc_below w _) _⟩
                simp [*]
              · have d3 : (((np : Nat) : Int) == 0) = false := by rw [beq_eq_false_iff_ne]; omega
                go_enter Tryz.func91, Tryz.ntmps91
                go_wp2_with fail
                go_ret
                refine ⟨?_, by first | exact alloc_below w _ | exact below_drewN (alloc_below w _) _⟩
                simp [*]
          | false =>
            by_cases h2 : nc = 0
            · have d2 : (((nc : Nat) : Int) == 0) = true := by rw [h2]; rfl
              cases p with
              | true =>
                go_enter Tryz.func91, Tryz.ntmps91
                go_wp2_with fail
                go_ret
                refine ⟨?_, by first | exact alloc_below w _ | exact below_drewN (alloc_below w _) _⟩
                simp [*]
              | false =>
                by_cases h3 : np = 0
                · have d3 : (((np : Nat) : Int) == 0) = true := by rw [h3]; rfl
                  go_enter Tryz.func91, Tryz.ntmps91
                  go_wp2_with fail
                  go_ret
                  refine ⟨?_, by first | exact alloc_below w _ | exact below_drewN (alloc_below w _) _⟩
                  simp [*]
                · have d3 : (((np : Nat) : Int) == 0) = false := by rw [beq_eq_false_iff_ne]; omega
                  go_enter Tryz.func91, Tryz.ntmps91
                  go_wp2_with fail
                  go_ret
                  refine ⟨?_, by first | exact alloc_below w _ | exact below_drewN (alloc_below w _) _⟩
                  simp [*]
            · have d2 : (((nc : Nat) : Int) == 0) = false := by rw [beq_eq_false_iff_ne]; omega
              go_enter Tryz.func91, Tryz.ntmps91
              go_wp2_with fail
              go_ret
              refine ⟨?_, by first | exact alloc_below w _ | exact below_drewN (alloc_below w _) _⟩
              simp [*]
        · have d1 : (((no : Nat) : Int) == 0) = false := by rw [beq_eq_false_iff_ne]; omega
          go_enter Tryz.func91, Tryz.ntmps91
          go_wp2_with fail
          go_ret
          refine ⟨?_, by first | exact alloc_below w _ | exact below_drewN (alloc_below w _) _⟩
          simp [*]
    · have d0 : (((nb : Nat) : Int) == 0) = false := by rw [beq_eq_false_iff_ne]; omega
      go_enter Tryz.func91, Tryz.ntmps91
      go_wp2_with fail
      go_ret
      refine ⟨?_, by first | exact alloc_below w _ | exact below_drewN (alloc_below w _) _⟩
      simp [*]

/-- The box of looks, in a world that has come of w0. -/
structure Lk (w0 W : World) (f cl : Int) : Prop where
  box : W.heap[w0.heap.size]? = some (.cells #[.int .i64 f, .int .i64 cl] 104 (0, 0))
  be : Below w0.heap.size w0 W
theorem Lk.new (w : World) (f cl : Int) : Lk w (w.alloc (.cells #[.int .i64 f, .int .i64 cl] 104)) f cl := ⟨heap_alloc_new w _, alloc_below w _⟩
theorem Lk.lt {w0 W : World} {f cl : Int} (h : Lk w0 W f cl) : w0.heap.size < W.heap.size := (Array.getElem?_eq_some_iff.1 h.box).1
theorem Lk.below {w0 W W' : World} {f cl : Int} (h : Lk w0 W f cl) (hb : Below W.heap.size W W') : Lk w0 W' f cl := by
  have := h.lt
  exact ⟨(hb.block _ this).trans h.box, h.be.trans (hb.mono (by omega))⟩
theorem Lk.cells {w0 W : World} {f cl : Int} (h : Lk w0 W f cl) : W.cell? ⟨w0.heap.size, 0, none⟩ = some (.int .i64 f) ∧ W.cell? ⟨w0.heap.size, 1, none⟩ = some (.int .i64 cl) := by
  refine ⟨?_, ?_⟩
  · rw [cell_of_row _ _ 0 _ _ _ h.box]; rfl
  · rw [cell_of_row _ _ 1 _ _ _ h.box]; rfl
/-- An element, where it lies. -/
theorem rd_elem {α : Type} {f : α → List Value} {k : Nat} (hf : ∀ a, (f a).length = k) (hk : 0 < k) {w : World} {P : Nat → Prop} {v : Value} {l : List α} {n : Nat} (h : RdP w P k v n (l.flatMap f)) (hn : l.length = n) {j : Nat} (hj : j < n) :
    ∃ (b o c : Nat) (x : α), v = .slice (some ⟨b, o, none⟩) n c ∧ P b ∧ b < w.heap.size ∧ l[j]? = some x ∧ ∀ w' : World, w'.heap[b]? = w.heap[b]? → w'.rangeAt b (o + j * k) (f x) := by
  obtain ⟨_, A, c, rfl, _, _, h1⟩ := h
  obtain ⟨b, o, rfl, hP, hb, hl⟩ := h1 (by omega)
  obtain ⟨x, hx⟩ : ∃ x, l[j]? = some x := ⟨_, List.getElem?_eq_getElem (by omega)⟩
  refine ⟨b, o, c, x, rfl, hP, hb, hx, fun w' hw' r u hu => ?_⟩
  have hr : r < k := by have := (List.getElem?_eq_some_iff.1 hu).1; rw [hf] at this; exact this
  have := hl (j * k + r) u (by rw [flat_get hf l j r hr, hx]; exact hu)
  rw [← Nat.add_assoc] at this
  exact (World.cell?_of_block (a := ⟨b, o + j * k + r, none⟩) hw').trans this

theorem vt_vv (l : List Psp.Vote) : l.flatMap vt = (l.map fun v => (v.n, v.s)).flatMap vv := by rw [List.flatMap_map]; rfl
theorem rising_l (l : List Psp.Vote) (n : Nat) (x : Value) (f : Int) (w : World) (P : Nat → Prop) (hx : RdP w P 2 x n (l.flatMap vt)) (hn : l.length = n) (hw : ∀ v ∈ l, wfVote v) :
    Calls Tryz.prog 48 #[x, .int .i64 f] w fun e w' => e = .returned (.bool (Psp.rising (l.map (·.n)) f)) ∧ Below w.heap.size w w' := by
  subst hn
  have h := rising_any (l.map fun v => (v.n, v.s)) x f w (by rw [List.length_map, ← vt_vv]; exact hx.to_rd) (by
    intro a ha
    obtain ⟨v, hv, rfl⟩ := List.mem_map.1 ha
    exact hw v hv)
  rw [List.map_map] at h
  exact h
set_option maxRecDepth 100000 in
set_option maxHeartbeats 2000000 in
theorem batch_l (l : List Psp.Req) (n : Nat) (x : Value) (f cl lo hi : Int) (w : World) (P : Nat → Prop) (hx : RdP w P 6 x n (l.flatMap rq)) (hn : l.length = n) :
    Calls Tryz.prog 92 #[.agg #[.int .i64 f, .int .i64 cl], x, .int .i64 lo, .int .i64 hi] w fun e w' => e = .returned (.bool (Psp.batchB l cl lo hi)) ∧ Below w.heap.size w w' := by
  obtain ⟨_, A, c, rfl, hc1, hc2, _⟩ := hx.parts
  have HX := Lib.hid hx
  have Hn := Lib.hid hn
  have HL := Lib.hid (Lk.new w f cl)
  clear hx hn
  go_enter Tryz.func92, Tryz.ntmps92
  go_wp2_with fail
  go_loopw [13] (fun i wr => ∃ k : Nat, i = .int .i64 (k : Int) ∧ k ≤ n ∧ Hid (∀ (j : Nat) (y : Psp.Req), j < k → l[j]? = some y → Psp.valid y cl = true) ∧ Hid (Lk w wr f cl)) (fun i _ => n - (intOf i).toNat)
  case atStart => exact ⟨0, rfl, Nat.zero_le _, Lib.hid fun j y hj => by omega, HL⟩
  case round =>
    clear HL
    obtain ⟨k, rfl, hk, HI, HL⟩ := hrel
    by_cases hlt : k < n
    · obtain ⟨b0, o0, c0, y, he, hb0, hb1, hy, hel⟩ := rd_elem (f := rq) (k := 6) (fun _ => rfl) (by omega) HX.out Hn.out hlt
      injection he with he1 _ he2
      subst he1 he2
      have HQ := Lib.hid (hel wr (HL.out.be.block b0 hb1))
      have Hy := Lib.hid hy
      have d1 : decide ((k : Int) < (n : Int)) = true := by simp; omega
      clear hel hy
      go_upto_region 4 with (first | (refine list_load rfl 58 (.tmp 15) rfl b0 (o0 + k * 6) rfl (rq y) _ HQ.out Tryz.underlying58 rfl rst_sizeR ?_) | (refine list_store_new rfl 58 (.tmp 10) (.tmp 16) rfl _ _ (rq y) rfl rfl rfl rst_sizeR (rq_one y) ?_; intro w1 hb1 hr1 hs1))
      have HL1 := Lib.hid (HL.out.below hb1)
      have HR1 := Lib.hid hr1
      obtain ⟨_, kc⟩ := HL1.out.cells
      obtain ⟨sb, hsb⟩ : ∃ sb, Psp.valid y cl = sb := ⟨_, rfl⟩
      clear hb1 hr1 HQ HL
      go_wp2_with (first | (refine list_load rfl 58 (.tmp 10) rfl wr.heap.size 0 rfl (rq y) _ HR1.out Tryz.underlying58 rfl rst_sizeR ?_))
      refine (valid_any y cl w1).mono ?_
      rw [hsb]
      rintro e w2 ⟨rfl, hb2⟩
      have HL2 := Lib.hid (HL1.out.below hb2)
      have Hsb := Lib.hid hsb
      clear hb2 HL1 HR1 kc hsb hs1
      cases sb with
      | true =>
        have HI2 : Hid (∀ (j : Nat) (z : Psp.Req), j < k + 1 → l[j]? = some z → Psp.valid z cl = true) := Lib.hid fun j z hj hz => by
          by_cases he : j = k
          · subst he; have e1 := Hy.out.symm.trans hz; injection e1 with e1; subst e1; exact Hsb.out
          · exact HI.out j z (by omega) hz
        clear HI
        go_wp2_with fail
        go_roundw
        case rel => exact ⟨k + 1, by go_num, by omega, HI2, HL2⟩
        case measure => simp [intOf]; omega
      | false =>
        have Hf : Hid (Psp.batchB l cl lo hi = false) := Lib.hid (by unfold Psp.batchB Psp.validsB; rw [Psp.all_not (p := fun r => Psp.valid r cl) Hy.out Hsb.out]; rfl)
        clear HI
        go_wp2_with fail
        go_ret
        exact ⟨by rw [Hf.out]; rfl, HL2.out.be⟩
    · obtain rfl : k = n := by omega
      have Hf : Hid (Psp.batchB l cl lo hi = Psp.win (k : Int) lo hi) := Lib.hid (by
        unfold Psp.batchB Psp.validsB
        rw [Psp.all_take (p := fun r => Psp.valid r cl) (l := l) fun j hj y hy => HI.out j y (by rw [← Hn.out]; exact hj) hy, Hn.out]; rfl)
      clear HI
      go_wp2_with (first | (go_at_call 63; refine (win_any _ _ _ _).mono ?_; rintro e w' ⟨rfl, rfl⟩))
      go_ret
      exact ⟨by rw [Hf.out]; rfl, HL.out.be⟩

set_option maxRecDepth 100000 in
set_option maxHeartbeats 2000000 in
theorem votes_l (l : List Psp.Vote) (n : Nat) (x : Value) (f cl : Int) (w : World) (P : Nat → Prop) (hx : RdP w P 2 x n (l.flatMap vt)) (hn : l.length = n) (hw : ∀ v ∈ l, wfVote v) :
    Calls Tryz.prog 140 #[.agg #[.int .i64 f, .int .i64 cl], x] w fun e w' => e = .returned (.bool (Psp.votesB l f)) ∧ Below w.heap.size w w' := by
  obtain ⟨_, A, c, rfl, hc1, hc2, _⟩ := hx.parts
  have HX := Lib.hid hx
  have Hn := Lib.hid hn
  have Hw := Lib.hid hw
  have HL := Lib.hid (Lk.new w f cl)
  clear hx hn hw
  go_enter Tryz.func140, Tryz.ntmps140
  go_wp2_with fail
  go_loopw [9] (fun i wr => ∃ k : Nat, i = .int .i64 (k : Int) ∧ k ≤ n ∧ Hid (∀ (j : Nat) (y : Psp.Vote), j < k → l[j]? = some y → Psp.sealB y.s = true) ∧ Hid (Lk w wr f cl)) (fun i _ => n - (intOf i).toNat)
  case atStart => exact ⟨0, rfl, Nat.zero_le _, Lib.hid fun j y hj => by omega, HL⟩
  case round =>
    clear HL
    obtain ⟨k, rfl, hk, HI, HL⟩ := hrel
    by_cases hlt : k < n
    · obtain ⟨b0, o0, c0, y, he, hb0, hb1, hy, hel⟩ := rd_elem (f := vt) (k := 2) (fun _ => rfl) (by omega) HX.out Hn.out hlt
      injection he with he1 _ he2
      subst he1 he2
      have HQ := Lib.hid (hel wr (HL.out.be.block b0 hb1))
      have Hy := Lib.hid hy
      have d1 : decide ((k : Int) < (n : Int)) = true := by simp; omega
      clear hel hy
      go_upto_region 4 with (first | (refine list_load rfl 54 (.tmp 11) rfl b0 (o0 + k * 2) rfl (vt y) _ HQ.out Tryz.underlying54 rfl sizeV ?_) | (refine list_store_new rfl 54 (.tmp 6) (.tmp 12) rfl _ _ (vt y) rfl rfl rfl sizeV (by simp [vt, iv, Value.oneCell']) ?_; intro w1 hb1 hr1 hs1))
      have HL1 := Lib.hid (HL.out.below hb1)
      have kc : w1.cell? ⟨wr.heap.size, 1, none⟩ = some (.int .i64 y.s) := by have := hr1 1 (iv y.s) rfl; simpa [iv] using this
      obtain ⟨sb, hsb⟩ : ∃ sb, Psp.win y.s 0 1099511627775 = sb := ⟨_, rfl⟩
      clear hb1 hr1 HQ HL
      go_wp2_with fail
      refine (win_any y.s 0 1099511627775 w1).mono ?_
      rw [hsb]
      rintro e w2 ⟨rfl, rfl⟩
      have Hsb : Hid (Psp.sealB y.s = sb) := Lib.hid hsb
      clear kc hsb hs1
      cases sb with
      | true =>
        have HI2 : Hid (∀ (j : Nat) (z : Psp.Vote), j < k + 1 → l[j]? = some z → Psp.sealB z.s = true) := Lib.hid fun j z hj hz => by
          by_cases he : j = k
          · subst he; have e1 := Hy.out.symm.trans hz; injection e1 with e1; subst e1; exact Hsb.out
          · exact HI.out j z (by omega) hz
        clear HI
        go_wp2_with fail
        go_roundw
        case rel => exact ⟨k + 1, by go_num, by omega, HI2, HL1⟩
        case measure => simp [intOf]; omega
      | false =>
        have Hf : Hid (Psp.votesB l f = false) := Lib.hid (by unfold Psp.votesB Psp.sealsB; rw [Psp.all_not (p := fun v : Psp.Vote => Psp.sealB v.s) Hy.out Hsb.out]; rfl)
        clear HI
        go_wp2_with fail
        go_ret
        exact ⟨by rw [Hf.out]; rfl, HL1.out.be⟩
    · obtain rfl : k = n := by omega
      have Hf : Hid (Psp.votesB l f = Psp.rising (l.map (·.n)) f) := Lib.hid (by
        unfold Psp.votesB Psp.sealsB
        rw [Psp.all_take (p := fun v : Psp.Vote => Psp.sealB v.s) (l := l) fun j hj y hy => HI.out j y (by rw [← Hn.out]; exact hj) hy]; rfl)
      obtain ⟨kc, _⟩ := HL.out.cells
      clear HI
      go_wp2_with fail
      refine (rising_l l k (.slice A k c) f wr _ (HX.out.keeps (Keeps.below HL.out.be)) Hn.out Hw.out).mono ?_
      rintro e w2 ⟨rfl, hb2⟩
      have HL2 := Lib.hid (HL.out.below hb2)
      clear hb2 kc HL
      go_wp2_with fail
      go_ret
      exact ⟨by rw [Hf.out]; rfl, HL2.out.be⟩
end Go.Proofs.YtadpkjgjciodnaaGreat
