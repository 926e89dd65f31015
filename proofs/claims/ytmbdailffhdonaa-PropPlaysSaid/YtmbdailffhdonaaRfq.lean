/- Put of the document's table. Printed by gen_rft4.py out of rfq.src. -/
import Derived.Test.YtmbdailffhdonaaRfp
namespace Go.Proofs.Ytmbdailffhdonaa
open Go.RowKit
set_option linter.unusedVariables false
set_option linter.unusedSimpArgs false

theorem Rtc.off {w w' : World} {S : Nat → Prop} {h : Nat} {f cl : Int} {A : Option Addr} {c : Nat} {L : List TRV} (H : Rtc w' (Off w S h) h f cl A c L) (hb : Below w.heap.size w w') : Rtc w' (Off w' S h) h f cl A c L :=
  ⟨H.row, H.rd.mono fun b hb' hP => ⟨hb', hP.2⟩⟩
theorem cnt_stepR {l : List Psp.TR} {k : Nat} {c : Int} (h : k < l.length) : Psp.cntR (l.take (k + 1)) c = Psp.cntR (l.take k) c + (if l[k].r.c = c then 1 else 0) := by
  unfold Psp.cntR
  rw [List.take_succ_eq_append_getElem h, List.countP_append, List.countP_singleton]
  simp
theorem cnt_leR (l : List Psp.TR) (c : Int) : Psp.cntR l c ≤ l.length := List.countP_le_length
def newV (r : Psp.Req) : TRV := ⟨Psp.newR r, .slice none 0 0⟩
/-- Those that Put has behind its first part. -/
def insV (L : List TRV) (r : Psp.Req) : List TRV := L.take (Psp.posR (Psp.rsOf (usOf L)) r) ++ newV r :: L.drop (Psp.posR (Psp.rsOf (usOf L)) r)
theorem us_ins {L : List TRV} {r : Psp.Req} (h : Psp.isR (usOf L) r = false) : usOf (insV L r) = Psp.insM (usOf L) r := by
  unfold Psp.insM
  rw [h, if_neg (by simp)]
  unfold usOf insV
  rw [List.map_append, List.map_cons, List.map_take, List.map_drop]
  rfl
theorem und_lt : Try.prog.underlying 55 = some (.slice (Try.prog.elem 55)) := by kernel_rfl
theorem elem_lt : Try.prog.elem 55 = 72 := by kernel_rfl
theorem size_td (w : World) : (sizeOf (Try.prog.elem 55)).run Try.prog w = .ok 8 w := by
  rw [elem_lt]
  have hsz : (Try.prog.info? 72).map (·.size) = some 8 := by kernel_rfl
  obtain ⟨i, hi⟩ : ∃ i, Try.prog.info? 72 = some i := by
    cases hi : Try.prog.info? 72 with
    | none => rw [hi] at hsz; simp at hsz
    | some i => exact ⟨i, rfl⟩
  have hs : i.size = 8 := by rw [hi] at hsz; simpa using hsz
  simp [sizeOf, typeInfo, hi, hs]
theorem exec_hi {act : Act} {o : Oper} {w : World} (x y : Operand) (ho : o.op = .slice 55 x none (some y) none) (A : Option Addr) (n c q : Nat) (hx : act.eval x = .slice A n c) (hy : act.eval y = .int .i64 (q : Int)) (hq : q ≤ c) (hA : A = none ∨ ∃ g, A = some ⟨g, 0, none⟩) :
    (execOp act.eval o).run Try.prog w = .ok (.value (.slice A q c)) w := by
  have h1 := run_slice_h (P := Try.prog) (w := w) 55 A n c und_lt .i64 (q : Int) (by omega) (by omega)
  rw [size_td] at h1
  unfold execOp
  simp only [ho, hx, hy, Option.map_none, Option.map_some, Sem.run_bind, run_sliceAt_slice (h := und_lt), h1, Result.andThen]
  rcases hA with rfl | ⟨g, rfl⟩
  · simp [sliced]
  · simp [sliced, Addr.add]
def dropS (A : Option Addr) (n c q : Nat) : Value := .slice (if c = q then A else A.map (·.add (q * 8))) (n - q) (c - q)
theorem exec_lo {act : Act} {o : Oper} {w : World} (x y : Operand) (ho : o.op = .slice 55 x (some y) none none) (A : Option Addr) (n c q : Nat) (hx : act.eval x = .slice A n c) (hy : act.eval y = .int .i64 (q : Int)) (hq : q ≤ n) :
    (execOp act.eval o).run Try.prog w = .ok (.value (dropS A n c q)) w := by
  have h1 := run_slice_l (P := Try.prog) (w := w) 55 A n c und_lt .i64 (q : Int) (by omega) (by omega)
  rw [size_td] at h1
  unfold execOp
  simp only [ho, hx, hy, Option.map_none, Option.map_some, Sem.run_bind, run_sliceAt_slice (h := und_lt), h1, Result.andThen]
  simp [sliced, dropS]
theorem own_pre {w : World} {base n c q : Nat} {e : TypeId} {A : Option Addr} {xs : List Value} (h : w.ownsRow base e 8 (.slice A n c) n xs) (hq : q ≤ n) : w.ownsRow base e 8 (.slice A q c) q (xs.take (q * 8)) := by
  refine ⟨by rw [List.length_take, h.1]; omega, ?_⟩
  rcases h.2 with ⟨h1, h2⟩ | ⟨g, cap, cur, h1, h2, h3, h4, h5, h6, h7⟩
  · injection h1 with e1 e2 e3
    subst e1 e3
    exact .inl ⟨by congr 1; omega, by omega⟩
  · injection h1 with e1 e2 e3
    subst e1 e3
    refine .inr ⟨g, c, cur, rfl, h2, h3, by omega, h5, h6, ?_⟩
    rw [← h7, List.take_take]
    congr 1
    omega
theorem own_suf {w : World} {base n c q : Nat} {e : TypeId} {A : Option Addr} {xs : List Value} (h : w.ownsRow base e 8 (.slice A n c) n xs) (hq : q ≤ n) : Rd w w.heap.size 8 (dropS A n c q) (n - q) (xs.drop (q * 8)) := by
  obtain ⟨h1, A', c', e0, h3, h4, h5⟩ := Rd.of_own h
  injection e0 with e1 _ e2
  subst e1 e2
  refine ⟨by rw [List.length_drop, h1]; omega, _, _, rfl, by omega, by omega, fun hn => ?_⟩
  obtain ⟨b, o, rfl, hb, hl⟩ := h5 (by omega)
  rw [if_neg (by omega)]
  exact ⟨b, o + q * 8, by simp [Addr.add], hb, hl.drop (q * 8)⟩
theorem own_form {w : World} {base n c k : Nat} {e : TypeId} {A : Option Addr} {xs : List Value} (h : w.ownsRow base e k (.slice A n c) n xs) : A = none ∨ ∃ g, A = some ⟨g, 0, none⟩ := by
  rcases h.2 with ⟨h1, _⟩ | ⟨g, cap, cur, h1, _⟩
  · injection h1 with e1; exact .inl e1
  · injection h1 with e1; exact .inr ⟨g, e1⟩
theorem own_lit (w : World) (x : TRV) : (w.alloc (.cells (trv x).toArray 72)).ownsRow w.heap.size 72 8 (.slice (some ⟨w.heap.size, 0, none⟩) 1 1) 1 (trv x) :=
  ⟨rfl, .inr ⟨w.heap.size, 1, (trv x).toArray, rfl, Nat.le_refl _, heap_alloc_new w _, Nat.le_refl _, by unfold maxLen; omega, rfl, rfl⟩⟩
theorem set_same {α : Type} {l : List α} {k : Nat} {a : α} (h : l[k]? = some a) : l.set k a = l := by
  apply List.ext_getElem?
  intro j
  rw [List.getElem?_set]
  split
  · rename_i e
    subst e
    rw [if_pos (List.getElem?_eq_some_iff.1 h).1, h]
  · rfl
theorem own_put {W : World} {base n1 c q j bl : Nat} {L1 : List TRV} {x x' : TRV} {u : Value} (h : W.ownsRow base 72 8 (.slice (some ⟨bl, 0, none⟩) n1 c) n1 (L1.flatMap trv)) (hk : L1[q]? = some x) (hj : j < 8) (hx : (trv x).set j u = trv x') :
    (W.setCell ⟨bl, q * 8 + j, none⟩ u).ownsRow base 72 8 (.slice (some ⟨bl, 0, none⟩) n1 c) n1 ((L1.set q x').flatMap trv) := by
  rw [← set_trv L1 q j x x' u hk hj hx]
  exact (h.stored (q * 8 + j) u).1
theorem bel_set {B g o : Nat} {a W : World} {u : Value} (h : Below B a W) (hg : B ≤ g) : Below B a (W.setCell ⟨g, o, none⟩ u) :=
  ⟨h.os, h.tape, h.output, by have := h.size; simpa using this, fun k hk => (Below.heap_setCell W ⟨g, o, none⟩ u k (by show k ≠ g; omega)).trans (h.block k hk)⟩
theorem own_row {w : World} {base n c k g : Nat} {e : TypeId} {xs : List Value} (h : w.ownsRow base e k (.slice (some ⟨g, 0, none⟩) n c) n xs) : ∃ cur, w.heap[g]? = some (.cells cur e (0, 0)) := by
  rcases h.2 with ⟨h1, _⟩ | ⟨g', cap, cur, h1, _, h3, _⟩
  · cases h1
  · injection h1 with e1
    injection e1 with e1
    injection e1 with e1
    subst e1
    exact ⟨cur, h3⟩
/-- What the first part of Put leaves. -/
structure Mdl (w w1 wx : World) (S : Nat → Prop) (h : Nat) (L : List TRV) (r : Psp.Req) (q : Nat) (v : Value) (L1 : List TRV) : Prop where
  us : usOf L1 = Psp.insM (usOf L) r
  own : wx.ownsRow w1.heap.size 72 8 v L1.length (L1.flatMap trv)
  bel : Below w1.heap.size w1 wx
  ns : ∀ x ∈ L1, RdP wx (fun b => Off wx S h b ∧ b < w1.heap.size) 1 x.v x.u.ns.length (x.u.ns.map iv)
  few : Psp.isR (usOf L) r = true ∨ Psp.cntR (usOf L) r.c < 4
  lt : q < L1.length
  le : L1.length ≤ L.length + 1
set_option maxRecDepth 100000 in
set_option maxHeartbeats 16000000 in
theorem rput_ok (r : Psp.Req) (n clock : Int) (S : Nat → Prop) (h : Nat) (f cl : Int) (A : Option Addr) (c : Nat) (L : List TRV) (w : World) (H : Rtc w (Off w S h) h f cl A c L) (hw : Psp.Wm f (usOf L)) (hok : Psp.putOk f cl r n) (hf : 1 ≤ f ∧ f ≤ 4) (hl0 : L.length ≤ 100000) (hS : ∀ b, S b → b < w.heap.size) :
    Calls Try.prog 31 #[.pointer (some ⟨h, 0, none⟩), .agg #[.int .i64 r.c, .int .i64 r.t, .int .i64 r.k, .int .i64 r.y, .int .i64 r.v, .int .i64 r.s], .int .i64 n, .int .i64 clock] w fun e w' => e = .returned (.tuple #[.bool (Psp.putM f cl (usOf L) r n clock).1.1, .bool (Psp.putM f cl (usOf L) r n clock).1.2.1, .int .i64 (Psp.putM f cl (usOf L) r n clock).1.2.2]) ∧ (∃ A' c' L', usOf L' = (Psp.putM f cl (usOf L) r n clock).2 ∧ Rtc w' (Off w' S h) h f cl A' c' L') ∧ Fp (fun b => b = h) w w' := by
  obtain ⟨hok1, hok2, hok3, hok4⟩ := hok
  have hn12 := Psp.nodes_bd f
  have hlt := H.lt
  have hrs : (Psp.rsOf (usOf L)).length = L.length := by simp [Psp.rsOf, usOf]
  obtain ⟨hl, A', c', e0, hc1, hc2, hx⟩ := H.rd.rd.parts
  injection e0 with e1 e2 e3
  subst e1 e3
  obtain ⟨len, hlen⟩ : ∃ len, L.length = len := ⟨_, rfl⟩
  have hrow := H.row
  rw [hlen] at hc1 hx hrow hl0
  obtain ⟨PR, hPR⟩ : ∃ PR, Psp.putM f cl (usOf L) r n clock = PR := ⟨_, rfl⟩
  rw [hPR]
  obtain ⟨fi, hfi⟩ : ∃ fi : Int, (if Psp.isR (usOf L) r = true then (Psp.posR (Psp.rsOf (usOf L)) r : Int) else -1) = fi := ⟨_, rfl⟩
  obtain ⟨b0, hb0⟩ : ∃ b0, Psp.isR (usOf L) r = b0 := ⟨_, rfl⟩
  obtain ⟨q, hq⟩ : ∃ q, Psp.posR (Psp.rsOf (usOf L)) r = q := ⟨_, rfl⟩
  have hql : q ≤ len := by rw [← hq, ← hlen, ← hrs]; exact Psp.posR_le _ _
  have hfi2 : fi = if b0 = true then (q : Int) else -1 := by rw [← hfi, hb0, hq]
  have hqin : b0 = true → q < len := fun hb => by
    subst hb
    obtain ⟨j, hj, he⟩ := List.mem_iff_getElem.1 (of_decide_eq_true hb0)
    have := Psp.posR_mem hw.sorted hj he
    omega
  have HPR := Lib.hid hPR
  have Hlen := Lib.hid hlen
  have Hx := Lib.hid hx
  have HH := Lib.hid H
  have HS := Lib.hid hS
  have HW := Lib.hid hw
  have HI := Lib.hid hb0
  have HQ := Lib.hid hq
  have Hrs := Lib.hid hrs
  have Hfi := Lib.hid hfi
  have hc0 : w.cell? ⟨h, 0, none⟩ = some (.int .i64 f) := row_c hrow 0 rfl
  have hcl : w.cell? ⟨h, 1, none⟩ = some (.int .i64 cl) := row_c hrow 1 rfl
  have d1 : decide (r.c < 0) = false := by simp; omega
  have d2 : decide (cl ≤ r.c) = false := by simp; omega
  have d3 : decide (n < 0) = false := by simp; omega
  have d4 : decide (Psp.nodes f ≤ n) = false := by simp; omega
  have hb_ : Below w.heap.size w (w.alloc (.cells #[.int .i64 r.c, .int .i64 r.t, .int .i64 r.k, .int .i64 r.y, .int .i64 r.v, .int .i64 r.s] 25)) := alloc_below _ _
  have hr_ := heap_alloc_new w (.cells #[.int .i64 r.c, .int .i64 r.t, .int .i64 r.k, .int .i64 r.y, .int .i64 r.v, .int .i64 r.s] 25)
  have Hb0 := Lib.hid hb_
  have Hr0 := Lib.hid hr_
  clear hl hx hlen H e2 hrow hS hPR hfi hb0 hq hrs hb_ hr_ hw
  go_enter Try.func31, Try.ntmps31
  go_wp2_with fail
  go_quiet ((go_at_call 11; exact Calls.quiet_of_same ((r_nodes_any _ _).mono fun _ _ h => ⟨h.1, h.2.symm⟩)))
  have HB1 := Lib.hid (below_drewN Hb0.out nq)
  have HR1 : Hid (((w.alloc (.cells #[.int .i64 r.c, .int .i64 r.t, .int .i64 r.k, .int .i64 r.y, .int .i64 r.v, .int .i64 r.s] 25)).drewN nq).heap[w.heap.size]? = some (.cells #[.int .i64 r.c, .int .i64 r.t, .int .i64 r.k, .int .i64 r.y, .int .i64 r.v, .int .i64 r.s] 25 (0, 0))) := Lib.hid Hr0.out
  have HH1 := Lib.hid (HH.out.below HB1.out)
  clear d1 d2 d3 d4 hc0 hcl
  go_wp2_with fail
  refine (rfind_m r (Off w S h) h f cl A c L _ HH1.out HW.out.sorted).mono ?_
  rintro e w1 ⟨rfl, hb1⟩
  rw [Hfi.out]
  have hsz1 : w.heap.size + 1 ≤ w1.heap.size := by have := hb1.size; simpa using this
  have HB2 := Lib.hid (Below.then HB1.out hb1 HB1.out.size)
  have HR2 := Lib.hid ((hb1.block w.heap.size (by simp)).trans HR1.out)
  have HH2 := Lib.hid (HH1.out.below hb1)
  clear hb1 HB1 HR1 HH1 Hb0 Hr0
  have hd5 : decide (fi < 0) = !b0 := by rw [hfi2]; cases b0 <;> simp
  have cv : w1.cell? ⟨h, 2, none⟩ = some (.slice A len c) := by
    have h_ : w1.cell? ⟨h, 2, none⟩ = some (.slice A L.length c) := row_c HH2.out.row 2 rfl
    rw [Hlen.out] at h_
    exact h_
  have HRd : Hid (Rd w1 w1.heap.size 8 (.slice A len c) len (L.flatMap trv)) := Lib.hid (by
    have h_ := HH2.out.rd.rd.to_rd
    rw [Hlen.out] at h_
    exact h_)
  have HOne := Lib.hid (rts_one HH2.out.rd)
  have HFi2 := Lib.hid hfi2
  clear hfi2
  go_upto_region 5 with fail
  go_upto_if 52 with (at_builtin; refine wpList_app rtE rfl _ _ rfl w1.heap.size _ 0 [] rfl (World.ownsRow_nil _ _ _ _) w1.heap.size _ len (L.flatMap trv) rfl HRd.out HOne.out (by unfold maxLen; omega) (by omega) (Nat.le_refl _) ?_; intro v2 w2 hown2 hg2 _; rw [Nat.zero_add, List.nil_append] at hown2; have hbel2 : Below w1.heap.size w1 w2 := (Below.refl _ _).grown hg2 (Nat.le_refl _) (fun k hk => by simp [Act.eval, Value.ownBlock] at hk); have Hown2 := Lib.hid hown2; have Hbel2 := Lib.hid hbel2; clear hown2 hg2 hbel2; obtain ⟨A2, c2, rfl, hc21, hc22, _⟩ := own_slice Hown2.out)
  clear cv HRd HOne hd5
  have HR3 := Lib.hid ((Hbel2.out.block w.heap.size (by omega)).trans HR2.out)
  have hz2 := Hbel2.out.size
  have hNs : Hid (∀ x ∈ L, RdP w2 (fun b => Off w2 S h b ∧ b < w1.heap.size) 1 x.v x.u.ns.length (x.u.ns.map iv)) := Lib.hid fun x hx => ((HH2.out.rd.ns x hx).below Hbel2.out).mono fun b hb hP => ⟨⟨hb, hP.2⟩, by have := hP.1; omega⟩
  go_cut [11, 13] from 53 to 99 (fun i_ l_ wx => ∃ (L1 : List TRV), i_ = .int .i64 (q : Int) ∧ Hid (Mdl w w1 wx S h L r q l_ L1))
  case first =>
    cases b0 with
    | true =>
      have HFq : Hid (fi = (q : Int)) := Lib.hid (by rw [HFi2.out]; rfl)
      try simp only [Bool.not_true]
      go_wp2_with fail
      go_meet
      refine ⟨L, by rw [HFq.out], Lib.hid ⟨?_, ?_, Hbel2.out, hNs.out, .inl HI.out, by have h_ : q < len := (by first | exact hqin rfl | exact hqin trivial); have := Hlen.out; omega, Nat.le_succ _⟩⟩
      · unfold Psp.insM; rw [HI.out, if_pos rfl]
      · rw [Hlen.out]; exact Hown2.out
    | false =>
      clear hqin
      try simp only [Bool.not_false]
      have k0 : w2.cell? ⟨w.heap.size, 0, none⟩ = some (.int .i64 r.c) := row_c HR3.out 0 rfl
      go_wp2_with fail
      go_loopw [14, 15] (fun cn i wr => ∃ k : Nat, i = .int .i64 (k : Int) ∧ k ≤ len ∧ cn = .int .i64 (Psp.cntR ((usOf L).take k) r.c : Nat) ∧ Hid (Below w2.heap.size w2 wr)) (fun _ i _ => len - (intOf i).toNat)
      case atStart => exact ⟨0, rfl, by omega, rfl, Lib.hid (Below.refl _ _)⟩
      case round =>
        obtain ⟨k, rfl, hk, rfl, HBw⟩ := hrel
        have hszw := HBw.out.size
        obtain ⟨cn, hcn⟩ : ∃ cn, Psp.cntR ((usOf L).take k) r.c = cn := ⟨_, rfl⟩
        have hcb : cn ≤ k := by have := cnt_leR ((usOf L).take k) r.c; rw [List.length_take] at this; omega
        rw [hcn]
        have Hcn := Lib.hid hcn
        clear hcn
        have Hcw := Lib.hid (own_below Hown2.out HBw.out)
        by_cases hlt1 : k < len
        case pos =>
          obtain ⟨_, A9, c9, e9, _, _, hx9⟩ := RdP.parts ((Rd.of_own Hcw.out).to_p (Nat.le_refl _))
          injection e9 with e91 e92 e93
          subst e91 e93
          obtain ⟨b, o, hAe, _, hb, hlies⟩ := hx9 (by omega)
          subst hAe
          have hkl : k < L.length := by have := Hlen.out; omega
          obtain ⟨x, hxe⟩ : ∃ x, L[k] = x := ⟨_, rfl⟩
          have hrg := trv_range hlies hkl
          rw [hxe] at hrg
          have ce := later_cell (w := wr) (show wr.cell? ⟨b, o + k * 8, none⟩ = some (.int .i64 x.u.r.c) from hrg 0 _ rfl)
          have cr := later_cell (w := wr) (show wr.cell? ⟨w.heap.size, 0, none⟩ = some (.int .i64 r.c) from row_c ((HBw.out.block w.heap.size (by omega)).trans HR3.out) 0 rfl)
          have hst := cnt_stepR (c := r.c) (show k < (usOf L).length by simp [usOf]; exact hkl)
          have hue : (usOf L)[k]'(by simp [usOf]; exact hkl) = x.u := by simp [usOf, hxe]
          rw [hue, Hcn.out] at hst
          have Hst := Lib.hid hst
          have kk0 : (0 : Int) ≤ (k : Int) := by omega
          have kk1 : (k : Int) < (len : Int) := by omega
          have hd1 : decide ((k : Int) < (len : Int)) = true := by simp; omega
          clear hlies hrg hst hue hx9 hxe e92
          by_cases h1 : x.u.r.c = r.c
          case' pos =>
            have dd1 : (x.u.r.c == r.c) = true := by simpa using h1
            have hst2 := Hst.out
            rw [if_pos h1] at hst2
          case' neg =>
            have dd1 : (x.u.r.c == r.c) = false := by simpa using h1
            have hst2 := Hst.out
            rw [if_neg h1, Nat.add_zero] at hst2
          all_goals
            have Hst2 := Lib.hid hst2
            clear hst2 Hst h1
            go_upto_region 11 with fail
            refine wp_region_later (by kernel_rfl) (by kernel_rfl) ?_
            repeat ((with_reducible show wpQuiet _ _ _ _ _ _); first | ((with_reducible refine wpQuiet_bare ?_ ?_); (· rfl)) | (with_reducible refine wpQuiet_nil ?_) | go_big_quiet_step (fail) | quiet_step (fail))
            intro w3 hw'
            have hb3 := later_out hw'
            clear hw' ce cr
            have HBw3 := Lib.hid (Below.then HBw.out hb3 HBw.out.size)
            clear hb3
            go_wp2_with fail
            go_roundw
            case rel => exact ⟨k + 1, by go_num, by omega, by rw [Hst2.out]; go_num, HBw3⟩
            case measure => simp [intOf]; omega
        case neg =>
          have hd1 : decide ((k : Int) < (len : Int)) = false := by simp; omega
          have hcnL : Hid (Psp.cntR (usOf L) r.c = cn) := Lib.hid (by
            have h_ := Hcn.out
            rw [List.take_of_length_le (by simp [usOf]; have := Hlen.out; omega)] at h_
            exact h_)
          by_cases hfull : 4 ≤ cn
          case pos =>
            have hd2 : decide ((cn : Int) ≥ 4) = true := decide_eq_true (by omega)
            go_wp2_with fail
            go_ret3
            have hres : PR = ((false, false, 3), usOf L) := by
              rw [← HPR.out]
              unfold Psp.putM
              rw [if_pos ⟨hok1, hok2, hok3, hok4⟩, if_pos ⟨HI.out, by rw [hcnL.out]; exact hfull⟩]
            rw [hres]
            have hbt : Below w.heap.size w wr := Below.then HB2.out (Below.then Hbel2.out HBw.out Hbel2.out.size) HB2.out.size
            exact ⟨rfl, ⟨A, c, L, rfl, (HH.out.below hbt).off hbt⟩, Fp.of_below hbt _⟩
          case neg =>
            have hd2 : decide ((cn : Int) ≥ 4) = false := decide_eq_false (by omega)
            go_upto_block 2 with fail
            clear hd1 hd2
            obtain ⟨wq, hwq⟩ : ∃ x, x = wr := ⟨wr, rfl⟩
            subst hwq
            have hqpos : Hid (∀ j (hj : j < L.length), (j < q → Psp.cmpR L[j].u.r r < 0) ∧ (q ≤ j → 0 < Psp.cmpR L[j].u.r r)) := Lib.hid fun j hj => by
              have hj' : j < (Psp.rsOf (usOf L)).length := by have := Hrs.out; omega
              have he : (Psp.rsOf (usOf L))[j] = L[j].u.r := by simp [Psp.rsOf, usOf]
              refine ⟨fun hjq => ?_, fun hqj => ?_⟩
              · have h1 := Psp.posR_lt (r := r) (l := Psp.rsOf (usOf L)) (k := j) (by rw [HQ.out]; exact hjq) hj'
                rw [he] at h1; exact h1
              · have hqL : q < (Psp.rsOf (usOf L)).length := by omega
                have h1 := Psp.posR_at (r := r) (l := Psp.rsOf (usOf L)) (by rw [HQ.out]; exact hqL)
                have hne : ∀ i (hi : i < (Psp.rsOf (usOf L)).length), (Psp.rsOf (usOf L))[i] ≠ r := fun i hi he2 => by
                  have := of_decide_eq_false HI.out
                  exact this (by rw [← he2]; exact List.getElem_mem hi)
                have hq1 : 0 < Psp.cmpR ((Psp.rsOf (usOf L))[q]) r := by
                  have h2 : ¬ Psp.cmpR ((Psp.rsOf (usOf L))[q]) r < 0 := by
                    have e_ : (Psp.rsOf (usOf L))[Psp.posR (Psp.rsOf (usOf L)) r]'(by rw [HQ.out]; exact hqL) = (Psp.rsOf (usOf L))[q] := by congr 1 <;> exact HQ.out
                    rw [e_] at h1; exact h1
                  have h3 : Psp.cmpR ((Psp.rsOf (usOf L))[q]) r ≠ 0 := fun hz => hne q hqL ((Psp.cmpR_zero _ _).1 hz)
                  omega
                rw [← he]
                by_cases hjq : j = q
                · subst hjq; exact hq1
                · have h4 := List.pairwise_iff_getElem.1 HW.out.sorted q j hqL hj' (by omega)
                  have h5 : Psp.cmpR r ((Psp.rsOf (usOf L))[q]) < 0 := by have := Psp.cmpR_neg ((Psp.rsOf (usOf L))[q]) r; omega
                  have h6 := Psp.cmpR_trans h5 h4
                  have := Psp.cmpR_neg r ((Psp.rsOf (usOf L))[j])
                  omega
            go_cut [11] from 74 to 88 (fun i_ wx => i_ = .int .i64 (q : Int) ∧ Hid (Below wq.heap.size wq wx))
            case first =>
              go_upto_region 16 with fail
              go_loopw [11] (fun i wr => ∃ k : Nat, i = .int .i64 (k : Int) ∧ q ≤ k ∧ k ≤ len ∧ Hid (Below wq.heap.size wq wr)) (fun i _ => (intOf i).toNat)
              case atStart => exact ⟨len, rfl, hql, Nat.le_refl _, Lib.hid (Below.refl _ _)⟩
              case round =>
                obtain ⟨m, rfl, hm1, hm2, HBm⟩ := hrel
                have hszm := HBm.out.size
                have Hom := Lib.hid (own_below Hcw.out HBm.out)
                have HRm := Lib.hid ((HBm.out.block w.heap.size (by omega)).trans ((HBw.out.block w.heap.size (by omega)).trans HR3.out))
                by_cases hgo : q < m
                case pos =>
                  obtain ⟨m', rfl⟩ : ∃ m', m = m' + 1 := ⟨m - 1, by omega⟩
                  obtain ⟨_, A9, c9, e9, _, _, hx9⟩ := RdP.parts ((Rd.of_own Hom.out).to_p (Nat.le_refl _))
                  injection e9 with e91 e92 e93
                  subst e91 e93
                  obtain ⟨b, o, hAe, _, hb, hlies⟩ := hx9 (by omega)
                  subst hAe
                  have hkl : m' < L.length := by have := Hlen.out; omega
                  have hz := (hqpos.out m' hkl).2 (by omega)
                  obtain ⟨x, hxe⟩ : ∃ x, L[m'] = x := ⟨_, rfl⟩
                  have hrg := trv_req (trv_range hlies hkl)
                  rw [hxe] at hrg hz
                  obtain ⟨z, hze⟩ : ∃ z, Psp.cmpR r x.u.r = z := ⟨_, rfl⟩
                  have hz2 : z < 0 := by have := Psp.cmpR_neg x.u.r r; omega
                  have RT := Lib.hid (range_later hrg hb)
                  have RR := Lib.hid (range_later (range_of_row HRm.out) (show w.heap.size < wr.heap.size by omega))
                  have HC : Hid (∀ p : Later wr, Calls Try.prog 39 #[.agg (rq r).toArray, .agg (rq x.u.r).toArray] p.W fun e w' => e = .returned (.int .i64 z) ∧ Below p.W.heap.size p.W w') := Lib.hid fun p => by rw [← hze]; exact rcompare_any r x.u.r p.W
                  have dz : decide (z < 0) = true := decide_eq_true hz2
                  have dm : decide (((m' + 1 : Nat) : Int) > 0) = true := decide_eq_true (by omega)
                  have hwm : IntKind.i64.wrap (((m' + 1 : Nat) : Int) - 1) = (m' : Int) := by rw [IntWalk.i64_in _ (by omega)]; omega
                  have hwm2 : IntKind.i64.wrap ((m' : Int) + 1 - 1) = (m' : Int) := by rw [IntWalk.i64_in _ (by omega)]; omega
                  have kk0 : (0 : Int) ≤ (m' : Int) := by omega
                  have kk1 : (m' : Int) < (len : Int) := by omega
                  clear hlies hrg hze hx9 hxe e92 hz
                  go_upto_region 16 with fail
                  refine wp_region_later (by kernel_rfl) (by kernel_rfl) ?_
                  repeat ((with_reducible show wpQuiet _ _ _ _ _ _); first | ((with_reducible refine wpQuiet_bare ?_ ?_); (· rfl)) | (with_reducible refine wpQuiet_nil ?_) | (refine quiet_load (by simp [Region.wanted, yielded]) 25 (.tmp 5) (by rfl) w.heap.size (0) (by rfl) (rq r) _ RR.out Try.underlying25 rfl size_rq ?_; intro K hK; go_simp; refine hK _ ?_; clear hK K) | (refine quiet_load (by simp [Region.wanted, yielded]) 25 (.tmp 82) (by rfl) b (o + m' * 8) (by rfl) (rq x.u.r) _ RT.out Try.underlying25 rfl size_rq ?_; intro K hK; go_simp; refine hK _ ?_; clear hK K) | go_big_quiet_step ((go_at_call 39; exact later_call _ (HC.out _))) | quiet_step ((go_at_call 39; exact later_call _ (HC.out _))))
                  intro w3 hw'
                  have hb3 := later_out hw'
                  clear hw'
                  have HB3 := Lib.hid (Below.then HBm.out hb3 HBm.out.size)
                  clear hb3
                  go_wp2_with fail
                  go_roundw
                  case rel => exact ⟨m', by go_num, by omega, by omega, HB3⟩
                  case measure => simp [intOf]
                case neg =>
                  obtain rfl : m = q := by omega
                  go_upto_region 16 with fail
                  by_cases hq0 : m = 0
                  case' pos =>
                    have dm : decide ((m : Int) > 0) = false := decide_eq_false (by omega)
                    refine wp_region_later (by kernel_rfl) (by kernel_rfl) ?_
                    repeat ((with_reducible show wpQuiet _ _ _ _ _ _); first | ((with_reducible refine wpQuiet_bare ?_ ?_); (· rfl)) | (with_reducible refine wpQuiet_nil ?_) | go_big_quiet_step (fail) | quiet_step (fail))
                  case' neg =>
                    obtain ⟨m', rfl⟩ : ∃ m', m = m' + 1 := ⟨m - 1, by omega⟩
                    obtain ⟨_, A9, c9, e9, _, _, hx9⟩ := RdP.parts ((Rd.of_own Hom.out).to_p (Nat.le_refl _))
                    injection e9 with e91 e92 e93
                    subst e91 e93
                    obtain ⟨b, o, hAe, _, hb, hlies⟩ := hx9 (by omega)
                    subst hAe
                    have hkl : m' < L.length := by have := Hlen.out; omega
                    have hz := (hqpos.out m' hkl).1 (by omega)
                    obtain ⟨x, hxe⟩ : ∃ x, L[m'] = x := ⟨_, rfl⟩
                    have hrg := trv_req (trv_range hlies hkl)
                    rw [hxe] at hrg hz
                    obtain ⟨z, hze⟩ : ∃ z, Psp.cmpR r x.u.r = z := ⟨_, rfl⟩
                    have hz2 : ¬ z < 0 := by have := Psp.cmpR_neg x.u.r r; omega
                    have RT := Lib.hid (range_later hrg hb)
                    have RR := Lib.hid (range_later (range_of_row HRm.out) (show w.heap.size < wr.heap.size by omega))
                    have HC : Hid (∀ p : Later wr, Calls Try.prog 39 #[.agg (rq r).toArray, .agg (rq x.u.r).toArray] p.W fun e w' => e = .returned (.int .i64 z) ∧ Below p.W.heap.size p.W w') := Lib.hid fun p => by rw [← hze]; exact rcompare_any r x.u.r p.W
                    have dz : decide (z < 0) = false := decide_eq_false hz2
                    have dm : decide (((m' + 1 : Nat) : Int) > 0) = true := decide_eq_true (by omega)
                    have hwm : IntKind.i64.wrap (((m' + 1 : Nat) : Int) - 1) = (m' : Int) := by rw [IntWalk.i64_in _ (by omega)]; omega
                    have hwm2 : IntKind.i64.wrap ((m' : Int) + 1 - 1) = (m' : Int) := by rw [IntWalk.i64_in _ (by omega)]; omega
                    have kk0 : (0 : Int) ≤ (m' : Int) := by omega
                    have kk1 : (m' : Int) < (len : Int) := by omega
                    clear hlies hrg hze hx9 hxe e92 hz
                    refine wp_region_later (by kernel_rfl) (by kernel_rfl) ?_
                    repeat ((with_reducible show wpQuiet _ _ _ _ _ _); first | ((with_reducible refine wpQuiet_bare ?_ ?_); (· rfl)) | (with_reducible refine wpQuiet_nil ?_) | (refine quiet_load (by simp [Region.wanted, yielded]) 25 (.tmp 5) (by rfl) w.heap.size (0) (by rfl) (rq r) _ RR.out Try.underlying25 rfl size_rq ?_; intro K hK; go_simp; refine hK _ ?_; clear hK K) | (refine quiet_load (by simp [Region.wanted, yielded]) 25 (.tmp 82) (by rfl) b (o + m' * 8) (by rfl) (rq x.u.r) _ RT.out Try.underlying25 rfl size_rq ?_; intro K hK; go_simp; refine hK _ ?_; clear hK K) | go_big_quiet_step ((go_at_call 39; exact later_call _ (HC.out _))) | quiet_step ((go_at_call 39; exact later_call _ (HC.out _))))
                  all_goals
                    intro w3 hw'
                    have hb3 := later_out hw'
                    clear hw'
                    have HB3 := Lib.hid (Below.then HBm.out hb3 HBm.out.size)
                    clear hb3
                    go_wp2_with fail
                    go_meet
                    exact ⟨rfl, HB3⟩
            case rest =>
              obtain ⟨rfl, HBx⟩ := hcut
              have hzc := HBx.out.size
              have Hox := Lib.hid (own_below Hcw.out HBx.out)
              have HRx := Lib.hid ((HBx.out.block w.heap.size (by omega)).trans ((HBw.out.block w.heap.size (by omega)).trans HR3.out))
              have hA2 : A2 = none ∨ ∃ g, A2 = some ⟨g, 0, none⟩ := own_form Hox.out
              obtain ⟨dv, hdv⟩ : ∃ dv, dropS A2 len c2 q = dv := ⟨_, rfl⟩
              go_upto_region 18 with fail
              refine wp_region_steps 12 (by kernel_rfl) (by kernel_rfl) ?_
              obtain ⟨W, hWd⟩ : ∃ W_, wc.drew = W_ := ⟨_, rfl⟩
              have hdr : Below wc.heap.size wc W := by rw [← hWd]; exact (Below.refl _ _).drew
              rw [hWd]
              clear hWd
              have hzW := hdr.size
              have HoW := Lib.hid (own_below Hox.out hdr)
              have HRW := Lib.hid ((hdr.block w.heap.size (by omega)).trans HRx.out)
              have HDV : Hid (Rd W W.heap.size 8 dv (len - q) ((L.flatMap trv).drop (q * 8))) := Lib.hid (by rw [← hdv]; exact own_suf HoW.out hql)
              refine wpAny_pre 0 (by kernel_rfl) (fun _ d _ _ _ h => by cases d <;> exact h) ?_
              simp only [List.getElem?_cons_zero, List.getElem?_cons_succ, Option.toList]
              repeat (first | go_big_quiet_step (fail) | quiet_step (fail) | refine wpQuiet_nil ?_)
              refine wpAny_pre 1 (by kernel_rfl) (fun _ d _ _ _ h => by cases d <;> exact h) ?_
              simp only [List.getElem?_cons_zero, List.getElem?_cons_succ, Option.toList]
              repeat (first | go_big_quiet_step (fail) | quiet_step (fail) | refine wpQuiet_nil ?_)
              refine wpAny_pre 2 (by kernel_rfl) (fun _ d _ _ _ h => by cases d <;> exact h) ?_
              simp only [List.getElem?_cons_zero, List.getElem?_cons_succ, Option.toList]
              refine quiet_val (by simp [Region.wanted, yielded]) (.slice A2 q c2) (fun w_ hC => exec_hi (.tmp 89) (.tmp 90) rfl A2 len c2 q (by rfl) (by rfl) (by omega) hA2) ?_
              intro K hK
              go_simp
              refine hK _ ?_
              clear hK K
              refine wpQuiet_nil ?_
              refine wpAny_pre 6 (by kernel_rfl) (fun _ d _ _ _ h => by cases d <;> exact h) ?_
              simp only [List.getElem?_cons_zero, List.getElem?_cons_succ, Option.toList]
              repeat (first | go_big_quiet_step (fail) | quiet_step (fail) | refine wpQuiet_nil ?_)
              refine wpAny_pre 7 (by kernel_rfl) (fun _ d _ _ _ h => by cases d <;> exact h) ?_
              simp only [List.getElem?_cons_zero, List.getElem?_cons_succ, Option.toList]
              repeat (first | go_big_quiet_step (fail) | quiet_step (fail) | refine wpQuiet_nil ?_)
              refine wpAny_pre 8 (by kernel_rfl) (fun _ d _ _ _ h => by cases d <;> exact h) ?_
              simp only [List.getElem?_cons_zero, List.getElem?_cons_succ, Option.toList]
              refine quiet_val (by simp [Region.wanted, yielded]) dv (fun w_ hC => by rw [← hdv]; exact exec_lo (.tmp 95) (.tmp 96) rfl A2 len c2 q (by rfl) (by rfl) hql) ?_
              intro K hK
              go_simp
              refine hK _ ?_
              clear hK K
              refine wpQuiet_nil ?_
              clear hdv
              refine wpAny_one 3 (by kernel_rfl) ?_
              simp only [List.getElem?_cons_zero, List.getElem?_cons_succ, Option.toList]
              go_wp2_with (refine list_load rfl 25 (.tmp 5) rfl w.heap.size 0 rfl [.int .i64 r.c, .int .i64 r.t, .int .i64 r.k, .int .i64 r.y, .int .i64 r.v, .int .i64 r.s] _ (range_of_row HRW.out) Try.underlying25 rfl size_rq ?_)
              refine wpAny_one 4 (by kernel_rfl) ?_
              simp only [List.getElem?_cons_zero, List.getElem?_cons_succ, Option.toList]
              go_wp2_with fail
              refine wpAny_one 5 (by kernel_rfl) ?_
              simp only [List.getElem?_cons_zero, List.getElem?_cons_succ, Option.toList]
              go_wp2_with (refine list_build1 rfl _ (.tmp 93) rfl 72 (trv (newV r)) rfl Try.underlying55 (rt_zero _) (by rw [trv_len]; omega) (by rw [trv_len]; omega) ?_)
              refine wpAny_one 9 (by kernel_rfl) ?_
              simp only [List.getElem?_cons_zero, List.getElem?_cons_succ, Option.toList]
              have HOL := Lib.hid (rts_one HH2.out.rd)
              have HDa : Hid (Rd (W.alloc (.cells (trv (newV r)).toArray 72)) W.heap.size 8 dv (len - q) ((L.flatMap trv).drop (q * 8))) := Lib.hid (HDV.out.below (alloc_below _ _))
              go_wp2_with (at_builtin; refine wpList_app rtE rfl _ _ rfl W.heap.size (.slice (some ⟨W.heap.size, 0, none⟩) 1 1) 1 (trv (newV r)) rfl (own_lit W (newV r)) W.heap.size dv (len - q) _ rfl HDa.out (fun u hu => HOL.out u (List.mem_of_mem_drop hu)) (by unfold maxLen; omega) (by omega) (by simp) ?_; intro v9 w9 hown9 hg9 _; have Hown9 := Lib.hid hown9; have Hg9 := Lib.hid hg9; clear hown9 hg9)
              have hb9 : Below W.heap.size W w9 := ((Below.refl _ _).alloc (Nat.le_refl _) _).grown Hg9.out (by simp) (fun k hk => by simp [Value.ownBlock] at hk; omega)
              have hz9 := hb9.size
              have hbW1 : Below w1.heap.size w1 W := Below.then (Below.then (Below.then Hbel2.out HBw.out Hbel2.out.size) HBx.out (by omega)) hdr (by omega)
              have Hp9 := Lib.hid (own_pre (own_below HoW.out hb9) hql)
              have Hb19 := Lib.hid (Below.then hbW1 hb9 hbW1.size)
              have HOn : Hid (∀ u ∈ trv (newV r) ++ (L.flatMap trv).drop (q * 8), u.oneCell' = true) := Lib.hid fun u hu => by
                rcases List.mem_append.1 hu with h_ | h_
                · exact rt_one (x := newV r) rfl u h_
                · exact HOL.out u (List.mem_of_mem_drop h_)
              clear hb9 hbW1
              refine wpAny_one 10 (by kernel_rfl) ?_
              simp only [List.getElem?_cons_zero, List.getElem?_cons_succ, Option.toList]
              go_wp2_with (at_builtin; refine wpList_app rtE rfl _ _ rfl w1.heap.size (.slice A2 q c2) q ((L.flatMap trv).take (q * 8)) rfl Hp9.out w9.heap.size v9 (1 + (len - q)) _ rfl (Rd.of_own Hown9.out) HOn.out (by unfold maxLen; omega) (by omega) (by have := Hb19.out.size; omega) ?_; intro v10 w10 hown10 hg10 _; have Hown10 := Lib.hid hown10; have Hg10 := Lib.hid hg10; clear hown10 hg10)
              have hb10 : Below w1.heap.size w1 w10 := Hb19.out.grown Hg10.out Hb19.out.size (fun k hk => (Hp9.out.lt k hk).1)
              have HB10 := Lib.hid hb10
              clear hb10
              obtain ⟨A10, c10, rfl, _, _, _⟩ := own_slice Hown10.out
              refine wpAny_one 11 (by kernel_rfl) ?_
              simp only [List.getElem?_cons_zero, List.getElem?_cons_succ, Option.toList]
              go_wp2_with fail
              refine wpAny_end (by kernel_rfl) ?_
              go_wp2_with fail
              go_meet
              have hLI : (insV L r).length = q + (1 + (len - q)) := by
                unfold insV
                rw [HQ.out, List.length_append, List.length_cons, List.length_take, List.length_drop, Hlen.out]
                omega
              have hfl : (insV L r).flatMap trv = (L.flatMap trv).take (q * 8) ++ (trv (newV r) ++ (L.flatMap trv).drop (q * 8)) := by
                unfold insV
                rw [HQ.out, List.flatMap_append, List.flatMap_cons, flat_takeg trv_len, flat_dropg trv_len]
              have hbt : Below w.heap.size w w10 := Below.then HB2.out HB10.out HB2.out.size
              refine ⟨insV L r, rfl, Lib.hid ⟨us_ins HI.out, ?_, HB10.out, fun x hx => ?_, .inr (by rw [hcnL.out]; omega), by omega, by rw [hLI, Hlen.out]; omega⟩⟩
              · rw [hLI, hfl]; exact Hown10.out
              · have hx' : x ∈ L ∨ x = newV r := by
                  unfold insV at hx
                  rcases List.mem_append.1 hx with h_ | h_
                  · exact .inl (List.mem_of_mem_take h_)
                  · rcases List.mem_cons.1 h_ with h_ | h_
                    · exact .inr h_
                    · exact .inl (List.mem_of_mem_drop h_)
                rcases hx' with h_ | h_
                · exact ((HH.out.rd.ns x h_).below hbt).mono fun b hb hP => ⟨⟨hb, hP.2⟩, by have := hP.1; omega⟩
                · rw [h_]; exact RdP.none_
  case rest =>
    obtain ⟨L1, rfl, HM⟩ := hcut
    have hus := HM.out.us
    obtain ⟨u, hu1, hu2, hu3, hu4⟩ := Psp.ins_at HW.out r
    rw [HQ.out, ← hus] at hu1
    have hqL := HM.out.lt
    have hL1 := HM.out.le
    rw [Hlen.out] at hL1
    obtain ⟨x, hxe⟩ : ∃ x, L1[q] = x := ⟨_, rfl⟩
    have hxu : x.u = u := by
      have h_ : (usOf L1)[q]? = some x.u := by unfold usOf; rw [List.getElem?_map, List.getElem?_eq_getElem hqL, hxe]; rfl
      rw [h_] at hu1
      injection hu1
    have hP : PR = ((!b0, (Psp.tellR f x.u n clock).2, 0), (usOf L1).set q (Psp.tellR f x.u n clock).1) := by
      rw [← HPR.out]
      unfold Psp.putM
      rw [if_pos ⟨hok1, hok2, hok3, hok4⟩, if_neg (by
        rintro ⟨h1, h2⟩
        rcases HM.out.few with h3 | h3
        · rw [h1] at h3; cases h3
        · omega), HQ.out, ← hus, hu1, HI.out, hxu]
    have HP := Lib.hid hP
    have HXe := Lib.hid hxe
    have hz1c := HM.out.bel.size
    have hOwn := HM.out.own
    obtain ⟨Al, cl1, rfl, hcl1, hcl2, hcells⟩ := own_slice hOwn
    obtain ⟨bl, hAl⟩ : ∃ bl, Al = some ⟨bl, 0, none⟩ := by
      rcases own_form hOwn with h_ | ⟨g, h_⟩
      · subst h_
        rcases hOwn.2 with ⟨_, h2⟩ | ⟨g, cap, cur, h2, _⟩
        · omega
        · injection h2 with h2; cases h2
      · exact ⟨g, h_⟩
    subst hAl
    obtain ⟨n1, hn1⟩ : ∃ n1, L1.length = n1 := ⟨_, rfl⟩
    rw [hn1] at hOwn hqL hL1 hcl1 ⊢
    have HN1 := Lib.hid hn1
    have HOwn := Lib.hid hOwn
    have hlies : Lies wc bl 0 (L1.flatMap trv) := by
      obtain ⟨_, A', c', e0, _, _, h5⟩ := Rd.of_own hOwn
      injection e0 with e1 _ _
      subst e1
      obtain ⟨b_, o_, e2, _, h6⟩ := h5 (by omega)
      injection e2 with e2
      injection e2 with e3 e4
      subst e3 e4
      exact h6
    have hblt := hOwn.lt bl rfl
    have hrg := trv_range hlies (by rw [hn1]; exact hqL)
    rw [hxe, Nat.zero_add] at hrg
    have c6 : wc.cell? ⟨bl, q * 8 + 6, none⟩ = some x.v := hrg 6 x.v rfl
    have hxs := HM.out.ns x (by rw [← hxe]; exact List.getElem_mem _)
    obtain ⟨_, Bx, dx, exv, hdx1, hdx2, _⟩ := hxs.parts
    have HXs := Lib.hid hxs
    clear exv
    have kk0 : (0 : Int) ≤ (q : Int) := by omega
    have kk1 : (q : Int) < (n1 : Int) := by omega
    have hhc : Hid (wc.heap[h]? = some (.cells #[.int .i64 f, .int .i64 cl, .slice A len c] 57 (0, 0))) := Lib.hid (by
      have h_ := (HM.out.bel.block h (by omega)).trans HH2.out.row
      rw [Hlen.out] at h_
      exact h_)
    have hbwc : Below w.heap.size w wc := Below.then HB2.out HM.out.bel HB2.out.size
    have Hbwc := Lib.hid hbwc
    clear hus hu1 hu2 hu3 hu4 hxu hP hcells hOwn hlies hrg hxs hbwc hn1
    obtain ⟨nl, hnl⟩ : ∃ nl, x.u.ns.length = nl := ⟨_, rfl⟩
    have HNl := Lib.hid hnl
    by_cases hin : n ∈ x.u.ns
    case pos =>
      have Hin := Lib.hid hin
      clear hin hnl
      go_upto_region 20 with fail
      go_wp2_with fail
      refine (rhas_ints x.u.ns n x.v wc _ HXs.out).mono ?_
      rintro e w' ⟨rfl, hw'⟩
      rw [hw']
      clear hw' w'
      rw [decide_eq_true Hin.out]
      have hch : wc.cell? ⟨h, 2, none⟩ = some (.slice A len c) := row_c hhc.out 2 rfl
      have hfz := frozen_of_row wc h 2 _ _ hhc.out
      clear c6
      go_wp2_with fail
      go_ret3
      have hput := Rtc.put (L' := L1) HH.out Hbwc.out HS.out (by rw [HN1.out]; exact own_more HOwn.out (by omega)) fun y hy => (HM.out.ns y hy).mono fun b _ hP => hP.1
      have htl : Psp.tellR f x.u n clock = (x.u, false) := by unfold Psp.tellR; rw [if_pos Hin.out]
      rw [HP.out, htl]
      refine ⟨rfl, ?_, hput.2⟩
      obtain ⟨A', c', h_⟩ := hput.1
      refine ⟨A', c', L1, ?_, h_⟩
      show usOf L1 = (usOf L1).set q x.u
      have h9 : (usOf L1)[q]? = some x.u := by unfold usOf; rw [List.getElem?_map, List.getElem?_eq_getElem (by rw [HN1.out]; exact hqL), HXe.out]; rfl
      exact (set_same h9).symm
    case neg =>
      have Hin := Lib.hid hin
      clear hin
      go_upto_region 20 with fail
      go_wp2_with fail
      refine (rhas_ints x.u.ns n x.v wc _ HXs.out).mono ?_
      rintro e w' ⟨rfl, hw'⟩
      rw [hw']
      clear hw' w'
      rw [decide_eq_false Hin.out]
      have h13 : x.u.ns.length ≤ 13 := by
        have hm : x.u ∈ Psp.insM (usOf L) r := by rw [← HM.out.us]; exact List.mem_map.2 ⟨x, by rw [← HXe.out]; exact List.getElem_mem _, rfl⟩
        rcases Psp.ins_mem hm with h1 | h1
        · have h2 := HW.out.ns _ h1
          have h3 := Psp.who_cnt x.u.ns h2.1 (fun y hy => ⟨(h2.2 y hy).1, by have := (h2.2 y hy).2; omega⟩)
          have h4 := List.countP_le_length (p := id) (l := Psp.whoOf x.u.ns)
          rw [Psp.who_len, h3] at h4
          exact h4
        · rw [h1]; simp [Psp.newR]
      rw [hnl] at h13
      have HNsr : Hid (Rd wc wc.heap.size 1 x.v nl (x.u.ns.map iv)) := Lib.hid (by rw [← hnl]; exact HXs.out.to_rd)
      have HOns : Hid (∀ u ∈ x.u.ns.map iv, u.oneCell' = true) := Lib.hid fun u hu => by
        obtain ⟨y, _, rfl⟩ := List.mem_map.1 hu
        rfl
      obtain ⟨nl1, hnl1⟩ : ∃ nl1, nl + 1 = nl1 := ⟨_, rfl⟩
      have HNl1 := Lib.hid hnl1
      clear hnl hnl1
      have C6 := Lib.hid c6
      clear c6
      have c6 := C6.out
      go_upto_region 22 with (first | (at_builtin; refine wpList_app intsE rfl _ _ rfl wc.heap.size (.slice none 0 0) 0 [] rfl (World.ownsRow_nil _ _ _ _) wc.heap.size x.v nl (x.u.ns.map iv) rfl HNsr.out HOns.out (by unfold maxLen; omega) (by omega) (Nat.le_refl _) ?_; intro va wa hown hga _; rw [Nat.zero_add, List.nil_append] at hown; have hba : Below wc.heap.size wc wa := (Below.refl _ _).grown hga (Nat.le_refl _) (fun k hk => by simp [Act.eval, Value.ownBlock] at hk); have Hva := Lib.hid hown; have Hba := Lib.hid hba; clear hown hga hba) | (at_builtin; refine wpList_app1 intsE rfl _ _ rfl wc.heap.size _ _ _ rfl Hva.out #[.int .i64 n] rfl rfl (by simp [Value.oneCell']) (by omega) (by decide) Hba.out.size ?_; intro vb wb hownb hgb hbb _; rw [HNl1.out] at hownb; have hbw : Below wc.heap.size wc wb := Hba.out.trans hbb; obtain ⟨curb, hrowb⟩ := own_row (own_below HOwn.out hbw); have hfz6 := frozen_of_row wb bl (q * 8 + 6) _ _ hrowb; have hc6b : wb.cell? ⟨bl, q * 8 + 6, none⟩ = some x.v := (hbw.cell (p := ⟨bl, q * 8 + 6, none⟩) hblt.2).trans C6.out; have Hvb := Lib.hid hownb; have Hbw := Lib.hid hbw; clear hownb hgb hbb hbw hrowb; obtain ⟨Ab, cb, rfl, hcb1, hcb2, _⟩ := own_slice Hvb.out))
      obtain ⟨W3, hW3⟩ : ∃ W_, wb.setCell ⟨bl, q * 8 + 6, none⟩ (.slice Ab nl1 cb) = W_ := ⟨_, rfl⟩
      rw [hW3]
      clear hfz6 hc6b c6
      have hkx : L1[q]? = some x := by rw [List.getElem?_eq_getElem (by rw [HN1.out]; exact hqL), HXe.out]
      have hob3 := own_put (x' := ⟨⟨x.u.r, x.u.ns ++ [n], x.u.since⟩, .slice Ab nl1 cb⟩) (own_below HOwn.out Hbw.out) hkx (j := 6) (by omega) (u := .slice Ab nl1 cb) rfl
      have hbel3 : Below w1.heap.size w1 (wb.setCell ⟨bl, q * 8 + 6, none⟩ (.slice Ab nl1 cb)) := bel_set (Below.then HM.out.bel Hbw.out HM.out.bel.size) hblt.1
      have hs3 : W3.heap.size = wb.heap.size := by rw [← hW3]; simp
      have hk3 : ∀ b, b ≠ bl → W3.heap[b]? = wb.heap[b]? := fun b hb => by rw [← hW3]; exact Below.heap_setCell wb ⟨bl, q * 8 + 6, none⟩ _ b hb
      rw [hW3] at hob3 hbel3
      have hs3' : wb.heap.size ≤ W3.heap.size ∧ W3.heap.size ≤ wb.heap.size := by omega
      clear hs3 hW3
      have hlh : h < w1.heap.size := by omega
      have hrh : W3.heap[h]? = some (.cells #[.int .i64 f, .int .i64 cl, .slice A len c] 57 (0, 0)) := (hk3 h (by have := hblt.1; omega)).trans ((Hbw.out.block h (by omega)).trans hhc.out)
      have hzb := Hbw.out.size
      have hns3 : Hid (∀ (s2 : Int), ∀ y ∈ L1.set q ⟨⟨x.u.r, x.u.ns ++ [n], s2⟩, .slice Ab nl1 cb⟩, RdP W3 (fun b => Off W3 S h b ∧ b ≠ bl) 1 y.v y.u.ns.length (y.u.ns.map iv)) := Lib.hid fun s2 y hy => by
        rcases List.mem_or_eq_of_mem_set hy with h1 | h1
        · refine (HM.out.ns y h1).keeps ⟨by omega, fun b hP hlt => ?_⟩
          have hbne : b ≠ bl := by have := hP.2; have := hblt.1; omega
          exact ⟨(hk3 b hbne).trans (Hbw.out.block b hlt), ⟨⟨by omega, hP.1.2⟩, hbne⟩⟩
        · subst h1
          have h2 : wb.ownsRow wc.heap.size 3 1 (.slice Ab nl1 cb) nl1 ((x.u.ns ++ [n]).map iv) := by rw [List.map_append]; exact Hvb.out
          have h3 := (RdP.of_own h2).keeps (P' := fun b => Off W3 S h b ∧ b ≠ bl) (w' := W3) ⟨by omega, fun b hP hlt => ?_⟩
          · have h4 : (x.u.ns ++ [n]).length = nl1 := by rw [List.length_append, HNl.out, ← HNl1.out]; rfl
            show RdP W3 _ 1 (.slice Ab nl1 cb) (x.u.ns ++ [n]).length _
            rw [h4]
            exact h3
          · have h5 := hP.2
            have hbne : b ≠ bl := by have := hblt.2; omega
            exact ⟨hk3 b hbne, ⟨by omega, fun hh => by have := HS.out b hh; omega, by omega⟩, hbne⟩
      have HOb3 := Lib.hid hob3
      have HBel3 := Lib.hid hbel3
      have HRh := Lib.hid hrh
      have hz13 := hbel3.size
      have hlies3 : W3.rangeAt bl (q * 8) (trv ⟨⟨x.u.r, x.u.ns ++ [n], x.u.since⟩, .slice Ab nl1 cb⟩) := by
        have h1 : Lies W3 bl 0 ((L1.set q ⟨⟨x.u.r, x.u.ns ++ [n], x.u.since⟩, .slice Ab nl1 cb⟩).flatMap trv) := by
          obtain ⟨_, A', c', e0, _, _, h5⟩ := Rd.of_own hob3
          injection e0 with e1 _ _
          subst e1
          obtain ⟨b_, o_, e2, _, h6⟩ := h5 (by omega)
          injection e2 with e2
          injection e2 with e3 e4
          subst e3 e4
          exact h6
        have h2 := trv_range (k := q) h1 (by rw [List.length_set, HN1.out]; exact hqL)
        rw [List.getElem_set_self, Nat.zero_add] at h2
        exact h2
      have y6 := later_cell (w := W3) (show W3.cell? ⟨bl, q * 8 + 6, none⟩ = some (.slice Ab nl1 cb) from hlies3 6 _ rfl)
      have y0 := later_cell (w := W3) (show W3.cell? ⟨h, 0, none⟩ = some (.int .i64 f) from row_c hrh 0 rfl)
      have hy7 : W3.cell? ⟨bl, q * 8 + 7, none⟩ = some (.int .i64 x.u.since) := hlies3 7 _ rfl
      have HY7 := Lib.hid hy7
      have HWk : Hid (∀ p : Later W3, Calls Try.prog 41 #[.int .i64 f] p.W fun e w' => e = .returned (.int .i64 (Psp.weak f)) ∧ p.W = w') := Lib.hid fun p => r_weak_any f p.W
      obtain ⟨nw, hnw⟩ : ∃ nw, Psp.weak f = nw := ⟨_, rfl⟩
      rw [hnw] at HWk
      have HNw := Lib.hid hnw
      have htn : Hid ((((x.u.ns ++ [n]).length : Nat) : Int) = (nl1 : Int)) := Lib.hid (by rw [List.length_append, HNl.out, ← HNl1.out]; rfl)
      have HBw3 : Hid (Below w.heap.size w W3) := Lib.hid (Below.then HB2.out HBel3.out HB2.out.size)
      clear hob3 hbel3 hrh hlies3 hy7 hnw hk3
      obtain ⟨bw, hbw⟩ : ∃ bw, ((nl1 : Int) == nw) = bw := ⟨_, rfl⟩
      have HBw := Lib.hid hbw
      refine wp_region_later (by kernel_rfl) (by kernel_rfl) ?_
      repeat ((with_reducible show wpQuiet _ _ _ _ _ _); first | ((with_reducible refine wpQuiet_bare ?_ ?_); (· rfl)) | (with_reducible refine wpQuiet_nil ?_) | go_big_quiet_step ((go_at_call 41; exact later_same _ (HWk.out _))) | quiet_step ((go_at_call 41; exact later_same _ (HWk.out _))))
      intro w3 hw'
      have hb3 := later_out hw'
      clear hw' y6 y0 HWk
      have Hb3 := Lib.hid hb3
      have hz3 := hb3.size
      clear hb3 hbw
      have HO3 := Lib.hid (own_below HOb3.out Hb3.out)
      have HR3h := Lib.hid ((Hb3.out.block h (by omega)).trans HRh.out)
      have HBt := Lib.hid (Below.then HBw3.out Hb3.out HBw3.out.size)
      have hch : w3.cell? ⟨h, 2, none⟩ = some (.slice A len c) := row_c HR3h.out 2 rfl
      have hfh := frozen_of_row w3 h 2 _ _ HR3h.out
      cases bw with
      | false =>
        have hne : ¬ (nl1 : Int) = nw := by have := HBw.out; simpa using this
        have Hne := Lib.hid hne
        clear hne
        go_wp2_with fail
        go_ret3
        have hput := Rtc.put (L' := L1.set q ⟨⟨x.u.r, x.u.ns ++ [n], x.u.since⟩, .slice Ab nl1 cb⟩) HH.out HBt.out HS.out (by rw [List.length_set, HN1.out]; exact own_more HO3.out (by omega)) fun y hy => ((hns3.out _ y hy).below Hb3.out).mono fun b hb hP => ⟨hb, hP.1.2⟩
        have htl : Psp.tellR f x.u n clock = (⟨x.u.r, x.u.ns ++ [n], x.u.since⟩, false) := by unfold Psp.tellR; rw [if_neg Hin.out, if_neg (by rw [htn.out, HNw.out]; exact Hne.out)]
        rw [HP.out, htl]
        refine ⟨rfl, ?_, hput.2⟩
        obtain ⟨A', c', h_⟩ := hput.1
        exact ⟨A', c', _, by unfold usOf; rw [List.map_set], h_⟩
      | true =>
        have heq : (nl1 : Int) = nw := by have := HBw.out; simpa using this
        have Heq := Lib.hid heq
        clear heq
        have hc7 : w3.cell? ⟨bl, q * 8 + 7, none⟩ = some (.int .i64 x.u.since) := (Hb3.out.cell (p := ⟨bl, q * 8 + 7, none⟩) (by show bl < W3.heap.size; have := hblt.2; omega)).trans HY7.out
        obtain ⟨cur3, hrow3⟩ := own_row HO3.out
        have hfz7 := frozen_of_row w3 bl (q * 8 + 7) _ _ hrow3
        clear hrow3
        clear hch hfh
        go_upto_region 25 with fail
        clear hc7 hfz7
        obtain ⟨W4, hW4⟩ : ∃ W_, w3.setCell ⟨bl, q * 8 + 7, none⟩ (.int .i64 clock) = W_ := ⟨_, rfl⟩
        rw [hW4]
        have hob4 := own_put (x' := ⟨⟨x.u.r, x.u.ns ++ [n], clock⟩, .slice Ab nl1 cb⟩) HO3.out (show (L1.set q ⟨⟨x.u.r, x.u.ns ++ [n], x.u.since⟩, .slice Ab nl1 cb⟩)[q]? = some ⟨⟨x.u.r, x.u.ns ++ [n], x.u.since⟩, .slice Ab nl1 cb⟩ by rw [List.getElem?_set_self (by rw [HN1.out]; exact hqL)]) (j := 7) (by omega) (u := .int .i64 clock) rfl
        rw [List.set_set] at hob4
        have hbel4 : Below w.heap.size w (w3.setCell ⟨bl, q * 8 + 7, none⟩ (.int .i64 clock)) := bel_set HBt.out (by have := hblt.1; omega)
        have hk4 : ∀ b, b ≠ bl → W4.heap[b]? = w3.heap[b]? := fun b hb => by rw [← hW4]; exact Below.heap_setCell w3 ⟨bl, q * 8 + 7, none⟩ _ b hb
        have hs4 : W4.heap.size = w3.heap.size := by rw [← hW4]; simp
        have hs4' : w3.heap.size ≤ W4.heap.size ∧ W4.heap.size ≤ w3.heap.size := by omega
        rw [hW4] at hob4 hbel4
        clear hW4 hs4
        have HO4 := Lib.hid hob4
        have HB4 := Lib.hid hbel4
        have HR4 := Lib.hid ((hk4 h (by have := hblt.1; omega)).trans HR3h.out)
        have hch4 : W4.cell? ⟨h, 2, none⟩ = some (.slice A len c) := row_c HR4.out 2 rfl
        have hfh4 := frozen_of_row W4 h 2 _ _ HR4.out
        have HK4 := Lib.hid hk4
        clear hob4 hbel4 hk4
        go_wp2_with fail
        go_ret3
        have hput := Rtc.put (L' := L1.set q ⟨⟨x.u.r, x.u.ns ++ [n], clock⟩, .slice Ab nl1 cb⟩) HH.out HB4.out HS.out (by rw [List.length_set, HN1.out]; exact own_more HO4.out (by omega)) fun y hy => ((hns3.out _ y hy).below Hb3.out).keeps ⟨by omega, fun b hP hlt => ⟨HK4.out b hP.2, ⟨by omega, hP.1.2⟩⟩⟩
        have htl : Psp.tellR f x.u n clock = (⟨x.u.r, x.u.ns ++ [n], clock⟩, true) := by unfold Psp.tellR; rw [if_neg Hin.out, if_pos (by rw [htn.out, HNw.out]; exact Heq.out)]
        rw [HP.out, htl]
        refine ⟨rfl, ?_, hput.2⟩
        obtain ⟨A', c', h_⟩ := hput.1
        exact ⟨A', c', _, by unfold usOf; rw [List.map_set], h_⟩
set_option maxRecDepth 100000 in
set_option maxHeartbeats 4000000 in
theorem rput_bad (r : Psp.Req) (n clock : Int) (S : Nat → Prop) (h : Nat) (f cl : Int) (A : Option Addr) (c : Nat) (L : List TRV) (w : World) (H : Rtc w (Off w S h) h f cl A c L) (hbad : ¬ Psp.putOk f cl r n) :
    Calls Try.prog 31 #[.pointer (some ⟨h, 0, none⟩), .agg #[.int .i64 r.c, .int .i64 r.t, .int .i64 r.k, .int .i64 r.y, .int .i64 r.v, .int .i64 r.s], .int .i64 n, .int .i64 clock] w fun e w' => e = .returned (.tuple #[.bool false, .bool false, .int .i64 1]) ∧ Below w.heap.size w w' := by
  have hlt := H.lt
  have hc0 : w.cell? ⟨h, 0, none⟩ = some (.int .i64 f) := row_c H.row 0 rfl
  have hcl : w.cell? ⟨h, 1, none⟩ = some (.int .i64 cl) := row_c H.row 1 rfl
  clear H
  have hn := Psp.nodes_bd f
  by_cases h1 : r.c < 0
  case' pos =>
    have d1 : decide (r.c < 0) = true := decide_eq_true h1
  case' neg =>
    have d1 : decide (r.c < 0) = false := decide_eq_false h1
    by_cases h2 : cl ≤ r.c
    case' pos =>
      have d2 : decide (cl ≤ r.c) = true := decide_eq_true h2
    case' neg =>
      have d2 : decide (cl ≤ r.c) = false := decide_eq_false h2
      by_cases h3 : n < 0
      case' pos =>
        have d3 : decide (n < 0) = true := decide_eq_true h3
      case' neg =>
        have d3 : decide (n < 0) = false := decide_eq_false h3
        have h4 : Psp.nodes f ≤ n := by
          rcases Int.lt_or_le n (Psp.nodes f) with h | h
          · exact absurd ⟨by omega, by omega, by omega, h⟩ hbad
          · exact h
        have d4 : decide (Psp.nodes f ≤ n) = true := decide_eq_true h4
  all_goals
    clear hbad
    go_enter Try.func31, Try.ntmps31
    go_wp2_with fail
    go_quiet ((go_at_call 11; exact Calls.quiet_of_same ((r_nodes_any _ _).mono fun _ _ h => ⟨h.1, h.2.symm⟩)))
    go_wp2_with fail
    go_ret3
    exact ⟨rfl, below_drewN ((Below.refl _ _).alloc (Nat.le_refl _) _) _⟩
theorem rput_m (r : Psp.Req) (n clock : Int) (S : Nat → Prop) (h : Nat) (f cl : Int) (A : Option Addr) (c : Nat) (L : List TRV) (w : World) (H : Rtc w (Off w S h) h f cl A c L) (hw : Psp.Wm f (usOf L)) (hf : 1 ≤ f ∧ f ≤ 4) (hl0 : L.length ≤ 100000) (hS : ∀ b, S b → b < w.heap.size) :
    Calls Try.prog 31 #[.pointer (some ⟨h, 0, none⟩), .agg #[.int .i64 r.c, .int .i64 r.t, .int .i64 r.k, .int .i64 r.y, .int .i64 r.v, .int .i64 r.s], .int .i64 n, .int .i64 clock] w fun e w' => e = .returned (.tuple #[.bool (Psp.putM f cl (usOf L) r n clock).1.1, .bool (Psp.putM f cl (usOf L) r n clock).1.2.1, .int .i64 (Psp.putM f cl (usOf L) r n clock).1.2.2]) ∧ (∃ A' c' L', usOf L' = (Psp.putM f cl (usOf L) r n clock).2 ∧ Rtc w' (Off w' S h) h f cl A' c' L') ∧ Fp (fun b => b = h) w w' := by
  by_cases hok : Psp.putOk f cl r n
  · exact rput_ok r n clock S h f cl A c L w H hw hok hf hl0 hS
  · refine (rput_bad r n clock S h f cl A c L w H hok).mono ?_
    rintro e w' ⟨rfl, hb⟩
    have hP : Psp.putM f cl (usOf L) r n clock = ((false, false, 1), usOf L) := by unfold Psp.putM; exact if_neg hok
    rw [hP]
    exact ⟨rfl, ⟨A, c, L, rfl, (H.below hb).off hb⟩, Fp.of_below hb _⟩
end Go.Proofs.Ytmbdailffhdonaa
