/- The document's table gets another list; Drop. Printed by gen_rft3.py. -/
import Derived.Test.YtmbdailffhdonaaRfu
import Derived.Test.YtmbdailffhdonaaRcq
namespace Go.Proofs.Ytmbdailffhdonaa
open Go.RowKit
set_option linter.unusedVariables false
set_option linter.unusedSimpArgs false

theorem rtE : Elem Try.prog 55 72 8 80 := ⟨Try.underlying55, by kernel_rfl, by decide⟩
theorem rt_zero (x : TRV) : (Try.prog.info? 72).map (fun i => (i.zero.map (·.cells.size), i.size)) = some (some (trv x).length, (trv x).length) := by
  show _ = some (some 8, 8)
  kernel_rfl
theorem rt_size (x : TRV) : (Try.prog.info? 72).map (·.size) = some (trv x).length := by
  show _ = some 8
  kernel_rfl
theorem rt_one {x : TRV} (h : x.v.oneCell' = true) : ∀ v ∈ trv x, v.oneCell' = true := by
  intro v hv
  simp only [trv, iv, List.mem_cons, List.not_mem_nil, or_false] at hv
  rcases hv with h1 | h1 | h1 | h1 | h1 | h1 | h1 | h1 <;> subst h1 <;> first | rfl | exact h
theorem rts_one {w : World} {P : Nat → Prop} {v : Value} {L : List TRV} (h : RdT w P v L) : ∀ u ∈ L.flatMap trv, u.oneCell' = true := by
  intro u hu
  obtain ⟨x, hx, h1⟩ := List.mem_flatMap.1 hu
  exact rt_one (h.ns x hx).one u h1
theorem flat_takeg {α : Type} {f : α → List Value} {n : Nat} (hf : ∀ a, (f a).length = n) (l : List α) (k : Nat) : (l.flatMap f).take (k * n) = (l.take k).flatMap f := by
  induction l generalizing k with
  | nil => simp
  | cons t l ih =>
    cases k with
    | zero => simp
    | succ k =>
      have e : (k + 1) * n = n + k * n := by rw [Nat.succ_mul]; omega
      rw [List.flatMap_cons, List.take_succ_cons, List.flatMap_cons, List.take_append, hf, ← ih k, List.take_of_length_le (by rw [hf]; omega), e, Nat.add_sub_cancel_left]
theorem flat_dropg {α : Type} {f : α → List Value} {n : Nat} (hf : ∀ a, (f a).length = n) (l : List α) (k : Nat) : (l.flatMap f).drop (k * n) = (l.drop k).flatMap f := by
  induction l generalizing k with
  | nil => simp
  | cons t l ih =>
    cases k with
    | zero => simp
    | succ k =>
      have e : (k + 1) * n = n + k * n := by rw [Nat.succ_mul]; omega
      rw [List.flatMap_cons, List.drop_succ_cons, List.drop_append, hf, ← ih k, List.drop_of_length_le (by rw [hf]; omega), List.nil_append, e, Nat.add_sub_cancel_left]
theorem set_trv (l : List TRV) (k j : Nat) (t t' : TRV) (u : Value) (hk : l[k]? = some t) (hj : j < 8) (h : (trv t).set j u = trv t') : (l.flatMap trv).set (k * 8 + j) u = (l.set k t').flatMap trv := by
  induction l generalizing k with
  | nil => simp at hk
  | cons a l ih =>
    cases k with
    | zero =>
      simp at hk; subst hk
      rw [Nat.zero_mul, Nat.zero_add, List.set_cons_zero, List.flatMap_cons, List.flatMap_cons, List.set_append_left _ _ (by rw [trv_len]; exact hj), h]
    | succ k =>
      rw [List.set_cons_succ, List.flatMap_cons, List.flatMap_cons, List.set_append_right _ _ (by rw [trv_len]; omega), trv_len, ← ih k (by simpa using hk)]
      congr 2
      omega
/-- The table's list is another one, that was made of late. -/
theorem Rtc.put {w W : World} {S : Nat → Prop} {h : Nat} {f cl : Int} {A : Option Addr} {c : Nat} {L L' : List TRV} {v : Value} (H : Rtc w (Off w S h) h f cl A c L) (hb : Below w.heap.size w W) (hS : ∀ b, S b → b < w.heap.size)
    (hown : W.ownsRow w.heap.size 72 8 v L'.length (L'.flatMap trv)) (hns : ∀ x ∈ L', RdP W (Off W S h) 1 x.v x.u.ns.length (x.u.ns.map iv)) :
    (∃ A' c', Rtc (W.setCell ⟨h, 2, none⟩ v) (Off (W.setCell ⟨h, 2, none⟩ v) S h) h f cl A' c' L') ∧ Fp (fun b => b = h) w (W.setCell ⟨h, 2, none⟩ v) := by
  have hlt := H.lt
  obtain ⟨A', c', rfl, _, _, _⟩ := own_slice hown
  have hs : (W.setCell ⟨h, 2, none⟩ (.slice A' L'.length c')).heap.size = W.heap.size := by simp
  have hk : Keeps (Off W S h) (Off (W.setCell ⟨h, 2, none⟩ (.slice A' L'.length c')) S h) W (W.setCell ⟨h, 2, none⟩ (.slice A' L'.length c')) :=
    ⟨by omega, fun b hb hlt => ⟨Below.heap_setCell W ⟨h, 2, none⟩ _ b hb.2.2, ⟨by rw [hs]; exact hb.1, hb.2⟩⟩⟩
  have hz := hb.size
  refine ⟨⟨A', c', ⟨?_, ⟨?_, fun x hx => (hns x hx).keeps hk⟩⟩⟩, ?_⟩
  · rw [heap_setCell_same W h 2 _ _ _ ((hb.block h hlt).trans H.row)]
    rfl
  · exact ((RdP.of_own hown).mono fun b hb' hP => ⟨hb', fun hh => by have := hS b hh; omega, by omega⟩).keeps hk
  · exact (Fp.of_below hb (fun b => b = h)).setCell (p := ⟨h, 2, none⟩) (Or.inl rfl) _
def kpv (cc tm : Int) (x : TRV) : Bool := Psp.keepsR cc tm x.u
def dropV (cc tm : Int) (L : List TRV) : List TRV := L.filter (kpv cc tm)
theorem us_drop (cc tm : Int) (L : List TRV) : usOf (dropV cc tm L) = Psp.dropM cc tm (usOf L) := by
  unfold usOf dropV Psp.dropM
  rw [List.filter_map]; rfl
theorem dropV_len (cc tm : Int) (L : List TRV) : (dropV cc tm L).length ≤ L.length := List.length_filter_le _ _
theorem dropV_step (cc tm : Int) (L : List TRV) {k : Nat} (hk : k < L.length) : dropV cc tm (L.take (k + 1)) = dropV cc tm (L.take k) ++ (if kpv cc tm L[k] = true then [L[k]] else []) := by
  unfold dropV
  rw [List.take_succ_eq_append_getElem hk, List.filter_append]
  congr 1
  cases h : kpv cc tm L[k] <;> simp [h]
set_option maxRecDepth 100000 in
set_option maxHeartbeats 8000000 in
theorem rdrop_m (cc tm : Int) (S : Nat → Prop) (h : Nat) (f cl : Int) (A : Option Addr) (c : Nat) (L : List TRV) (w : World) (H : Rtc w (Off w S h) h f cl A c L) (hl0 : L.length ≤ 100000) (hS : ∀ b, S b → b < w.heap.size) :
    Calls Try.prog 33 #[.pointer (some ⟨h, 0, none⟩), .int .i64 cc, .int .i64 tm] w fun e w' => e = .returned (.int .i64 (L.length - (dropV cc tm L).length : Nat)) ∧ (∃ A' c', Rtc w' (Off w' S h) h f cl A' c' (dropV cc tm L)) ∧ Fp (fun b => b = h) w w' := by
  have hlt := H.lt
  obtain ⟨hl, A', c', e0, hc1, hc2, hx⟩ := H.rd.rd.parts
  injection e0 with e1 e2 e3
  subst e1 e3
  obtain ⟨len, hlen⟩ : ∃ len, L.length = len := ⟨_, rfl⟩
  have hrow := H.row
  rw [hlen] at hc1 hx hrow hl0 ⊢
  have Hlen := Lib.hid hlen
  have Hx := Lib.hid hx
  have HH := Lib.hid H
  have HS := Lib.hid hS
  have HR := Lib.hid hrow
  clear hl hx hlen H e2 hrow hS
  have hst : Hid (w.ownsRow w.heap.size 72 8 (.slice none 0 0) (dropV cc tm (L.take 0)).length ((dropV cc tm (L.take 0)).flatMap trv)) := Lib.hid (World.ownsRow_nil _ _ _ _)
  go_enter Try.func33, Try.ntmps33
  go_upto_region 3 with fail
  go_loopw [7, 8] (fun out i wr => ∃ k : Nat, i = .int .i64 (k : Int) ∧ k ≤ len ∧ Hid (wr.ownsRow w.heap.size 72 8 out (dropV cc tm (L.take k)).length ((dropV cc tm (L.take k)).flatMap trv)) ∧ Hid (Below w.heap.size w wr)) (fun _ i _ => len - (intOf i).toNat)
  case atStart => exact ⟨0, rfl, by omega, hst, Lib.hid (Below.refl _ _)⟩
  case round =>
    clear hst
    obtain ⟨k, rfl, hk, Hown, Hbel⟩ := hrel
    have hsz := Hbel.out.size
    have cv : wr.cell? ⟨h, 2, none⟩ = some (.slice A len c) := row_c ((Hbel.out.block h hlt).trans HR.out) 2 rfl
    by_cases hkn : k < len
    case neg =>
      have hd1 : decide ((k : Int) < (len : Int)) = false := by simp; omega
      have hle : dropV cc tm (L.take k) = dropV cc tm L := by rw [List.take_of_length_le (by have := Hlen.out; omega)]
      rw [hle] at Hown
      have hol := dropV_len cc tm L
      rw [Hlen.out] at hol
      obtain ⟨Ad, cd, rfl, hcd1, hcd2, _⟩ := own_slice Hown.out
      obtain ⟨m, hm⟩ : ∃ m, (dropV cc tm L).length = m := ⟨_, rfl⟩
      have Hm := Lib.hid hm
      rw [hm] at hol hcd1 ⊢
      have hfz : wr.frozen? ⟨h, 2, none⟩ = false := frozen_of_row wr h 2 _ _ ((Hbel.out.block h hlt).trans HR.out)
      clear hm hle
      go_wp2_with fail
      go_ret
      have hput := Rtc.put (L' := dropV cc tm L) HH.out Hbel.out HS.out Hown.out fun x hx => ((HH.out.rd.ns x (List.mem_filter.1 hx).1).below Hbel.out).mono fun b hb hP => ⟨hb, hP.2⟩
      rw [Hm.out] at hput
      exact ⟨ret_int (by have := Hm.out; omega), hput.1, hput.2⟩
    case pos =>
      have hd1 : decide ((k : Int) < (len : Int)) = true := by simp; omega
      obtain ⟨b, o, hAe, hPb, hb, hlies⟩ := Hx.out (by omega)
      subst hAe
      have hkl : k < L.length := by have := Hlen.out; omega
      obtain ⟨x, hxe⟩ : ∃ x, L[k] = x := ⟨_, rfl⟩
      have hrg := range_keep (trv_range hlies hkl) (Hbel.out.block b hb)
      have hstp := dropV_step cc tm L hkl
      rw [hxe] at hrg hstp
      have hx1 : x.v.oneCell' = true := (HH.out.rd.ns x (by rw [← hxe]; exact List.getElem_mem hkl)).one
      have hdl : (dropV cc tm (L.take k)).length ≤ 100000 := by have := dropV_len cc tm (L.take k); rw [List.length_take] at this; omega
      have c0 : wr.cell? ⟨b, o + k * 8, none⟩ = some (.int .i64 x.u.r.c) := hrg 0 _ rfl
      have c1 : wr.cell? ⟨b, o + k * 8 + 1, none⟩ = some (.int .i64 x.u.r.t) := hrg 1 _ rfl
      have Hrg := Lib.hid hrg
      have Hx1 := Lib.hid hx1
      have k0 : (0 : Int) ≤ (k : Int) := by omega
      have k1 : (k : Int) < (len : Int) := by omega
      clear hlies hxe hrg hx1
      obtain ⟨kp, hkp⟩ : ∃ kp, kpv cc tm x = kp := ⟨_, rfl⟩
      rw [hkp] at hstp
      have Hstp := Lib.hid hstp
      have Hkp := Lib.hid hkp
      clear hstp hkp
      by_cases h1 : x.u.r.c = cc
      case' neg =>
        have d1 : (x.u.r.c != cc) = true := by simpa using h1
        have hk_ : kp = true := by rw [← Hkp.out]; unfold kpv Psp.keepsR; rw [decide_eq_true (by simpa using h1), Bool.true_or]
      case' pos =>
        have d1 : (x.u.r.c != cc) = false := by simpa using h1
        by_cases h2 : x.u.r.t > tm
        case' pos =>
          have d2 : decide (tm < x.u.r.t) = true := decide_eq_true h2
          have hk_ : kp = true := by rw [← Hkp.out]; unfold kpv Psp.keepsR; rw [decide_eq_true h2, Bool.or_true]
        case' neg =>
          have d2 : decide (tm < x.u.r.t) = false := decide_eq_false h2
          have hk_ : kp = false := by rw [← Hkp.out]; unfold kpv Psp.keepsR; rw [decide_eq_false h2, decide_eq_false (by simpa using h1)]; rfl
      all_goals
        subst hk_
        clear h1
        try clear h2
        go_wp2_with (first | (refine list_load rfl 72 (.tmp 49) rfl b (o + k * 8) rfl (trv x) _ Hrg.out Try.underlying72 rfl (rt_size x) ?_) | (refine list_build1 rfl _ (.tmp 50) rfl 72 (trv x) rfl Try.underlying55 (rt_zero x) (by rw [trv_len]; omega) (by rw [trv_len]; omega) ?_) | (at_builtin; refine wpList_app1 rtE rfl _ _ rfl w.heap.size _ _ _ rfl Hown.out (trv x).toArray rfl (trv_len x) (rt_one Hx1.out) (by omega) (by decide) (by omega) ?_; intro v' w' hown' hg' hbel' _))
        go_roundw
        case measure => simp [intOf]; omega
        case rel =>
          first
            | exact ⟨k + 1, by go_num, by omega, Lib.hid (by rw [Hstp.out, if_pos rfl, List.length_append, List.flatMap_append]; simpa using hown'), Lib.hid (Hbel.out.trans hbel')⟩
            | exact ⟨k + 1, by go_num, by omega, Lib.hid (by rw [Hstp.out, if_neg (by decide), List.append_nil]; exact Hown.out), Hbel⟩
end Go.Proofs.Ytmbdailffhdonaa
