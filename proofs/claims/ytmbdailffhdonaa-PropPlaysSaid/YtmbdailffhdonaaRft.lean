/- The document's table in memory; has, Find, Has, Ready. Printed by gen_rft.py. -/
import Derived.Test.YtmbdailffhdonaaTwp
import Derived.Test.YtmbdailffhdonaaRdp
import Derived.Test.YtmbdailffhdonaaQb
import Derived.Test.YtmbdailffhdonaaPhS
namespace Go.Proofs.Ytmbdailffhdonaa
open Go.RowKit
set_option linter.unusedVariables false
set_option linter.unusedSimpArgs false

/-- What stands in the document's table, and the value of its nodes. -/
structure TRV where
  u : Psp.TR
  v : Value
def trv (x : TRV) : List Value := [iv x.u.r.c, iv x.u.r.t, iv x.u.r.k, iv x.u.r.y, iv x.u.r.v, iv x.u.r.s, x.v, iv x.u.since]
def usOf (L : List TRV) : List Psp.TR := L.map (·.u)
theorem trv_len (x : TRV) : (trv x).length = 8 := rfl
theorem flat_trv (L : List TRV) : (L.flatMap trv).length = L.length * 8 := flat_len trv_len L
/-- A slice that reads as such a list, and its rows of nodes. -/
structure RdT (w : World) (P : Nat → Prop) (v : Value) (L : List TRV) : Prop where
  rd : RdP w P 8 v L.length (L.flatMap trv)
  ns : ∀ x ∈ L, RdP w P 1 x.v x.u.ns.length (x.u.ns.map iv)
theorem RdT.keep {w w' : World} {P P' : Nat → Prop} {v : Value} {L : List TRV} (h : RdT w P v L) (g : Keeps P P' w w') : RdT w' P' v L := ⟨h.rd.keeps g, fun x hx => (h.ns x hx).keeps g⟩
theorem RdT.below {w w' : World} {P : Nat → Prop} {v : Value} {L : List TRV} (h : RdT w P v L) (g : Below w.heap.size w w') : RdT w' P v L := h.keep (Keeps.below g)
theorem RdT.mono {w : World} {P P' : Nat → Prop} {v : Value} {L : List TRV} (h : RdT w P v L) (hP : ∀ b, b < w.heap.size → P b → P' b) : RdT w P' v L := h.keep (Keeps.mono hP)
theorem trv_range {w : World} {b o : Nat} {L : List TRV} (h : Lies w b o (L.flatMap trv)) {k : Nat} (hk : k < L.length) : w.rangeAt b (o + k * 8) (trv L[k]) := by
  intro j v hv
  have hj : j < 8 := (List.getElem?_eq_some_iff.1 hv).1
  have h1 := flat_get (f := trv) (k := 8) (fun _ => rfl) L k j hj
  rw [List.getElem?_eq_getElem hk] at h1
  rw [Nat.add_assoc]
  exact h _ v (by rw [h1]; exact hv)
theorem trv_req {w : World} {b o : Nat} {x : TRV} (h : w.rangeAt b o (trv x)) : w.rangeAt b o (rq x.u.r) := fun j v hv => h j v (by
  have hj : j < 6 := (List.getElem?_eq_some_iff.1 hv).1
  rw [← hv]
  match j, hj with
  | 0, _ => rfl
  | 1, _ => rfl
  | 2, _ => rfl
  | 3, _ => rfl
  | 4, _ => rfl
  | 5, _ => rfl)
/-- The table itself: block h; its rows lie in blocks of P. -/
structure Rtc (w : World) (P : Nat → Prop) (h : Nat) (f cl : Int) (A : Option Addr) (c : Nat) (L : List TRV) : Prop where
  row : w.heap[h]? = some (.cells #[.int .i64 f, .int .i64 cl, .slice A L.length c] 57 (0, 0))
  rd : RdT w P (.slice A L.length c) L
theorem Rtc.lt {w : World} {P : Nat → Prop} {h : Nat} {f cl : Int} {A : Option Addr} {c : Nat} {L : List TRV} (H : Rtc w P h f cl A c L) : h < w.heap.size := (Array.getElem?_eq_some_iff.1 H.row).1
theorem Rtc.below {w w' : World} {P : Nat → Prop} {h : Nat} {f cl : Int} {A : Option Addr} {c : Nat} {L : List TRV} (H : Rtc w P h f cl A c L) (g : Below w.heap.size w w') : Rtc w' P h f cl A c L := ⟨(g.block h H.lt).trans H.row, H.rd.below g⟩
theorem row_c {W : World} {b : Nat} {cs : Array Value} {T : TypeId} (h : W.heap[b]? = some (.cells cs T (0, 0))) (j : Nat) {v : Value} (hv : cs[j]? = some v) : W.cell? ⟨b, j, none⟩ = some v := by rw [cell_of_row _ _ j _ _ _ h]; exact hv
theorem alloc_below (w : World) (o : Obj) : Below w.heap.size w (w.alloc o) := (Below.refl _ _).alloc (Nat.le_refl _) _
theorem range_of_row {W : World} {b : Nat} {cs : Array Value} {T : TypeId} (h : W.heap[b]? = some (.cells cs T (0, 0))) : W.rangeAt b 0 cs.toList := fun j v hv => by
  rw [Nat.zero_add]
  exact row_c h j (by simpa using hv)
theorem Below.then {B : Nat} {w w' w'' : World} (h : Below B w w') (g : Below w'.heap.size w' w'') (hB : B ≤ w'.heap.size) : Below B w w'' := h.trans (g.mono hB)
theorem size_rq : (Try.prog.info? 25).map (·.size) = some 6 := by kernel_rfl
set_option maxRecDepth 100000 in
set_option maxHeartbeats 4000000 in
theorem rhas_ints (ns : List Int) (n : Int) (v : Value) (w : World) (P : Nat → Prop) (hr : RdP w P 1 v ns.length (ns.map iv)) :
    Calls Try.prog 40 #[v, .int .i64 n] w fun e w' => e = .returned (.bool (decide (n ∈ ns))) ∧ w' = w := by
  obtain ⟨hl, A, c, rfl, hc1, hc2, hx⟩ := hr.parts
  obtain ⟨len, hlen⟩ : ∃ len, ns.length = len := ⟨_, rfl⟩
  rw [hlen] at hc1 hx ⊢
  have Hlen := Lib.hid hlen
  have Hx := Lib.hid hx
  clear hl hx hlen hr
  go_enter Try.func40, Try.ntmps40
  go_wp2_with fail
  go_loopw [5] (fun i wr => ∃ k : Nat, i = .int .i64 (k : Int) ∧ k ≤ len ∧ wr = w ∧ Hid (n ∉ ns.take k)) (fun i _ => len - (intOf i).toNat)
  case atStart => exact ⟨0, rfl, Nat.zero_le _, rfl, Lib.hid (by simp)⟩
  case round =>
    obtain ⟨k, rfl, hk, rfl, HN⟩ := hrel
    by_cases hlt : k < len
    case neg =>
      have hd1 : decide ((k : Int) < (len : Int)) = false := by simp; omega
      go_wp2_with fail
      go_ret
      refine ⟨?_, rfl⟩
      have h1 := HN.out
      rw [List.take_of_length_le (by have := Hlen.out; omega)] at h1
      rw [decide_eq_false h1]; rfl
    case pos =>
      obtain ⟨b, o, rfl, _, hb, hlies⟩ := Hx.out (by omega)
      have hkl : k < ns.length := by have := Hlen.out; omega
      have hcy := hlies.at_ (j := k) (by simpa using hkl)
      obtain ⟨y, hy⟩ : ∃ y, ns[k] = y := ⟨_, rfl⟩
      simp only [List.getElem_map, hy, iv] at hcy
      have HY := Lib.hid hy
      have k0 : (0 : Int) ≤ (k : Int) := by omega
      have k1 : (k : Int) < (len : Int) := by omega
      have hd1 : decide ((k : Int) < (len : Int)) = true := by simp; omega
      clear hlies hy
      by_cases he : y = n
      case pos =>
        have hd2 : (y == n) = true := by rw [he]; simp
        have He := Lib.hid he
        clear he
        go_wp2_with fail
        go_ret
        refine ⟨?_, rfl⟩
        rw [decide_eq_true (by rw [← He.out, ← HY.out]; exact List.getElem_mem hkl)]; rfl
      case neg =>
        have hd2 : (y == n) = false := by simp [he]
        have HN2 : Hid (n ∉ ns.take (k + 1)) := Lib.hid (by
          rw [List.take_succ_eq_append_getElem hkl, List.mem_append, List.mem_singleton]
          rintro (h1 | h1)
          · exact HN.out h1
          · exact he (by rw [← HY.out, h1]))
        go_wp2_with fail
        go_roundw
        case rel => exact ⟨k + 1, by go_num, by omega, by trivial, HN2⟩
        case measure => simp [intOf]; omega
set_option maxRecDepth 100000 in
set_option maxHeartbeats 4000000 in
theorem rfind_m (r : Psp.Req) (P : Nat → Prop) (h : Nat) (f cl : Int) (A : Option Addr) (c : Nat) (L : List TRV) (w : World) (H : Rtc w P h f cl A c L) (hs : (Psp.rsOf (usOf L)).Pairwise (fun a b => Psp.cmpR a b < 0)) :
    Calls Try.prog 38 #[.pointer (some ⟨h, 0, none⟩), .agg #[.int .i64 r.c, .int .i64 r.t, .int .i64 r.k, .int .i64 r.y, .int .i64 r.v, .int .i64 r.s]] w fun e w' => e = .returned (.int .i64 (if Psp.isR (usOf L) r = true then (Psp.posR (Psp.rsOf (usOf L)) r : Int) else -1)) ∧ Below w.heap.size w w' := by
  have hlt := H.lt
  have hrs : (Psp.rsOf (usOf L)).length = L.length := by simp [Psp.rsOf, usOf]
  have hget : ∀ k (hk : k < L.length) (hk' : k < (Psp.rsOf (usOf L)).length), (Psp.rsOf (usOf L))[k] = L[k].u.r := fun k hk hk' => by simp [Psp.rsOf, usOf]
  obtain ⟨hl, A', c', e0, hc1, hc2, hx⟩ := H.rd.rd.parts
  injection e0 with e1 e2 e3
  subst e1 e3
  obtain ⟨len, hlen⟩ : ∃ len, L.length = len := ⟨_, rfl⟩
  have hrow := H.row
  rw [hlen] at hc1 hx hrow
  have Hlen := Lib.hid hlen
  have Hx := Lib.hid hx
  have Hs := Lib.hid hs
  have Hget := Lib.hid hget
  have Hrs := Lib.hid hrs
  have hba := alloc_below w (.cells #[.int .i64 r.c, .int .i64 r.t, .int .i64 r.k, .int .i64 r.y, .int .i64 r.v, .int .i64 r.s] 25)
  have hra := heap_alloc_new w (.cells #[.int .i64 r.c, .int .i64 r.t, .int .i64 r.k, .int .i64 r.y, .int .i64 r.v, .int .i64 r.s] 25)
  have hcv : (w.alloc (.cells #[.int .i64 r.c, .int .i64 r.t, .int .i64 r.k, .int .i64 r.y, .int .i64 r.v, .int .i64 r.s] 25)).cell? ⟨h, 2, none⟩ = some (.slice A len c) := row_c ((hba.block h hlt).trans hrow) 2 rfl
  have HB := Lib.hid hba
  have HR := Lib.hid hra
  have hsz : (w.alloc (.cells #[.int .i64 r.c, .int .i64 r.t, .int .i64 r.k, .int .i64 r.y, .int .i64 r.v, .int .i64 r.s] 25)).heap.size = w.heap.size + 1 := by simp
  obtain ⟨res, hres⟩ : ∃ res : Int, (if Psp.isR (usOf L) r = true then (Psp.posR (Psp.rsOf (usOf L)) r : Int) else -1) = res := ⟨_, rfl⟩
  rw [hres]
  have Hres := Lib.hid hres
  clear hl hx hlen hs H hget hrs e2 hba hra hrow hres
  go_enter Try.func38, Try.ntmps38
  go_upto_region 2 with fail
  obtain ⟨W, hW⟩ : ∃ W, w.alloc (.cells #[.int .i64 r.c, .int .i64 r.t, .int .i64 r.k, .int .i64 r.y, .int .i64 r.v, .int .i64 r.s] 25) = W := ⟨_, rfl⟩
  rw [hW] at HB HR hcv hsz ⊢
  have hWl : w.heap.size < W.heap.size := by omega
  have hhW : h < W.heap.size := by omega
  clear hW hsz
  go_loopw [5] (fun i wr => ∃ k : Nat, i = .int .i64 (k : Int) ∧ k ≤ len ∧ Hid (Below W.heap.size W wr) ∧ Hid (∀ j (hj : j < (Psp.rsOf (usOf L)).length), j < k → (Psp.rsOf (usOf L))[j] ≠ r)) (fun i _ => len - (intOf i).toNat)
  case atStart => exact ⟨0, rfl, Nat.zero_le _, Lib.hid (Below.refl _ _), Lib.hid fun j _ hj => absurd hj (by omega)⟩
  case round =>
    obtain ⟨k, rfl, hk, HW, HN⟩ := hrel
    have cv := (HW.out.cell (p := ⟨h, 2, none⟩) hhW).trans hcv
    by_cases hlt : k < len
    case neg =>
      have hd1 : decide ((k : Int) < (len : Int)) = false := by simp; omega
      go_wp2_with fail
      go_ret
      refine ⟨?_, HB.out.trans (HW.out.mono HB.out.size)⟩
      have hno : Psp.isR (usOf L) r = false := decide_eq_false (by
        intro hm
        obtain ⟨j, hj, he⟩ := List.mem_iff_getElem.1 hm
        exact HN.out j hj (by have := Hrs.out; have := Hlen.out; omega) he)
      rw [← Hres.out, hno]; rfl
    case pos =>
      obtain ⟨b, o, hAe, _, hb, hlies⟩ := Hx.out (by omega)
      subst hAe
      have hkl : k < L.length := by have := Hlen.out; omega
      have hrg := trv_req (trv_range hlies hkl)
      have hbk : wr.heap[b]? = w.heap[b]? := (HW.out.block b (by omega)).trans (HB.out.block b hb)
      have RT := Lib.hid (range_later (range_keep hrg hbk) (show b < wr.heap.size by have := HW.out.size; omega))
      have RR : Hid (∀ w', (∃ p : Later wr, w' = p.W) → w'.rangeAt w.heap.size 0 (rq r)) := Lib.hid (range_later (range_of_row ((HW.out.block _ hWl).trans HR.out)) (show w.heap.size < wr.heap.size by have := HW.out.size; omega))
      obtain ⟨y, hy⟩ : ∃ y, L[k].u.r = y := ⟨_, rfl⟩
      rw [hy] at RT
      have HY := Lib.hid (show (Psp.rsOf (usOf L))[k]'(by have := Hrs.out; omega) = y from (Hget.out k hkl _).trans hy)
      have k0 : (0 : Int) ≤ (k : Int) := by omega
      have k1 : (k : Int) < (len : Int) := by omega
      have hd1 : decide ((k : Int) < (len : Int)) = true := by simp; omega
      have CV := later_cell cv
      obtain ⟨R, hR⟩ : ∃ R, decide (y = r) = R := ⟨_, rfl⟩
      have HRb := Lib.hid hR
      clear hlies hy hrg hbk
      go_upto_region 4 with fail
      refine wp_region_later (by kernel_rfl) (by kernel_rfl) ?_
      repeat ((with_reducible show wpQuiet _ _ _ _ _ _); first | ((with_reducible refine wpQuiet_bare ?_ ?_); (· rfl)) | (with_reducible refine wpQuiet_nil ?_) | (refine quiet_load (by simp [Region.wanted, yielded]) 25 (.tmp 21) (by rfl) b (o + k * 8) (by rfl) (rq y) _ RT.out Try.underlying25 rfl size_rq ?_; intro K hK; go_simp; refine hK _ ?_; clear hK K) | (refine quiet_load (by simp [Region.wanted, yielded]) 25 (.tmp 3) (by rfl) w.heap.size (0) (by rfl) (rq r) _ RR.out Try.underlying25 rfl size_rq ?_; intro K hK; go_simp; refine hK _ ?_; clear hK K) | (refine quiet_val (by simp [Region.wanted, yielded]) _ (fun w_ hC => exec_eql_req _ _ _ rfl y r (by rfl) (by rfl)) ?_; intro K hK; go_simp; refine hK _ ?_; clear hK K) | go_big_quiet_step (fail) | quiet_step (fail))
      intro w3 hw'
      have hb3 := later_out hw'
      clear hw' cv CV
      have HW3 := Lib.hid (HW.out.trans (hb3.mono HW.out.size))
      clear hb3
      clear hR
      cases R with
      | true =>
        go_wp2_with fail
        go_ret
        refine ⟨?_, HB.out.trans (HW3.out.mono HB.out.size)⟩
        have he : y = r := of_decide_eq_true HRb.out
        have hkr : k < (Psp.rsOf (usOf L)).length := by have := Hrs.out; omega
        have hm : Psp.isR (usOf L) r = true := decide_eq_true (by rw [← he, ← HY.out]; exact List.getElem_mem hkr)
        rw [← Hres.out, hm, Psp.posR_mem Hs.out hkr (HY.out.trans he)]; rfl
      | false =>
        have hne : y ≠ r := of_decide_eq_false HRb.out
        have HN2 : Hid (∀ j (hj : j < (Psp.rsOf (usOf L)).length), j < k + 1 → (Psp.rsOf (usOf L))[j] ≠ r) := Lib.hid fun j hj hjk => by
          by_cases hjk' : j = k
          · subst hjk'; rw [HY.out]; exact hne
          · exact HN.out j hj (by omega)
        go_wp2_with fail
        go_roundw
        case rel => exact ⟨k + 1, by go_num, by omega, HW3, HN2⟩
        case measure => simp [intOf]; omega
end Go.Proofs.Ytmbdailffhdonaa
