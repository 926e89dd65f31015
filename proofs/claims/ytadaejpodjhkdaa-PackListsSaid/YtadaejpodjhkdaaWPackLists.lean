/- The walk of PackLists. -/
import Derived.Test.YtadaejpodjhkdaaPh
namespace Go.Proofs.Ytadaejpodjhkdaa.packLists
open Go.RowKit
set_option linter.unusedVariables false

structure LInv (w0 wr : World) (l : List Psp.Req) (n k : Nat) (v : Value) : Prop where
  le : k ≤ n
  ok : (l.take k).all Psp.okR = true
  own : wr.ownsRow w0.heap.size 5 1 v (Psp.encN n ++ (l.take k).flatMap Psp.encR).length ((Psp.encN n ++ (l.take k).flatMap Psp.encR).map bv)
  bel : Below w0.heap.size w0 wr
  len : (Psp.encN n ++ (l.take k).flatMap Psp.encR).length ≤ 6 + 36 * k

theorem encR_len {r : Psp.Req} (h : Psp.okR r = true) : (Psp.encR r).length ≤ 36 := by
  unfold Psp.okR at h
  simp only [Bool.and_eq_true] at h
  have h1 := (Psp.encN_len h.1).2
  have h2 := (Psp.encN_len h.2.1).2
  have h3 := (Psp.encN_len h.2.2.1).2
  have h4 := (Psp.encS_len r.y).2
  have h5 := (Psp.encS_len r.v).2
  have h6 := (Psp.encN_len h.2.2.2.2.2).2
  unfold Psp.encR
  simp only [List.length_append]
  omega

set_option maxRecDepth 100000 in
set_option maxHeartbeats 2000000 in
theorem walk (v : Value) (l : List Psp.Req) (w : World) (hr : Rd w w.heap.size 6 v l.length (l.flatMap rq)) (hl : ∀ r ∈ l, wfReq r) :
    Calls Try.prog 3 #[v] w fun e w' => e = .returned (.bool true) ∧ Below w.heap.size w w' := by
  have hp := hr.to_p (Nat.le_refl _)
  obtain ⟨n, hn⟩ : ∃ n, l.length = n := ⟨_, rfl⟩
  rw [hn] at hp
  have Hp := Lib.hid hp
  obtain ⟨hxl, A, c, rfl, hx1, hx2, hxc⟩ := hp.parts
  have Hxc := Lib.hid hxc
  have Hn := Lib.hid hn
  clear hxl hxc hn hp hr hl
  by_cases h60 : 60 < n
  · have d1 : decide (60 < (n : Int)) = true := by simp; omega
    go_enter Try.func3, Try.ntmps3
    go_wp2_with (go_at_call 12; refine (wakes02 _).mono ?_; rintro e w' ⟨rfl, hb⟩)
    go_ret
    exact ⟨rfl, hb⟩
  · have d1 : decide (60 < (n : Int)) = false := by simp; omega
    go_enter Try.func3, Try.ntmps3
    go_wp2_with fail
    refine (number_ok (n : Int) w (by omega) (by omega)).mono ?_
    rintro e w1 ⟨v1, rfl, hown, hbel⟩
    have hst : LInv w w1 l n 0 v1 := ⟨Nat.zero_le _, rfl, by simpa [Psp.encN] using hown, hbel, by simp [Psp.encN]; exact Psp.num_len6 (by omega)⟩
    have Hst := Lib.hid hst
    clear hst hown hbel
    go_wp2_with fail
    go_loopw [3, 24] (fun v i wr => ∃ k : Nat, i = .int .i64 (k : Int) ∧ LInv w wr l n k v) (fun _ i _ => n - (intOf i).toNat)
    case atStart => exact ⟨0, rfl, Hst.out⟩
    case round =>
      obtain ⟨k, rfl, hI⟩ := hrel
      have hk := hI.le
      have hsz := hI.bel.size
      by_cases hlt : k < n
      · obtain ⟨b, o, hAe, hP, hb, hlies⟩ := Hxc.out (by omega)
        subst hAe
        have hkl : k < l.length := by have := Hn.out; omega
        have hrg := range_keep (range_elem (f := rq) (k := 6) (fun _ => rfl) hlies hkl) (hI.bel.block b hb)
        have hfl := Psp.flat_step Psp.encR hkl
        have hal := Psp.all_step Psp.okR hkl
        have hbad : Psp.okR l[k] = false → Psp.okL Psp.okR l = false := fun h => by
          unfold Psp.okL
          have : l.all Psp.okR = false := by rw [List.all_eq_false]; exact ⟨l[k], List.getElem_mem hkl, by rw [h]; simp⟩
          rw [this, Bool.and_false]
        obtain ⟨t, ht⟩ : ∃ r, l[k] = r := ⟨_, rfl⟩
        rw [ht] at hrg hfl hal hbad
        have Hrg := Lib.hid hrg
        have Hfl := Lib.hid hfl
        have Hal := Lib.hid hal
        have Hbad := Lib.hid hbad
        have HI := Lib.hid hI
        clear hlies hrg hfl hal hbad ht hkl hI
        go_wp2_with (refine list_load rfl 31 (.tmp 30) rfl b (o + k * 6) rfl [.int .i64 t.c, .int .i64 t.t, .int .i64 t.k, .int .i64 t.y, .int .i64 t.v, .int .i64 t.s] _ ?_ Try.underlying31 rfl sizeR ?_; exact Hrg.out)
        refine (pk_req t.c t.t t.k t.y t.v t.s _).mono ?_
        rintro e w2 ⟨v2, rfl, hown2, hbel2⟩
        cases hk2 : Psp.okR t with
        | true =>
          have hln := encR_len hk2
          have hi := HI.out.len
          rw [show Psp.okR ⟨t.c, t.t, t.k, t.y, t.v, t.s⟩ = true from hk2, if_pos rfl] at hown2
          have hr2 : Rd w2 w2.heap.size 1 v2 (Psp.encR t).length ((Psp.encR t).map bv) := Rd.of_own hown2
          have ho1 := own_below HI.out.own hbel2
          have Hk2 := Lib.hid hk2
          have Hbel2 := Lib.hid hbel2
          have hz2 := hbel2.size
          have h1c : ∀ u ∈ (Psp.encR t).map bv, u.oneCell' = true := by intro u hu; obtain ⟨b, _, rfl⟩ := List.mem_map.1 hu; rfl
          have H1c := Lib.hid h1c
          have Hr2 := Lib.hid hr2
          have Ho1 := Lib.hid ho1
          clear hk2 hbel2 h1c hown2 hr2 ho1
          go_wp2_with (at_builtin; refine wpList_app bytesE rfl _ _ rfl w.heap.size _ _ _ rfl Ho1.out _ v2 _ ((Psp.encR t).map bv) rfl Hr2.out H1c.out (by unfold maxLen; omega) (by omega) (by omega) ?_; intro v' w3 h3 hg3 hb3)
          have hb4 := HI.out.bel.trans (Hbel2.out.mono hsz)
          have hb5 : Below w.heap.size w w3 := hb4.grown hg3 (by omega) (own_lt Ho1.out)
          have hI2 : LInv w w3 l n (k + 1) v' := by
            refine ⟨hlt, by rw [Hal.out, HI.out.ok, Hk2.out]; rfl, ?_, hb5, ?_⟩
            · rw [Hfl.out, ← List.append_assoc, List.length_append, List.map_append]; exact h3
            · rw [Hfl.out, ← List.append_assoc, List.length_append]; omega
          have HI2 := Lib.hid hI2
          clear hI2 h3 hg3 hb3 hb4 hb5
          go_wp2_with fail
          go_roundw
          case rel => exact ⟨k + 1, by go_num, HI2.out⟩
          case measure => simp [intOf]; omega
        | false =>
          have hb4 := HI.out.bel.trans (hbel2.mono hsz)
          have Hb4 := Lib.hid hb4
          have hbd := Hbad.out hk2
          have Hbd := Lib.hid hbd
          have Hpl := Lib.hid ((Hp.out.keep hb4.size fun b hb hlt => hb4.block b hb).mono (P' := fun b => b < w2.heap.size) fun b hb _ => hb)
          clear hk2 hbd hb4 hown2 hbel2
          go_wp2_with fail
          refine (pk_batch l _ w2 (by rw [Hn.out]; exact Hpl.out)).mono ?_
          rintro e w3 ⟨v3, rfl, hown3, hbel3⟩
          rw [Hbd.out] at hown3 ⊢
          obtain ⟨A3, c3, rfl, _, _, _⟩ := own_slice hown3
          simp only [Bool.false_eq_true, if_false, List.length_nil]
          have Hb5 := Lib.hid (Hb4.out.trans (hbel3.mono Hb4.out.size))
          clear hown3 hbel3
          go_wp2_with (go_at_call 12; refine (wakes02 _).mono ?_; rintro e w' ⟨rfl, hb⟩; have Hb := Lib.hid hb; clear hb)
          go_ret
          exact ⟨rfl, Hb5.out.trans (Hb.out.mono Hb5.out.size)⟩
      · obtain rfl : k = n := by omega
        have hbd : Psp.okL Psp.okR l = true := by
          have h1 := hI.ok
          rw [List.take_of_length_le (by rw [Hn.out]; exact Nat.le_refl _)] at h1
          unfold Psp.okL
          rw [h1, Hn.out, decide_eq_true (by omega)]; rfl
        have hen : Psp.encN k ++ (l.take k).flatMap Psp.encR = Psp.encL Psp.encR l := by
          rw [List.take_of_length_le (by rw [Hn.out]; exact Nat.le_refl _)]
          unfold Psp.encL
          rw [Hn.out]
        have hown := hI.own
        rw [hen] at hown
        have Hown := Lib.hid hown
        have Hbd := Lib.hid hbd
        have HI := Lib.hid hI
        have Hpl := Lib.hid ((Hp.out.keep hI.bel.size fun b hb hlt => hI.bel.block b hb).mono (P' := fun b => b < wr.heap.size) fun b hb _ => hb)
        clear hbd hI hen hown
        go_wp2_with fail
        refine (pk_batch l _ wr (by rw [Hn.out]; exact Hpl.out)).mono ?_
        rintro e w3 ⟨v3, rfl, hown3, hbel3⟩
        rw [Hbd.out, if_pos rfl] at hown3
        rw [Hbd.out]
        have Hown3 := Lib.hid hown3
        have Hown1 := Lib.hid (own_below Hown.out hbel3)
        have Hb3 := Lib.hid (HI.out.bel.trans (hbel3.mono hsz))
        clear hown3 hbel3
        go_wp2_with fail
        refine (same_bytes _ _ _ _ (Psp.encL Psp.encR l) (Psp.encL Psp.encR l) _ (Rd.of_own Hown3.out) (Rd.of_own Hown1.out)).mono ?_
        rintro e w4 ⟨rfl, q, rfl⟩
        rw [decide_eq_true rfl]
        go_wp2_with (go_at_call 12; refine (wakes02 _).mono ?_; rintro e w' ⟨rfl, hb⟩; have Hb := Lib.hid hb; clear hb)
        go_ret
        exact ⟨rfl, (below_drewN Hb3.out q).trans (Hb.out.mono (below_drewN Hb3.out q).size)⟩

end Go.Proofs.Ytadaejpodjhkdaa.packLists
