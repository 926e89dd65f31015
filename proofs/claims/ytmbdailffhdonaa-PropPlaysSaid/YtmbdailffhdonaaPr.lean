/- The walk of psephoslaw13.right (gen_pr.py). -/
import Derived.Test.YtmbdailffhdonaaPp
import Derived.Test.YtmbdailffhdonaaSameR
namespace Psp
theorem rs_step {m : List TR} {k : Nat} (hk : k < m.length) : rsOf (m.take (k + 1)) = rsOf (m.take k) ++ [m[k].r] := by
  unfold rsOf
  rw [List.take_succ_eq_append_getElem hk, List.map_append]; rfl
theorem rdy_step {f : Int} {m : List TR} {k : Nat} (hk : k < m.length) : rdyL f (m.take (k + 1)) = rdyL f (m.take k) ++ (if rdyR f m[k] = true then [m[k].r] else []) := by
  unfold rdyL rsOf
  rw [List.take_succ_eq_append_getElem hk, List.filter_append, List.map_append]
  congr 1
  cases h : rdyR f m[k] <;> simp [h]
theorem rdy_len (f : Int) (m : List TR) : (rdyL f m).length ≤ m.length := by unfold rdyL rsOf; rw [List.length_map]; exact List.length_filter_le _ _
end Psp
namespace Go.Proofs.Ytmbdailffhdonaa
open Go.RowKit
set_option linter.unusedVariables false
set_option linter.unusedSimpArgs false

theorem part_app {va va' vr : Value} {M N : Nat} (hs : ∀ b, vr.ownBlock = some b → va.ownBlock ≠ some b) (hv : va'.ownBlock = va.ownBlock ∨ va'.ownBlock = some N) (hl : ∀ b, vr.ownBlock = some b → b < M) (hM : M ≤ N) : ∀ b, vr.ownBlock = some b → va'.ownBlock ≠ some b := fun b hb he => by
  rcases hv with h | h
  · rw [h] at he; exact hs b hb he
  · rw [h] at he
    injection he with he
    have := hl b hb
    omega
theorem part_symm {va vr : Value} (hs : ∀ b, vr.ownBlock = some b → va.ownBlock ≠ some b) : ∀ b, va.ownBlock = some b → vr.ownBlock ≠ some b := fun b hb he => hs b he hb

set_option maxRecDepth 100000 in
set_option maxHeartbeats 4000000 in
theorem pright_m (S : Nat → Prop) (g h : Nat) (f cl : Int) (m : List Psp.TR) (w : World) (H : Pp w S g h f cl m) (hm : m.length ≤ 100000) :
    Calls Try.prog 23 #[.pointer (some ⟨g, 0, none⟩), .pointer (some ⟨h, 0, none⟩)] w fun e w' => e = .returned (.bool true) ∧ Below w.heap.size w w' := by
  obtain ⟨A, c, L, he, hR⟩ := H.ref
  obtain ⟨hl, A', c', e0, hc1, hc2, hx⟩ := hR.rd.rd.parts
  injection e0 with e1 e2 e3
  subst e1 e3
  have hlt := hR.lt
  have hrow := hR.row
  obtain ⟨len, hlen⟩ : ∃ len, L.length = len := ⟨_, rfl⟩
  have hml : m.length = len := by rw [← hlen, ← he]; simp [usOf]
  rw [hlen] at hc1 hx hrow
  have hm' : len ≤ 100000 := by omega
  have Hlen := Lib.hid hlen
  have Hml := Lib.hid hml
  have Hx := Lib.hid hx
  have He := Lib.hid he
  have HH := Lib.hid H
  have HR := Lib.hid hR
  have HRow := Lib.hid hrow
  have hv0 : w.cell? ⟨h, 2, none⟩ = some (.slice A len c) := row_c hrow 2 rfl
  have hst1 : Hid (w.ownsRow w.heap.size 25 6 (.slice none 0 0) 0 ((Psp.rsOf (m.take 0)).flatMap rq)) := Lib.hid (World.ownsRow_nil _ _ _ _)
  have hst2 : Hid (w.ownsRow w.heap.size 25 6 (.slice none 0 0) (Psp.rdyL f (m.take 0)).length ((Psp.rdyL f (m.take 0)).flatMap rq)) := Lib.hid (World.ownsRow_nil _ _ _ _)
  clear hl hx hlen H e2 hrow hml hm he hR
  go_enter Try.func23, Try.ntmps23
  go_upto_region 3 with fail
  clear hv0
  go_loopw [5, 6, 17] (fun va vr i wr => ∃ (k : Nat) (va' vr' : Value), va' = va ∧ vr' = vr ∧ i = .int .i64 (k : Int) ∧ k ≤ len ∧ Hid (wr.ownsRow w.heap.size 25 6 va k ((Psp.rsOf (m.take k)).flatMap rq)) ∧ Hid (wr.ownsRow w.heap.size 25 6 vr (Psp.rdyL f (m.take k)).length ((Psp.rdyL f (m.take k)).flatMap rq)) ∧ Hid (∀ b, vr.ownBlock = some b → va.ownBlock ≠ some b) ∧ Hid (Below w.heap.size w wr)) (fun _ _ i _ => len - (intOf i).toNat)
  case atStart => exact ⟨0, _, _, rfl, rfl, rfl, by omega, hst1, hst2, Lib.hid (fun b hb => by simp [Value.ownBlock] at hb), Lib.hid (Below.refl _ _)⟩
  case round =>
    clear hst1 hst2
    obtain ⟨k, va, vr, rfl, rfl, rfl, hk, HA, HV, HSep, HB⟩ := hrel
    have hsz := HB.out.size
    by_cases hkn : k < len
    case neg =>
      have hd1 : decide ((k : Int) < (len : Int)) = false := by simp; omega
      obtain rfl : k = len := by omega
      have ht : m.take k = m := List.take_of_length_le (by have := Hml.out; omega)
      rw [ht] at HA HV
      have HT : Hid (Tab wr S g f cl (m.map (Psp.tw f))) := Lib.hid (HH.out.tab.below HB.out)
      have hal := Psp.rdy_len f m
      obtain ⟨n, hn⟩ : ∃ n, (Psp.rdyL f m).length = n := ⟨_, rfl⟩
      rw [hn] at HV hal
      have Hn := Lib.hid hn
      obtain ⟨Aa, ca, rfl, hca1, hca2, _⟩ := own_slice HA.out
      obtain ⟨Av, cv, rfl, hcv1, hcv2, _⟩ := own_slice HV.out
      have HAl : Hid (∀ W : World, Tab W S g f cl (m.map (Psp.tw f)) → Calls Try.prog 18 #[.pointer (some ⟨g, 0, none⟩)] W fun e w' => ∃ v, e = .returned v ∧ w'.ownsRow W.heap.size 25 6 v k ((Psp.rsOf m).flatMap rq) ∧ Below W.heap.size W w') := Lib.hid fun W hT => by
        have h_ := all_tab S g f cl _ W hT
        rw [Psp.all_tw, List.length_map, Hml.out] at h_
        exact h_
      have HRe : Hid (∀ W : World, Tab W S g f cl (m.map (Psp.tw f)) → Calls Try.prog 19 #[.pointer (some ⟨g, 0, none⟩)] W fun e w' => ∃ v, e = .returned v ∧ w'.ownsRow W.heap.size 25 6 v n ((Psp.rdyL f m).flatMap rq) ∧ Below W.heap.size W w') := Lib.hid fun W hT => by
        have h_ := ready_tab S g f cl _ W hT
        rw [ready_tw, Hn.out] at h_
        exact h_
      have HLe : Hid (∀ W : World, Tab W S g f cl (m.map (Psp.tw f)) → Calls Try.prog 14 #[.pointer (some ⟨g, 0, none⟩)] W fun e w' => e = .returned (.int .i64 (k : Int)) ∧ W = w') := Lib.hid fun W hT => by
        have h_ := len_tab S g f cl _ W hT
        rw [List.length_map, Hml.out] at h_
        exact h_
      have hrl : (Psp.rsOf m).length = k := by unfold Psp.rsOf; rw [List.length_map, Hml.out]
      clear hn ht hal
      go_wp2_with (first
        | (go_at_call 18; refine (HAl.out _ HT.out).mono ?_; rintro e w1 ⟨v1, rfl, ho1, hb1⟩; have HO1 := Lib.hid ho1; have HB1 := Lib.hid hb1; have HA1 := Lib.hid (own_below HA.out hb1); clear ho1 hb1)
        | (go_at_call 17; first
            | (have _ := HO3; refine (same_req _ _ (Psp.rdyL f m) n _ _ _ Hn.out (Rd.of_own HO3.out) (Rd.of_own HV3.out)).mono ?_; rintro e w4 ⟨rfl, q2, rfl⟩; have HB4 := Lib.hid (below_drewN (Below.refl w3.heap.size w3) q2); have HT4 := Lib.hid ((HT2.out.below HB3.out).below HB4.out))
            | (refine (same_req _ _ (Psp.rsOf m) k _ _ _ hrl (Rd.of_own HO1.out) (Rd.of_own HA1.out)).mono ?_; rintro e w2 ⟨rfl, q1, rfl⟩; have HB2 := Lib.hid (below_drewN (Below.refl w1.heap.size w1) q1); have HT2 := Lib.hid ((HT.out.below HB1.out).below HB2.out); have HV2 := Lib.hid (own_below (own_below HV.out HB1.out) HB2.out)))
        | (go_at_call 19; refine (HRe.out _ HT2.out).mono ?_; rintro e w3 ⟨v3, rfl, ho3, hb3⟩; have HO3 := Lib.hid ho3; have HB3 := Lib.hid hb3; have HV3 := Lib.hid (own_below HV2.out hb3); clear ho3 hb3)
        | (go_at_call 14; refine (HLe.out _ HT4.out).mono ?_; rintro e w5 ⟨rfl, rfl⟩))
      go_ret
      have s1 := HB1.out.size
      have s2 := HB2.out.size
      have s3 := HB3.out.size
      exact ⟨rfl, Below.then (Below.then (Below.then (Below.then HB.out HB1.out hsz) HB2.out (by omega)) HB3.out (by omega)) HB4.out (by omega)⟩
    case pos =>
      have hd1 : decide ((k : Int) < (len : Int)) = true := by simp; omega
      obtain ⟨b, o, hAe, hPb, hb, hlies⟩ := Hx.out (by omega)
      subst hAe
      have hkL : k < L.length := by have := Hlen.out; omega
      have hkm : k < m.length := by have := Hml.out; omega
      obtain ⟨x, hxe⟩ : ∃ x, L[k] = x := ⟨_, rfl⟩
      have hmx : m[k] = x.u := by
        have h1 : m[k]? = (usOf L)[k]? := by rw [He.out]
        rw [List.getElem?_eq_getElem hkm] at h1
        unfold usOf at h1
        rw [List.getElem?_map, List.getElem?_eq_getElem hkL, hxe] at h1
        injection h1
      have hrg := trv_range hlies hkL
      rw [hxe] at hrg
      have HG := Lib.hid hrg
      have HMx := Lib.hid hmx
      have HXe := Lib.hid hxe
      have hs1 := Psp.rs_step hkm
      have hs2 := Psp.rdy_step (f := f) hkm
      rw [hmx] at hs1 hs2
      have HS1 := Lib.hid hs1
      have HS2 := Lib.hid hs2
      have hvl := Psp.rdy_len f (m.take k)
      rw [List.length_take] at hvl
      have hvl' : (Psp.rdyL f (m.take k)).length ≤ 100000 := by omega
      have hsin := Psp.since_tw HH.out.wm hkm
      rw [hmx] at hsin
      have k0 : (0 : Int) ≤ (k : Int) := by omega
      have k1 : (k : Int) < (len : Int) := by omega
      have cv0 : wr.cell? ⟨h, 2, none⟩ = some (.slice (some ⟨b, o, none⟩) len c) := row_c ((HB.out.block h hlt).trans HRow.out) 2 rfl
      have HG1 : Hid (wr.rangeAt b (o + k * 8) (rq x.u.r)) := Lib.hid (range_keep (trv_req hrg) (HB.out.block b hb))
      clear hlies hrg hmx hxe hs1 hs2 hvl hPb
      go_upto_region 6 with (first | (refine list_load rfl 25 (.tmp 26) rfl b (o + k * 8) rfl (rq x.u.r) _ HG1.out Try.underlying25 rfl size_rq ?_) | (refine list_store_new rfl 25 (.tmp 8) (.tmp 27) rfl _ _ (rq x.u.r) rfl rfl rfl size_rq (rq_one x.u.r) ?_; intro w2 hb2 hr2 hs2; have hz2 : wr.heap.size < w2.heap.size := (by omega); clear hs2))
      have HR2 := Lib.hid hr2
      have HA2 := Lib.hid (own_below HA.out hb2)
      have HV2 := Lib.hid (own_below HV.out hb2)
      have HB2 := Lib.hid (Below.then HB.out hb2 hsz)
      have hlta : ∀ b, va.ownBlock = some b → b < wr.heap.size := fun b hb => (HA.out.lt b hb).2
      have hltv : ∀ b, vr.ownBlock = some b → b < wr.heap.size := fun b hb => (HV.out.lt b hb).2
      have HLa := Lib.hid hlta
      have HLv := Lib.hid hltv
      clear hb2 hr2 cv0 HG1 HA HV hlta hltv
      go_upto_region 7 with (first | (refine list_load rfl 25 (.tmp 8) rfl wr.heap.size 0 rfl [.int .i64 x.u.r.c, .int .i64 x.u.r.t, .int .i64 x.u.r.k, .int .i64 x.u.r.y, .int .i64 x.u.r.v, .int .i64 x.u.r.s] _ HR2.out Try.underlying25 rfl size_rq ?_) | (at_builtin; refine wpList_app1 reqE rfl _ _ rfl w.heap.size va k _ rfl HA2.out _ rfl rfl (by simp [Value.oneCell']) (by omega) (by omega) (by omega) ?_; intro va3 w3 hown3 hg3 hb3 hv3))
      have hf3 : Fp (fun b => va.ownBlock = some b) w2 w3 := (Fp.refl _ w2).grown hg3 (fun b hb => .inl hb)
      have hz3 := hf3.size
      have HA3 : Hid (w3.ownsRow w.heap.size 25 6 va3 (k + 1) ((Psp.rsOf (m.take (k + 1))).flatMap rq)) := Lib.hid (by rw [HS1.out, List.flatMap_append]; simpa [rq, iv] using hown3)
      have HV3 := Lib.hid (own_keep HV2.out fun b hb => hf3.block b (by have := HLv.out b hb; omega) (HSep.out b hb))
      have HSep3 : Hid (∀ b, vr.ownBlock = some b → va3.ownBlock ≠ some b) := Lib.hid (part_app HSep.out hv3 HLv.out (by omega))
      have HR3 : Hid (w3.rangeAt wr.heap.size 0 (rq x.u.r)) := Lib.hid (range_keep HR2.out (hf3.block _ (by omega) (fun he => by have := HLa.out _ he; omega)))
      have HB3 := Lib.hid (HB2.out.trans hb3)
      obtain ⟨rd, hrd⟩ : ∃ rd, Psp.rdyR f x.u = rd := ⟨_, rfl⟩
      rw [hrd] at hsin
      obtain ⟨sv, hsv⟩ : ∃ sv : Int, (if rd = true then x.u.since else 0) = sv := ⟨_, rfl⟩
      rw [hsv] at hsin
      have HSin := Lib.hid hsin
      have HRd := Lib.hid hrd
      have HSv := Lib.hid hsv
      have HSi : Hid (∀ W : World, Tab W S g f cl (m.map (Psp.tw f)) → Calls Try.prog 13 #[.pointer (some ⟨g, 0, none⟩), .agg (rq x.u.r).toArray] W fun e w' => e = .returned (.tuple #[.int .i64 sv, .bool rd]) ∧ Below W.heap.size W w') := Lib.hid fun W hT => by
        have h_ := since_any x.u.r S g f cl _ W hT
        rw [HSin.out] at h_
        exact h_
      have HRy : Hid (∀ W : World, Rtc W (Off w S h) h f cl (some ⟨b, o, none⟩) c L → Calls Try.prog 34 #[.pointer (some ⟨h, 0, none⟩), .int .i64 (k : Int)] W fun e w' => e = .returned (.bool rd) ∧ Below W.heap.size W w') := Lib.hid fun W hR => by
        have h_ := rready_m k _ h f cl _ c L W hkL hR
        rw [HXe.out, HRd.out] at h_
        exact h_
      have hw3 : wr.heap.size < w3.heap.size := by omega
      clear hown3 hg3 hb3 hv3 hf3 hsin hrd hsv HA2 HV2 HR2 HB2 HSep
      go_upto_region 8 with (first | (refine list_load rfl 25 (.tmp 8) rfl wr.heap.size 0 rfl [.int .i64 x.u.r.c, .int .i64 x.u.r.t, .int .i64 x.u.r.k, .int .i64 x.u.r.y, .int .i64 x.u.r.v, .int .i64 x.u.r.s] _ HR3.out Try.underlying25 rfl size_rq ?_) | (go_at_call 13; refine (HSi.out _ (HH.out.tab.below HB3.out)).mono ?_; rintro e w4 ⟨rfl, hb4⟩))
      have hw4 := hb4.size
      have HB4 := Lib.hid (Below.then HB3.out hb4 HB3.out.size)
      have HA4 := Lib.hid (own_below HA3.out hb4)
      have HV4 := Lib.hid (own_below HV3.out hb4)
      have HR4 : Hid (w4.rangeAt wr.heap.size 0 (rq x.u.r)) := Lib.hid (range_keep HR3.out (hb4.block _ hw3))
      clear hb4 HA3 HV3 HR3
      cases rd
      case false =>
        have hsv : sv = 0 := by rw [← HSv.out]; rfl
        subst hsv
        go_upto_region 12 with (first | (go_at_call 34; refine (HRy.out _ (HR.out.below HB4.out)).mono ?_; rintro e w5 ⟨rfl, hb5⟩; have hw5 := hb5.size; have HB5 := Lib.hid (Below.then HB4.out hb5 HB4.out.size); have HA5 := Lib.hid (own_below HA4.out hb5); have HV5 := Lib.hid (own_below HV4.out hb5); have HR5 : Hid (w5.rangeAt wr.heap.size 0 (rq x.u.r)) := Lib.hid (range_keep HR4.out (hb5.block _ (Nat.lt_of_lt_of_le hw3 hw4))); have cvh : w5.cell? ⟨h, 2, none⟩ = some (.slice (some ⟨b, o, none⟩) len c) := row_c ((HB5.out.block h hlt).trans HRow.out) 2 rfl; have cv7 : w5.cell? ⟨b, o + k * 8 + 7, none⟩ = some (.int .i64 x.u.since) := (range_keep HG.out (HB5.out.block b hb)) 7 _ rfl; clear hb5))
        have hs2 := HS2.out
        rw [HRd.out, if_neg (by simp), List.append_nil] at hs2
        have HV6 : Hid (w5.ownsRow w.heap.size 25 6 vr (Psp.rdyL f (m.take (k + 1))).length ((Psp.rdyL f (m.take (k + 1))).flatMap rq)) := Lib.hid (by rw [hs2]; exact HV5.out)
        have HA6 := HA5
        have HB6 := HB5
        have HR6 := HR5
        have HSep6 := HSep3
        clear cvh cv7 HA4 HV4 HR4 HB4 HA5 HV5 HR5 HB5 HSep3 hs2 HSi HRy HG
        have hq0 : wr.heap.size < w5.heap.size := by omega
        go_wp2_with fail
        go_loopw [11] (fun j wx => ∃ q : Nat, j = .int .i64 (q : Int) ∧ q ≤ 13 ∧ Hid (Below w5.heap.size w5 wx)) (fun j _ => 13 - (intOf j).toNat)
        case atStart => exact ⟨0, rfl, by omega, Lib.hid (Below.refl _ _)⟩
        case round =>
          obtain ⟨q, rfl, hq, HBx⟩ := hrel
          have hwx := HBx.out.size
          by_cases hq13 : q < 13
          case pos =>
            have d13 : decide ((q : Int) < 13) = true := by simp; omega
            obtain ⟨bq, hbq⟩ : ∃ bq, Psp.hasM m x.u.r (q : Int) = bq := ⟨_, rfl⟩
            have HBq := Lib.hid hbq
            have HBw := Lib.hid (Below.then HB6.out HBx.out HB6.out.size)
            clear hbq
            have HHa : Hid (∀ p : Later wr, Calls Try.prog 21 #[.pointer (some ⟨g, 0, none⟩), .agg (rq x.u.r).toArray, .int .i64 (q : Int)] p.W fun e w' => e = .returned (.bool bq) ∧ Below p.W.heap.size p.W w') := Lib.hid fun p => by
              have h_ := has_tab x.u.r (q : Int) (by omega) (by omega) S g f cl _ p.W ((HH.out.tab.below HBw.out).below p.h)
              rw [Psp.has_tw HH.out.wm, HBq.out] at h_
              exact h_
            have HHr : Hid (∀ p : Later wr, Calls Try.prog 32 #[.pointer (some ⟨h, 0, none⟩), .agg (rq x.u.r).toArray, .int .i64 (q : Int)] p.W fun e w' => e = .returned (.bool bq) ∧ Below p.W.heap.size p.W w') := Lib.hid fun p => by
              have h_ := rthas_m x.u.r (q : Int) _ h f cl _ c L p.W ((HR.out.below HBw.out).below p.h) (by rw [He.out]; exact HH.out.wm.sorted)
              rw [He.out, HBq.out] at h_
              exact h_
            have HRq : Hid (∀ w' : World, (∃ p : Later wr, w' = p.W) → w'.rangeAt _ 0 (rq x.u.r)) := Lib.hid (by
              rintro w' ⟨p, rfl⟩
              exact range_keep (range_keep HR6.out (HBx.out.block _ hq0)) (p.h.block _ (Nat.lt_of_lt_of_le hq0 hwx)))
            go_upto_region 15 with fail
            refine wp_region_later (by kernel_rfl) (by kernel_rfl) ?_
            repeat ((with_reducible show wpQuiet _ _ _ _ _ _); first | go_big_quiet_step (first | (go_at_call 21; exact later_call _ (HHa.out _)) | (go_at_call 32; exact later_call _ (HHr.out _))) | (refine quiet_load (by simp [Region.wanted, yielded]) 25 (.tmp 8) (by rfl) _ 0 (by rfl) [.int .i64 x.u.r.c, .int .i64 x.u.r.t, .int .i64 x.u.r.k, .int .i64 x.u.r.y, .int .i64 x.u.r.v, .int .i64 x.u.r.s] _ HRq.out Try.underlying25 rfl size_rq ?_; intro K hK; go_simp; refine hK _ ?_; clear hK K) | quiet_step (first | (go_at_call 21; exact later_call _ (HHa.out _)) | (go_at_call 32; exact later_call _ (HHr.out _))))
            refine wpQuiet_nil ?_
            intro wy hw'
            have hby := later_out hw'
            clear hw' HHa HHr HRq
            have HBy := Lib.hid (Below.then HBx.out hby hwx)
            clear hby
            go_wp2_with fail
            go_roundw
            case rel => exact ⟨q + 1, by go_num, by omega, HBy⟩
            case measure => simp [intOf]; omega
          case neg =>
            have d13 : decide ((q : Int) < 13) = false := by simp; omega
            go_wp2_with fail
            go_roundw
            case rel => exact ⟨k + 1, _, _, rfl, rfl, by go_num, by omega, Lib.hid (own_below HA6.out HBx.out), Lib.hid (own_below HV6.out HBx.out), HSep6, Lib.hid (Below.then HB6.out HBx.out HB6.out.size)⟩
            case measure => simp [intOf]; omega
      case true =>
        have hsv : sv = x.u.since := by rw [← HSv.out]; rfl
        subst hsv
        go_upto_region 12 with (first | (go_at_call 34; refine (HRy.out _ (HR.out.below HB4.out)).mono ?_; rintro e w5 ⟨rfl, hb5⟩; have hw5 := hb5.size; have HB5 := Lib.hid (Below.then HB4.out hb5 HB4.out.size); have HA5 := Lib.hid (own_below HA4.out hb5); have HV5 := Lib.hid (own_below HV4.out hb5); have HR5 : Hid (w5.rangeAt wr.heap.size 0 (rq x.u.r)) := Lib.hid (range_keep HR4.out (hb5.block _ (Nat.lt_of_lt_of_le hw3 hw4))); have cvh : w5.cell? ⟨h, 2, none⟩ = some (.slice (some ⟨b, o, none⟩) len c) := row_c ((HB5.out.block h hlt).trans HRow.out) 2 rfl; have cv7 : w5.cell? ⟨b, o + k * 8 + 7, none⟩ = some (.int .i64 x.u.since) := (range_keep HG.out (HB5.out.block b hb)) 7 _ rfl; clear hb5) | (refine list_load rfl 25 (.tmp 8) rfl wr.heap.size 0 rfl [.int .i64 x.u.r.c, .int .i64 x.u.r.t, .int .i64 x.u.r.k, .int .i64 x.u.r.y, .int .i64 x.u.r.v, .int .i64 x.u.r.s] _ HR5.out Try.underlying25 rfl size_rq ?_) | (at_builtin; refine wpList_app1 reqE rfl _ _ rfl w.heap.size vr _ _ rfl HV5.out _ rfl rfl (by simp [Value.oneCell']) (by omega) (by omega) (by omega) ?_; intro vr6 w6 hown6 hg6 hb6 hv6))
        have hs2 := HS2.out
        rw [HRd.out, if_pos rfl] at hs2
        have hf6 : Fp (fun b => vr.ownBlock = some b) w5 w6 := (Fp.refl _ w5).grown hg6 (fun b hb => .inl hb)
        have hz6 := hf6.size
        have HV6 : Hid (w6.ownsRow w.heap.size 25 6 vr6 (Psp.rdyL f (m.take (k + 1))).length ((Psp.rdyL f (m.take (k + 1))).flatMap rq)) := Lib.hid (by rw [hs2, List.length_append, List.flatMap_append]; simpa [rq, iv] using hown6)
        have HA6 := Lib.hid (own_keep HA5.out fun b hb => hf6.block b (HA5.out.lt b hb).2 (part_symm HSep3.out b hb))
        have HSep6 : Hid (∀ b, vr6.ownBlock = some b → va3.ownBlock ≠ some b) := Lib.hid (part_symm (part_app (part_symm HSep3.out) hv6 (fun b hb => (HA5.out.lt b hb).2) (by omega)))
        have HR6 : Hid (w6.rangeAt wr.heap.size 0 (rq x.u.r)) := Lib.hid (range_keep HR5.out (hf6.block _ (by omega) (fun he => by have := HLv.out _ he; omega)))
        have HB6 := Lib.hid (HB5.out.trans hb6)
        clear cvh cv7 HA4 HV4 HR4 HB4 HA5 HV5 HR5 HB5 HSep3 hs2 HSi HRy HG hown6 hg6 hb6 hv6 hf6
        have hq0 : wr.heap.size < w6.heap.size := by omega
        go_wp2_with fail
        go_loopw [11] (fun j wx => ∃ q : Nat, j = .int .i64 (q : Int) ∧ q ≤ 13 ∧ Hid (Below w6.heap.size w6 wx)) (fun j _ => 13 - (intOf j).toNat)
        case atStart => exact ⟨0, rfl, by omega, Lib.hid (Below.refl _ _)⟩
        case round =>
          obtain ⟨q, rfl, hq, HBx⟩ := hrel
          have hwx := HBx.out.size
          by_cases hq13 : q < 13
          case pos =>
            have d13 : decide ((q : Int) < 13) = true := by simp; omega
            obtain ⟨bq, hbq⟩ : ∃ bq, Psp.hasM m x.u.r (q : Int) = bq := ⟨_, rfl⟩
            have HBq := Lib.hid hbq
            have HBw := Lib.hid (Below.then HB6.out HBx.out HB6.out.size)
            clear hbq
            have HHa : Hid (∀ p : Later wr, Calls Try.prog 21 #[.pointer (some ⟨g, 0, none⟩), .agg (rq x.u.r).toArray, .int .i64 (q : Int)] p.W fun e w' => e = .returned (.bool bq) ∧ Below p.W.heap.size p.W w') := Lib.hid fun p => by
              have h_ := has_tab x.u.r (q : Int) (by omega) (by omega) S g f cl _ p.W ((HH.out.tab.below HBw.out).below p.h)
              rw [Psp.has_tw HH.out.wm, HBq.out] at h_
              exact h_
            have HHr : Hid (∀ p : Later wr, Calls Try.prog 32 #[.pointer (some ⟨h, 0, none⟩), .agg (rq x.u.r).toArray, .int .i64 (q : Int)] p.W fun e w' => e = .returned (.bool bq) ∧ Below p.W.heap.size p.W w') := Lib.hid fun p => by
              have h_ := rthas_m x.u.r (q : Int) _ h f cl _ c L p.W ((HR.out.below HBw.out).below p.h) (by rw [He.out]; exact HH.out.wm.sorted)
              rw [He.out, HBq.out] at h_
              exact h_
            have HRq : Hid (∀ w' : World, (∃ p : Later wr, w' = p.W) → w'.rangeAt _ 0 (rq x.u.r)) := Lib.hid (by
              rintro w' ⟨p, rfl⟩
              exact range_keep (range_keep HR6.out (HBx.out.block _ hq0)) (p.h.block _ (Nat.lt_of_lt_of_le hq0 hwx)))
            go_upto_region 15 with fail
            refine wp_region_later (by kernel_rfl) (by kernel_rfl) ?_
            repeat ((with_reducible show wpQuiet _ _ _ _ _ _); first | go_big_quiet_step (first | (go_at_call 21; exact later_call _ (HHa.out _)) | (go_at_call 32; exact later_call _ (HHr.out _))) | (refine quiet_load (by simp [Region.wanted, yielded]) 25 (.tmp 8) (by rfl) _ 0 (by rfl) [.int .i64 x.u.r.c, .int .i64 x.u.r.t, .int .i64 x.u.r.k, .int .i64 x.u.r.y, .int .i64 x.u.r.v, .int .i64 x.u.r.s] _ HRq.out Try.underlying25 rfl size_rq ?_; intro K hK; go_simp; refine hK _ ?_; clear hK K) | quiet_step (first | (go_at_call 21; exact later_call _ (HHa.out _)) | (go_at_call 32; exact later_call _ (HHr.out _))))
            refine wpQuiet_nil ?_
            intro wy hw'
            have hby := later_out hw'
            clear hw' HHa HHr HRq
            have HBy := Lib.hid (Below.then HBx.out hby hwx)
            clear hby
            go_wp2_with fail
            go_roundw
            case rel => exact ⟨q + 1, by go_num, by omega, HBy⟩
            case measure => simp [intOf]; omega
          case neg =>
            have d13 : decide ((q : Int) < 13) = false := by simp; omega
            go_wp2_with fail
            go_roundw
            case rel => exact ⟨k + 1, _, _, rfl, rfl, by go_num, by omega, Lib.hid (own_below HA6.out HBx.out), Lib.hid (own_below HV6.out HBx.out), HSep6, Lib.hid (Below.then HB6.out HBx.out HB6.out.size)⟩
            case measure => simp [intOf]; omega
end Go.Proofs.Ytmbdailffhdonaa
