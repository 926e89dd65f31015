/- The walk of MsgsSizes. Printed by gen_wsizes.py. -/
import Derived.Test.YtljfoajhobambaaRk
import Derived.Test.YtljfoajhobambaaFa
import Derived.Test.YtljfoajhobambaaTw
import Derived.Test.YtljfoajhobambaaWk6
import Derived.Laws.OwnMore
namespace Go.Proofs.Ytljfoajhobambaa.msgsSizes
open Go.RowKit
set_option linter.unusedVariables false
set_option linter.unusedSimpArgs false

def m0 : Psp.Msg := ⟨6, 0, 0, 0, 0, 0, [], [], [], []⟩
theorem m0_form : Psp.formM m0 1 1 = true := by decide
theorem m0_enc : Psp.encM m0 = [6, 0, 0, 0, 0, 0, 0, 0, 0, 0] := by
  unfold Psp.encM m0
  simp only [mW_S, Psp.encL, List.flatMap_nil, List.length_nil, List.append_nil]
  simp [Psp.encN, Psp.num]
theorem m0_ok : Psp.okB m0 = true := by
  unfold Psp.okB
  rw [m0_enc]
  decide
theorem made_bytes (n : Nat) : (madeCells (Value.int IntKind.u8 0).cells (n * 1)).toList = (List.replicate n (0 : UInt8)).map bv := by
  rw [Nat.mul_one]
  apply List.ext_getElem
  · simp [madeCells, Value.cells]
  · intro i h1 h2
    simp [madeCells, Value.cells, bv, Nat.mod_one]
/-- What an envelope is of: its bytes O, whether it is, how many they are. -/
structure Ov (s : Int) (b O : List UInt8) (oo : Bool) (lo : Nat) : Prop where
  h1 : res (Psp.encN s ++ b) (okE s b) = O
  h2 : okE s b = oo
  h3 : O.length = lo

set_option maxRecDepth 100000 in
set_option maxHeartbeats 8000000 in
theorem walk (s n0 : Int) (w : World) (hs : isI64 s) (hn : isI64 n0) :
    Calls Try.prog 4 #[.int .i64 s, .int .i64 n0] w fun e w' => e = .returned (.bool true) ∧ Below w.heap.size w w' := by
  obtain ⟨n1, hn1⟩ : ∃ x, Psp.within n0 16 = x := ⟨_, rfl⟩
  have na : 0 ≤ n1 := by rw [← hn1]; exact Psp.within_lo _ _
  have nb : n1 < 16 := by rw [← hn1]; exact Psp.within_hi _ _ (by omega)
  have HWi : Hid (∀ W : World, Calls Try.prog 17 #[.int .i64 n0, .int .i64 16] W fun e w' => e = .returned (.int .i64 n1) ∧ W = w') := Lib.hid fun W => by rw [← hn1]; exact within_any n0 16 W hn.1 hn.2 (by omega) (by omega)
  clear hn1
  obtain ⟨E0, hE0⟩ : ∃ E0, Psp.encM m0 = E0 := ⟨_, rfl⟩
  have M0 : Hid (Psp.okB m0 = true ∧ Psp.encM m0 = E0) := Lib.hid ⟨m0_ok, hE0⟩
  have M1 : Hid (E0.length ≤ 1099511627776) := Lib.hid (by rw [← hE0, m0_enc]; decide)
  obtain ⟨O, hO⟩ : ∃ O, res (Psp.encN s ++ E0) (okE s E0) = O := ⟨_, rfl⟩
  obtain ⟨oo, hoo⟩ : ∃ oo, okE s E0 = oo := ⟨_, rfl⟩
  obtain ⟨lo, hlo⟩ : ∃ lo, O.length = lo := ⟨_, rfl⟩
  have HO := Lib.hid (show Ov s E0 O oo lo from ⟨hO, hoo, hlo⟩)
  clear hE0 hO hoo hlo
  go_enter Try.func4, Try.ntmps4
  go_wp2_with (go_at_call 17; refine (HWi.out _).mono ?_; rintro e w' ⟨rfl, rfl⟩)
  obtain ⟨n, hnn⟩ : ∃ n : Nat, 65524 + n1 = (n : Int) := ⟨(65524 + n1).toNat, by omega⟩
  have k0 : 65524 ≤ n := by omega
  have k1 : n < 65540 := by omega
  rw [hnn]
  clear hnn na nb HWi
  obtain ⟨w1, hr, hown, hg⟩ := run_makeSlice_full (P := Try.prog) w w.heap.size 30 5 _ _ 1 Try.underlying30 rfl rfl rfl .i64 .i64 n (by omega) (by show 1 * n ≤ 281474976710656; omega) (by unfold maxLen; omega) (Nat.le_refl _)
  rw [hr]
  rw [made_bytes] at hown
  have hlen : (List.replicate n (0 : UInt8)).length = n := by simp
  obtain ⟨bs, hbs⟩ : ∃ bs, List.replicate n (0 : UInt8) = bs := ⟨_, rfl⟩
  rw [hbs] at hown hlen
  have Hlen := Lib.hid hlen
  have HB1 := Lib.hid ((Below.refl w.heap.size w).grown hg (Nat.le_refl _) (fun k hk => by cases hk))
  have HP1 : Hid (RdP w1 (fun b => b < w1.heap.size) 1 (.slice (some ⟨w.heap.size, 0, none⟩) n n) bs.length (bs.map bv)) := Lib.hid (by rw [hlen]; exact (RdP.of_own hown).mono fun b hlt _ => hlt)
  clear hr hown hg hbs hlen
  go_wp2_with fail
  cases hok : Psp.okN s with
  | false =>
    have hke : okE s bs = false := by unfold okE; rw [hok]; rfl
    have HK : Hid (res (Psp.encN s ++ bs) (okE s bs) = [] ∧ okE s bs = false ∧ res (Psp.encN s) (Psp.okN s) = [] ∧ Psp.okN s = false) := Lib.hid (by rw [hke, hok]; exact ⟨rfl, rfl, rfl, rfl⟩)
    clear hke
    clear hok
    refine (env_any s bs _ w1 HP1.out (by rw [Hlen.out]; omega)).mono ?_
    intro e w2 hh
    obtain ⟨A2, c2, rfl, _, hb⟩ := Bytes.rdb hh HK.out.1 HK.out.2.1
    have HB2 := Lib.hid (Below.then HB1.out hb HB1.out.size)
    clear hh hb
    go_wp2_with fail
    refine (rnum_any s w2).mono ?_
    intro e w3 hh
    obtain ⟨A3, c3, rfl, _, hb⟩ := Bytes.rdb hh HK.out.2.2.1 HK.out.2.2.2
    have HB3 := Lib.hid (Below.then HB2.out hb HB2.out.size)
    clear hh hb
    go_wp2_with fail
    have hb4 := alloc_below w3 (.cells #[.int .i64 6, .int .i64 0, .int .i64 0, .int .i64 0, .int .i64 0, .int .i64 0, .slice none 0 0, .slice none 0 0, .slice none 0 0, .slice none 0 0] 27)
    have hc4 := heap_alloc_new w3 (.cells #[.int .i64 6, .int .i64 0, .int .i64 0, .int .i64 0, .int .i64 0, .int .i64 0, .slice none 0 0, .slice none 0 0, .slice none 0 0, .slice none 0 0] 27)
    obtain ⟨W4, hW4⟩ : ∃ W, w3.alloc (.cells #[.int .i64 6, .int .i64 0, .int .i64 0, .int .i64 0, .int .i64 0, .int .i64 0, .slice none 0 0, .slice none 0 0, .slice none 0 0, .slice none 0 0] 27) = W := ⟨_, rfl⟩
    rw [hW4] at hb4 hc4 ⊢
    have HB4 := Lib.hid (Below.then HB3.out hb4 HB3.out.size)
    have HC4b := Lib.hid hc4
    clear hW4 hb4 hc4
    refine (rbody_m m0 (.slice none 0 0) (.slice none 0 0) (.slice none 0 0) (.slice none 0 0) W4 ⟨RdP.none_, RdP.none_, RdC.nil, RdA.nil⟩).mono ?_
    intro e w5 hh
    obtain ⟨A5, c5, rfl, hp, hb⟩ := Bytes.rdb hh rfl rfl
    rw [M0.out.1, res_yes] at hp
    rw [M0.out.1, res_yes]
    rw [M0.out.2] at hp ⊢
    have HB5 := Lib.hid (Below.then HB4.out hb HB4.out.size)
    have HC5 := Lib.hid (box_below HC4b.out hb (Nat.le_refl _))
    have HP5 := Lib.hid (hp.mono (P' := fun b => b < w5.heap.size) fun b hlt _ => hlt)
    clear hh hp hb HB4 HC4b
    go_wp2_with fail
    refine (env_any s E0 _ w5 HP5.out M1.out).mono ?_
    intro e w6 hh
    obtain ⟨A6, c6, rfl, hp, hb⟩ := Bytes.rdb hh HO.out.h1 HO.out.h2
    have HB6 := Lib.hid (Below.then HB5.out hb HB5.out.size)
    have HC6 := Lib.hid (box_below HC5.out hb (Nat.le_refl _))
    have HP6 := Lib.hid (HP5.out.keeps (Keeps.on hb))
    have HQ6 := Lib.hid hp
    clear hh hp hb HB5 HC5 HP5
    go_wp2_with fail
    refine (renv_any s E0 _ w6 HP6.out M1.out).mono ?_
    intro e w7 hh
    obtain ⟨A7, c7, rfl, hp, hb⟩ := Bytes.rdb hh HO.out.h1 HO.out.h2
    have HB7 := Lib.hid (Below.then HB6.out hb HB6.out.size)
    have HC7 := Lib.hid (box_below HC6.out hb (Nat.le_refl _))
    have HQ7 := Lib.hid (HQ6.out.keeps (Keeps.below hb))
    have HR7 := Lib.hid hp
    clear hh hp hb HB6 HC6 HP6 HQ6
    go_wp2_with fail
    have HC1 : Hid (∀ p : Later w7, Calls Try.prog 14 #[.slice A6 lo c6, .slice A7 lo c7] p.W fun e w' => e = .returned (.bool true) ∧ Below p.W.heap.size p.W w') := Lib.hid fun p => by
      have h := same_bytes_yes (.slice A6 O.length c6) (.slice A7 O.length c7) O.length O.length O O p.W (HQ7.out.keeps (Keeps.below p.h)).to_rd (HR7.out.keeps (Keeps.below p.h)).to_rd rfl
      rwa [HO.out.h3] at h
    have HC2 : Hid (∀ p : Later w7, Calls Try.prog 23 #[.agg #[.int .i64 6, .int .i64 0, .int .i64 0, .int .i64 0, .int .i64 0, .int .i64 0, .slice none 0 0, .slice none 0 0, .slice none 0 0, .slice none 0 0], .int .i64 1, .int .i64 1] p.W fun e w' => e = .returned (.bool true) ∧ Below p.W.heap.size p.W w') := Lib.hid fun p => by
      have h := rform_any m0 (.slice none 0 0) (.slice none 0 0) (.slice none 0 0) (.slice none 0 0) 1 1 p.W (fun _ => True) ⟨RdP.none_, RdP.none_, RdC.nil, RdA.nil⟩ (wf_of_ok M0.out.1)
      rwa [m0_form] at h
    have HC3 : Hid (∀ p : Later w7, Calls Try.prog 24 #[.agg #[.int .i64 6, .int .i64 0, .int .i64 0, .int .i64 0, .int .i64 0, .int .i64 0, .slice none 0 0, .slice none 0 0, .slice none 0 0, .slice none 0 0], .int .i64 1, .int .i64 1] p.W fun e w' => e = .returned (.bool true) ∧ Below p.W.heap.size p.W w') := Lib.hid fun p => by
      have h := form_any m0 (.slice none 0 0) (.slice none 0 0) (.slice none 0 0) (.slice none 0 0) 1 1 p.W (fun _ => True) ⟨RdP.none_, RdP.none_, RdC.nil, RdA.nil⟩ (wf_of_ok M0.out.1) (fun _ => ⟨by omega, by omega⟩)
      rwa [m0_form] at h
    have HC4 : Hid (∀ p : Later w7, Calls Try.prog 12 #[] p.W fun e w' => e = .returned (.bool true) ∧ Below p.W.heap.size p.W w') := Lib.hid fun p => wakes06 p.W
    have HRM : Hid (∀ w' : World, (∃ p : Later w7, w' = p.W) → w'.rangeAt w3.heap.size 0 [.int .i64 6, .int .i64 0, .int .i64 0, .int .i64 0, .int .i64 0, .int .i64 0, .slice none 0 0, .slice none 0 0, .slice none 0 0, .slice none 0 0]) := Lib.hid (by rintro w' ⟨p, rfl⟩; exact range_of_row (box_below HC7.out p.h (Nat.le_refl _)))
    have hO3 := HO.out.h3
    rw [hO3]
    clear hO3
    cases oo with
    | true =>
      refine wp_region_later (by kernel_rfl) (by kernel_rfl) ?_
      repeat (first | go_big_quiet_step (first | (go_at_call 14; exact later_call _ (HC1.out _)) | (go_at_call 23; exact later_call _ (HC2.out _)) | (go_at_call 24; exact later_call _ (HC3.out _)) | (go_at_call 12; exact later_call _ (HC4.out _))) | (refine quiet_load (by simp [Region.wanted, yielded]) 27 (.tmp 11) (by rfl) w3.heap.size (0) (by rfl) [.int .i64 6, .int .i64 0, .int .i64 0, .int .i64 0, .int .i64 0, .int .i64 0, .slice none 0 0, .slice none 0 0, .slice none 0 0, .slice none 0 0] _ HRM.out Try.underlying27 rfl sizeM ?_; intro K hK; go_simp; refine hK _ ?_; clear hK K) | quiet_step (first | (go_at_call 14; exact later_call _ (HC1.out _)) | (go_at_call 23; exact later_call _ (HC2.out _)) | (go_at_call 24; exact later_call _ (HC3.out _)) | (go_at_call 12; exact later_call _ (HC4.out _))))
      refine wpQuiet_nil ?_
      intro w8 hw'
      obtain ⟨⟨wq, hbq⟩, hw'⟩ := hw'
      have hb2 : Below w7.heap.size w7 w8 := by rw [hw']; exact hbq
      clear hw' hbq
      have HB8 := Lib.hid (Below.then HB7.out hb2 HB7.out.size)
      clear hb2
      go_wp2_with fail
      go_ret
      exact ⟨rfl, HB8.out⟩
    | false =>
      refine wp_region_later (by kernel_rfl) (by kernel_rfl) ?_
      repeat (first | go_big_quiet_step (first | (go_at_call 14; exact later_call _ (HC1.out _)) | (go_at_call 23; exact later_call _ (HC2.out _)) | (go_at_call 24; exact later_call _ (HC3.out _)) | (go_at_call 12; exact later_call _ (HC4.out _))) | (refine quiet_load (by simp [Region.wanted, yielded]) 27 (.tmp 11) (by rfl) w3.heap.size (0) (by rfl) [.int .i64 6, .int .i64 0, .int .i64 0, .int .i64 0, .int .i64 0, .int .i64 0, .slice none 0 0, .slice none 0 0, .slice none 0 0, .slice none 0 0] _ HRM.out Try.underlying27 rfl sizeM ?_; intro K hK; go_simp; refine hK _ ?_; clear hK K) | quiet_step (first | (go_at_call 14; exact later_call _ (HC1.out _)) | (go_at_call 23; exact later_call _ (HC2.out _)) | (go_at_call 24; exact later_call _ (HC3.out _)) | (go_at_call 12; exact later_call _ (HC4.out _))))
      refine wpQuiet_nil ?_
      intro w8 hw'
      obtain ⟨⟨wq, hbq⟩, hw'⟩ := hw'
      have hb2 : Below w7.heap.size w7 w8 := by rw [hw']; exact hbq
      clear hw' hbq
      have HB8 := Lib.hid (Below.then HB7.out hb2 HB7.out.size)
      clear hb2
      go_wp2_with fail
      go_ret
      exact ⟨rfl, HB8.out⟩
  | true =>
    have hl6 := Psp.lenN hok
    obtain ⟨S, hS⟩ : ∃ S, Psp.encN s = S := ⟨_, rfl⟩
    obtain ⟨ls, hls⟩ : ∃ l, S.length = l := ⟨_, rfl⟩
    rw [hS, hls] at hl6
    by_cases hle : ls + n ≤ 65536
    · obtain ⟨B, hB⟩ : ∃ B, Psp.encN s ++ bs = B := ⟨_, rfl⟩
      have hBl : B.length = ls + n := by rw [← hB, List.length_append, hS, hls, Hlen.out]
      have hke : okE s bs = true := by unfold okE; rw [hok, hS, hls, Hlen.out, decide_eq_true hle]; rfl
      have HK : Hid (res (Psp.encN s ++ bs) (okE s bs) = B ∧ okE s bs = true ∧ res (Psp.encN s) (Psp.okN s) = S ∧ Psp.okN s = true) := Lib.hid (by rw [hke, hok]; exact ⟨hB, rfl, hS, rfl⟩)
      clear hke
      have HBl := Lib.hid hBl
      have Hls := Lib.hid hls
      clear hok hS hB hBl hls
      refine (env_any s bs _ w1 HP1.out (by rw [Hlen.out]; omega)).mono ?_
      intro e w2 hh
      obtain ⟨A2, c2, rfl, _, hb⟩ := Bytes.rdb hh HK.out.1 HK.out.2.1
      have HB2 := Lib.hid (Below.then HB1.out hb HB1.out.size)
      clear hh hb
      rw [HBl.out]
      go_wp2_with fail
      refine (rnum_any s w2).mono ?_
      intro e w3 hh
      obtain ⟨A3, c3, rfl, _, hb⟩ := Bytes.rdb hh HK.out.2.2.1 HK.out.2.2.2
      have HB3 := Lib.hid (Below.then HB2.out hb HB2.out.size)
      clear hh hb
      rw [Hls.out]
      have d1 : decide ((ls : Int) + (n : Int) ≤ 65536) = true := by rw [decide_eq_true_eq]; omega
      go_wp2_with fail
      have hb4 := alloc_below w3 (.cells #[.int .i64 6, .int .i64 0, .int .i64 0, .int .i64 0, .int .i64 0, .int .i64 0, .slice none 0 0, .slice none 0 0, .slice none 0 0, .slice none 0 0] 27)
      have hc4 := heap_alloc_new w3 (.cells #[.int .i64 6, .int .i64 0, .int .i64 0, .int .i64 0, .int .i64 0, .int .i64 0, .slice none 0 0, .slice none 0 0, .slice none 0 0, .slice none 0 0] 27)
      obtain ⟨W4, hW4⟩ : ∃ W, w3.alloc (.cells #[.int .i64 6, .int .i64 0, .int .i64 0, .int .i64 0, .int .i64 0, .int .i64 0, .slice none 0 0, .slice none 0 0, .slice none 0 0, .slice none 0 0] 27) = W := ⟨_, rfl⟩
      rw [hW4] at hb4 hc4 ⊢
      have HB4 := Lib.hid (Below.then HB3.out hb4 HB3.out.size)
      have HC4b := Lib.hid hc4
      clear hW4 hb4 hc4
      refine (rbody_m m0 (.slice none 0 0) (.slice none 0 0) (.slice none 0 0) (.slice none 0 0) W4 ⟨RdP.none_, RdP.none_, RdC.nil, RdA.nil⟩).mono ?_
      intro e w5 hh
      obtain ⟨A5, c5, rfl, hp, hb⟩ := Bytes.rdb hh rfl rfl
      rw [M0.out.1, res_yes] at hp
      rw [M0.out.1, res_yes]
      rw [M0.out.2] at hp ⊢
      have HB5 := Lib.hid (Below.then HB4.out hb HB4.out.size)
      have HC5 := Lib.hid (box_below HC4b.out hb (Nat.le_refl _))
      have HP5 := Lib.hid (hp.mono (P' := fun b => b < w5.heap.size) fun b hlt _ => hlt)
      clear hh hp hb HB4 HC4b
      go_wp2_with fail
      refine (env_any s E0 _ w5 HP5.out M1.out).mono ?_
      intro e w6 hh
      obtain ⟨A6, c6, rfl, hp, hb⟩ := Bytes.rdb hh HO.out.h1 HO.out.h2
      have HB6 := Lib.hid (Below.then HB5.out hb HB5.out.size)
      have HC6 := Lib.hid (box_below HC5.out hb (Nat.le_refl _))
      have HP6 := Lib.hid (HP5.out.keeps (Keeps.on hb))
      have HQ6 := Lib.hid hp
      clear hh hp hb HB5 HC5 HP5
      go_wp2_with fail
      refine (renv_any s E0 _ w6 HP6.out M1.out).mono ?_
      intro e w7 hh
      obtain ⟨A7, c7, rfl, hp, hb⟩ := Bytes.rdb hh HO.out.h1 HO.out.h2
      have HB7 := Lib.hid (Below.then HB6.out hb HB6.out.size)
      have HC7 := Lib.hid (box_below HC6.out hb (Nat.le_refl _))
      have HQ7 := Lib.hid (HQ6.out.keeps (Keeps.below hb))
      have HR7 := Lib.hid hp
      clear hh hp hb HB6 HC6 HP6 HQ6
      go_wp2_with fail
      have HC1 : Hid (∀ p : Later w7, Calls Try.prog 14 #[.slice A6 lo c6, .slice A7 lo c7] p.W fun e w' => e = .returned (.bool true) ∧ Below p.W.heap.size p.W w') := Lib.hid fun p => by
        have h := same_bytes_yes (.slice A6 O.length c6) (.slice A7 O.length c7) O.length O.length O O p.W (HQ7.out.keeps (Keeps.below p.h)).to_rd (HR7.out.keeps (Keeps.below p.h)).to_rd rfl
        rwa [HO.out.h3] at h
      have HC2 : Hid (∀ p : Later w7, Calls Try.prog 23 #[.agg #[.int .i64 6, .int .i64 0, .int .i64 0, .int .i64 0, .int .i64 0, .int .i64 0, .slice none 0 0, .slice none 0 0, .slice none 0 0, .slice none 0 0], .int .i64 1, .int .i64 1] p.W fun e w' => e = .returned (.bool true) ∧ Below p.W.heap.size p.W w') := Lib.hid fun p => by
        have h := rform_any m0 (.slice none 0 0) (.slice none 0 0) (.slice none 0 0) (.slice none 0 0) 1 1 p.W (fun _ => True) ⟨RdP.none_, RdP.none_, RdC.nil, RdA.nil⟩ (wf_of_ok M0.out.1)
        rwa [m0_form] at h
      have HC3 : Hid (∀ p : Later w7, Calls Try.prog 24 #[.agg #[.int .i64 6, .int .i64 0, .int .i64 0, .int .i64 0, .int .i64 0, .int .i64 0, .slice none 0 0, .slice none 0 0, .slice none 0 0, .slice none 0 0], .int .i64 1, .int .i64 1] p.W fun e w' => e = .returned (.bool true) ∧ Below p.W.heap.size p.W w') := Lib.hid fun p => by
        have h := form_any m0 (.slice none 0 0) (.slice none 0 0) (.slice none 0 0) (.slice none 0 0) 1 1 p.W (fun _ => True) ⟨RdP.none_, RdP.none_, RdC.nil, RdA.nil⟩ (wf_of_ok M0.out.1) (fun _ => ⟨by omega, by omega⟩)
        rwa [m0_form] at h
      have HC4 : Hid (∀ p : Later w7, Calls Try.prog 12 #[] p.W fun e w' => e = .returned (.bool true) ∧ Below p.W.heap.size p.W w') := Lib.hid fun p => wakes06 p.W
      have HRM : Hid (∀ w' : World, (∃ p : Later w7, w' = p.W) → w'.rangeAt w3.heap.size 0 [.int .i64 6, .int .i64 0, .int .i64 0, .int .i64 0, .int .i64 0, .int .i64 0, .slice none 0 0, .slice none 0 0, .slice none 0 0, .slice none 0 0]) := Lib.hid (by rintro w' ⟨p, rfl⟩; exact range_of_row (box_below HC7.out p.h (Nat.le_refl _)))
      have hO3 := HO.out.h3
      rw [hO3]
      clear hO3
      cases oo with
      | true =>
        refine wp_region_later (by kernel_rfl) (by kernel_rfl) ?_
        repeat (first | go_big_quiet_step (first | (go_at_call 14; exact later_call _ (HC1.out _)) | (go_at_call 23; exact later_call _ (HC2.out _)) | (go_at_call 24; exact later_call _ (HC3.out _)) | (go_at_call 12; exact later_call _ (HC4.out _))) | (refine quiet_load (by simp [Region.wanted, yielded]) 27 (.tmp 11) (by rfl) w3.heap.size (0) (by rfl) [.int .i64 6, .int .i64 0, .int .i64 0, .int .i64 0, .int .i64 0, .int .i64 0, .slice none 0 0, .slice none 0 0, .slice none 0 0, .slice none 0 0] _ HRM.out Try.underlying27 rfl sizeM ?_; intro K hK; go_simp; refine hK _ ?_; clear hK K) | quiet_step (first | (go_at_call 14; exact later_call _ (HC1.out _)) | (go_at_call 23; exact later_call _ (HC2.out _)) | (go_at_call 24; exact later_call _ (HC3.out _)) | (go_at_call 12; exact later_call _ (HC4.out _))))
        refine wpQuiet_nil ?_
        intro w8 hw'
        obtain ⟨⟨wq, hbq⟩, hw'⟩ := hw'
        have hb2 : Below w7.heap.size w7 w8 := by rw [hw']; exact hbq
        clear hw' hbq
        have HB8 := Lib.hid (Below.then HB7.out hb2 HB7.out.size)
        clear hb2
        go_wp2_with fail
        go_ret
        exact ⟨rfl, HB8.out⟩
      | false =>
        refine wp_region_later (by kernel_rfl) (by kernel_rfl) ?_
        repeat (first | go_big_quiet_step (first | (go_at_call 14; exact later_call _ (HC1.out _)) | (go_at_call 23; exact later_call _ (HC2.out _)) | (go_at_call 24; exact later_call _ (HC3.out _)) | (go_at_call 12; exact later_call _ (HC4.out _))) | (refine quiet_load (by simp [Region.wanted, yielded]) 27 (.tmp 11) (by rfl) w3.heap.size (0) (by rfl) [.int .i64 6, .int .i64 0, .int .i64 0, .int .i64 0, .int .i64 0, .int .i64 0, .slice none 0 0, .slice none 0 0, .slice none 0 0, .slice none 0 0] _ HRM.out Try.underlying27 rfl sizeM ?_; intro K hK; go_simp; refine hK _ ?_; clear hK K) | quiet_step (first | (go_at_call 14; exact later_call _ (HC1.out _)) | (go_at_call 23; exact later_call _ (HC2.out _)) | (go_at_call 24; exact later_call _ (HC3.out _)) | (go_at_call 12; exact later_call _ (HC4.out _))))
        refine wpQuiet_nil ?_
        intro w8 hw'
        obtain ⟨⟨wq, hbq⟩, hw'⟩ := hw'
        have hb2 : Below w7.heap.size w7 w8 := by rw [hw']; exact hbq
        clear hw' hbq
        have HB8 := Lib.hid (Below.then HB7.out hb2 HB7.out.size)
        clear hb2
        go_wp2_with fail
        go_ret
        exact ⟨rfl, HB8.out⟩
    · have hke : okE s bs = false := by unfold okE; rw [hok, hS, hls, Hlen.out, decide_eq_false hle]; rfl
      have HK : Hid (res (Psp.encN s ++ bs) (okE s bs) = [] ∧ okE s bs = false ∧ res (Psp.encN s) (Psp.okN s) = S ∧ Psp.okN s = true) := Lib.hid (by rw [hke, hok]; exact ⟨rfl, rfl, hS, rfl⟩)
      clear hke
      have Hls := Lib.hid hls
      clear hok hS hls
      refine (env_any s bs _ w1 HP1.out (by rw [Hlen.out]; omega)).mono ?_
      intro e w2 hh
      obtain ⟨A2, c2, rfl, _, hb⟩ := Bytes.rdb hh HK.out.1 HK.out.2.1
      have HB2 := Lib.hid (Below.then HB1.out hb HB1.out.size)
      clear hh hb
      go_wp2_with fail
      refine (rnum_any s w2).mono ?_
      intro e w3 hh
      obtain ⟨A3, c3, rfl, _, hb⟩ := Bytes.rdb hh HK.out.2.2.1 HK.out.2.2.2
      have HB3 := Lib.hid (Below.then HB2.out hb HB2.out.size)
      clear hh hb
      rw [Hls.out]
      have d1 : decide ((ls : Int) + (n : Int) ≤ 65536) = false := by rw [decide_eq_false_iff_not]; omega
      go_wp2_with fail
      have hb4 := alloc_below w3 (.cells #[.int .i64 6, .int .i64 0, .int .i64 0, .int .i64 0, .int .i64 0, .int .i64 0, .slice none 0 0, .slice none 0 0, .slice none 0 0, .slice none 0 0] 27)
      have hc4 := heap_alloc_new w3 (.cells #[.int .i64 6, .int .i64 0, .int .i64 0, .int .i64 0, .int .i64 0, .int .i64 0, .slice none 0 0, .slice none 0 0, .slice none 0 0, .slice none 0 0] 27)
      obtain ⟨W4, hW4⟩ : ∃ W, w3.alloc (.cells #[.int .i64 6, .int .i64 0, .int .i64 0, .int .i64 0, .int .i64 0, .int .i64 0, .slice none 0 0, .slice none 0 0, .slice none 0 0, .slice none 0 0] 27) = W := ⟨_, rfl⟩
      rw [hW4] at hb4 hc4 ⊢
      have HB4 := Lib.hid (Below.then HB3.out hb4 HB3.out.size)
      have HC4b := Lib.hid hc4
      clear hW4 hb4 hc4
      refine (rbody_m m0 (.slice none 0 0) (.slice none 0 0) (.slice none 0 0) (.slice none 0 0) W4 ⟨RdP.none_, RdP.none_, RdC.nil, RdA.nil⟩).mono ?_
      intro e w5 hh
      obtain ⟨A5, c5, rfl, hp, hb⟩ := Bytes.rdb hh rfl rfl
      rw [M0.out.1, res_yes] at hp
      rw [M0.out.1, res_yes]
      rw [M0.out.2] at hp ⊢
      have HB5 := Lib.hid (Below.then HB4.out hb HB4.out.size)
      have HC5 := Lib.hid (box_below HC4b.out hb (Nat.le_refl _))
      have HP5 := Lib.hid (hp.mono (P' := fun b => b < w5.heap.size) fun b hlt _ => hlt)
      clear hh hp hb HB4 HC4b
      go_wp2_with fail
      refine (env_any s E0 _ w5 HP5.out M1.out).mono ?_
      intro e w6 hh
      obtain ⟨A6, c6, rfl, hp, hb⟩ := Bytes.rdb hh HO.out.h1 HO.out.h2
      have HB6 := Lib.hid (Below.then HB5.out hb HB5.out.size)
      have HC6 := Lib.hid (box_below HC5.out hb (Nat.le_refl _))
      have HP6 := Lib.hid (HP5.out.keeps (Keeps.on hb))
      have HQ6 := Lib.hid hp
      clear hh hp hb HB5 HC5 HP5
      go_wp2_with fail
      refine (renv_any s E0 _ w6 HP6.out M1.out).mono ?_
      intro e w7 hh
      obtain ⟨A7, c7, rfl, hp, hb⟩ := Bytes.rdb hh HO.out.h1 HO.out.h2
      have HB7 := Lib.hid (Below.then HB6.out hb HB6.out.size)
      have HC7 := Lib.hid (box_below HC6.out hb (Nat.le_refl _))
      have HQ7 := Lib.hid (HQ6.out.keeps (Keeps.below hb))
      have HR7 := Lib.hid hp
      clear hh hp hb HB6 HC6 HP6 HQ6
      go_wp2_with fail
      have HC1 : Hid (∀ p : Later w7, Calls Try.prog 14 #[.slice A6 lo c6, .slice A7 lo c7] p.W fun e w' => e = .returned (.bool true) ∧ Below p.W.heap.size p.W w') := Lib.hid fun p => by
        have h := same_bytes_yes (.slice A6 O.length c6) (.slice A7 O.length c7) O.length O.length O O p.W (HQ7.out.keeps (Keeps.below p.h)).to_rd (HR7.out.keeps (Keeps.below p.h)).to_rd rfl
        rwa [HO.out.h3] at h
      have HC2 : Hid (∀ p : Later w7, Calls Try.prog 23 #[.agg #[.int .i64 6, .int .i64 0, .int .i64 0, .int .i64 0, .int .i64 0, .int .i64 0, .slice none 0 0, .slice none 0 0, .slice none 0 0, .slice none 0 0], .int .i64 1, .int .i64 1] p.W fun e w' => e = .returned (.bool true) ∧ Below p.W.heap.size p.W w') := Lib.hid fun p => by
        have h := rform_any m0 (.slice none 0 0) (.slice none 0 0) (.slice none 0 0) (.slice none 0 0) 1 1 p.W (fun _ => True) ⟨RdP.none_, RdP.none_, RdC.nil, RdA.nil⟩ (wf_of_ok M0.out.1)
        rwa [m0_form] at h
      have HC3 : Hid (∀ p : Later w7, Calls Try.prog 24 #[.agg #[.int .i64 6, .int .i64 0, .int .i64 0, .int .i64 0, .int .i64 0, .int .i64 0, .slice none 0 0, .slice none 0 0, .slice none 0 0, .slice none 0 0], .int .i64 1, .int .i64 1] p.W fun e w' => e = .returned (.bool true) ∧ Below p.W.heap.size p.W w') := Lib.hid fun p => by
        have h := form_any m0 (.slice none 0 0) (.slice none 0 0) (.slice none 0 0) (.slice none 0 0) 1 1 p.W (fun _ => True) ⟨RdP.none_, RdP.none_, RdC.nil, RdA.nil⟩ (wf_of_ok M0.out.1) (fun _ => ⟨by omega, by omega⟩)
        rwa [m0_form] at h
      have HC4 : Hid (∀ p : Later w7, Calls Try.prog 12 #[] p.W fun e w' => e = .returned (.bool true) ∧ Below p.W.heap.size p.W w') := Lib.hid fun p => wakes06 p.W
      have HRM : Hid (∀ w' : World, (∃ p : Later w7, w' = p.W) → w'.rangeAt w3.heap.size 0 [.int .i64 6, .int .i64 0, .int .i64 0, .int .i64 0, .int .i64 0, .int .i64 0, .slice none 0 0, .slice none 0 0, .slice none 0 0, .slice none 0 0]) := Lib.hid (by rintro w' ⟨p, rfl⟩; exact range_of_row (box_below HC7.out p.h (Nat.le_refl _)))
      have hO3 := HO.out.h3
      rw [hO3]
      clear hO3
      cases oo with
      | true =>
        refine wp_region_later (by kernel_rfl) (by kernel_rfl) ?_
        repeat (first | go_big_quiet_step (first | (go_at_call 14; exact later_call _ (HC1.out _)) | (go_at_call 23; exact later_call _ (HC2.out _)) | (go_at_call 24; exact later_call _ (HC3.out _)) | (go_at_call 12; exact later_call _ (HC4.out _))) | (refine quiet_load (by simp [Region.wanted, yielded]) 27 (.tmp 11) (by rfl) w3.heap.size (0) (by rfl) [.int .i64 6, .int .i64 0, .int .i64 0, .int .i64 0, .int .i64 0, .int .i64 0, .slice none 0 0, .slice none 0 0, .slice none 0 0, .slice none 0 0] _ HRM.out Try.underlying27 rfl sizeM ?_; intro K hK; go_simp; refine hK _ ?_; clear hK K) | quiet_step (first | (go_at_call 14; exact later_call _ (HC1.out _)) | (go_at_call 23; exact later_call _ (HC2.out _)) | (go_at_call 24; exact later_call _ (HC3.out _)) | (go_at_call 12; exact later_call _ (HC4.out _))))
        refine wpQuiet_nil ?_
        intro w8 hw'
        obtain ⟨⟨wq, hbq⟩, hw'⟩ := hw'
        have hb2 : Below w7.heap.size w7 w8 := by rw [hw']; exact hbq
        clear hw' hbq
        have HB8 := Lib.hid (Below.then HB7.out hb2 HB7.out.size)
        clear hb2
        go_wp2_with fail
        go_ret
        exact ⟨rfl, HB8.out⟩
      | false =>
        refine wp_region_later (by kernel_rfl) (by kernel_rfl) ?_
        repeat (first | go_big_quiet_step (first | (go_at_call 14; exact later_call _ (HC1.out _)) | (go_at_call 23; exact later_call _ (HC2.out _)) | (go_at_call 24; exact later_call _ (HC3.out _)) | (go_at_call 12; exact later_call _ (HC4.out _))) | (refine quiet_load (by simp [Region.wanted, yielded]) 27 (.tmp 11) (by rfl) w3.heap.size (0) (by rfl) [.int .i64 6, .int .i64 0, .int .i64 0, .int .i64 0, .int .i64 0, .int .i64 0, .slice none 0 0, .slice none 0 0, .slice none 0 0, .slice none 0 0] _ HRM.out Try.underlying27 rfl sizeM ?_; intro K hK; go_simp; refine hK _ ?_; clear hK K) | quiet_step (first | (go_at_call 14; exact later_call _ (HC1.out _)) | (go_at_call 23; exact later_call _ (HC2.out _)) | (go_at_call 24; exact later_call _ (HC3.out _)) | (go_at_call 12; exact later_call _ (HC4.out _))))
        refine wpQuiet_nil ?_
        intro w8 hw'
        obtain ⟨⟨wq, hbq⟩, hw'⟩ := hw'
        have hb2 : Below w7.heap.size w7 w8 := by rw [hw']; exact hbq
        clear hw' hbq
        have HB8 := Lib.hid (Below.then HB7.out hb2 HB7.out.size)
        clear hb2
        go_wp2_with fail
        go_ret
        exact ⟨rfl, HB8.out⟩
end Go.Proofs.Ytljfoajhobambaa.msgsSizes
