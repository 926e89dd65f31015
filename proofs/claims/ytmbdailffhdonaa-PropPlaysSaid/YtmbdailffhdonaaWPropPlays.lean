/- The walk of PropPlays (gen_wpp.py). -/
import Derived.Test.YtmbdailffhdonaaPr
import Derived.Test.YtmbdailffhdonaaOpen
namespace Go.Proofs.Ytmbdailffhdonaa.propPlays
open Go.RowKit
set_option linter.unusedVariables false
set_option linter.unusedSimpArgs false

theorem act_size : (Try.prog.info? 51).map (·.size) = some 11 := by kernel_rfl
/-- Where a loop of acts stands. -/
structure LI (w0 wr : World) (N : Nat) (g h : Nat) (f cl : Int) (K : Nat) : Prop where
  ex : ∃ S m, Pp wr S g h f cl m ∧ m.length ≤ K ∧ ∀ b, S b → N ≤ b
  hN : N ≤ h
  bel : Below N w0 wr
theorem LI.below {w0 wr W : World} {N g h : Nat} {f cl : Int} {K : Nat} (H : LI w0 wr N g h f cl K) (hb : Below wr.heap.size wr W) (hN : N ≤ wr.heap.size) : LI w0 W N g h f cl K := by
  obtain ⟨S, m, hP, hl, hS⟩ := H.ex
  exact ⟨⟨S, m, hP.below hb, hl, hS⟩, H.hN, H.bel.trans (hb.mono hN)⟩
theorem LI.step {w0 wr W : World} {N g h : Nat} {f cl : Int} {K : Nat} {S : Nat → Prop} {m : List Psp.TR} (H : LI w0 wr N g h f cl K) (hN : N ≤ wr.heap.size) (hm : m.length ≤ K) (hS : ∀ b, S b → N ≤ b) (hD : Did wr W S g h f cl m) : LI w0 W N g h f cl (K + 1) := by
  obtain ⟨S', m', hP, hl, hS'⟩ := hD.ex
  refine ⟨⟨S', m', hP, by omega, fun b hb => ?_⟩, H.hN, H.bel.trans (hD.fp.to_below hN fun k _ hk => ?_)⟩
  · rcases hS' b hb with h1 | h1
    · exact hS b h1
    · omega
  · rcases hk with h1 | h1
    · exact hS k h1
    · rw [h1]; exact H.hN
theorem LI.start {w1 : World} {w : World} {g : Nat} {f cl : Int} (hT : Tab w1 (fun k => k = g) g f cl []) (hg : w.heap.size ≤ g) (hb : Below w.heap.size w w1) : LI w (w1.alloc (.cells #[.int .i64 f, .int .i64 cl, .slice none 0 0] 57)) w.heap.size g w1.heap.size f cl 0 := by
  have hgl := hT.lt g rfl
  refine ⟨⟨fun k => k = g, [], ⟨hT.below (alloc_below _ _), ⟨none, 0, [], rfl, heap_alloc_new _ _, ⟨⟨by simp, none, 0, rfl, by simp, by decide, fun h => absurd h (by simp)⟩, fun x hx => by simp at hx⟩⟩, fun h => ?_, ⟨List.Pairwise.nil, fun u hu => by simp at hu⟩⟩, Nat.le_refl _, fun b hb => by subst hb; exact hg⟩, hb.size, Below.then hb (alloc_below _ _) hb.size⟩
  have : w1.heap.size = g := h
  omega
/-- The document's table, copied: its rows are shared. -/
theorem LI.copy {wx w5 : World} {S S2 : Nat → Prop} {h g2 h2 : Nat} {f cl : Int} {m : List Psp.TR} {A : Option Addr} {c : Nat} {L : List TRV} (hR : Rtc wx (Off wx S h) h f cl A c L) (he : usOf L = m) (hw : Psp.Wm f m)
    (hT : Tab w5 S2 g2 f cl (m.map (Psp.tw f))) (hS2 : ∀ k, S2 k → wx.heap.size ≤ k) (hn : ¬ S2 h2) (hh : wx.heap.size ≤ h2) (hb : Below wx.heap.size wx w5)
    (hrow : w5.heap[h2]? = some (.cells #[.int .i64 f, .int .i64 cl, .slice A L.length c] 57 (0, 0))) {K : Nat} (hK : m.length ≤ K) : LI wx w5 wx.heap.size g2 h2 f cl K :=
  ⟨⟨S2, m, ⟨hT, ⟨A, c, L, he, hrow, hR.rd.keep ⟨hb.size, fun b hb' hlt => ⟨hb.block b hlt, Nat.lt_of_lt_of_le hlt hb.size, fun hh => by have := hS2 b hh; omega, by omega⟩⟩⟩, hn, hw⟩, hK, hS2⟩, hh, hb⟩

set_option maxRecDepth 100000 in
set_option maxHeartbeats 4000000 in
theorem walk (f cl : Int) (v : Value) (l : List Psp.Act) (v2 : Value) (l2 : List Psp.Act) (w : World) (b0 : isI64 f) (b1 : isI64 cl) (hr : Rd w w.heap.size 11 v l.length (l.flatMap ac)) (hl : ∀ a ∈ l, wfAct a)
    (hr2 : Rd w w.heap.size 11 v2 l2.length (l2.flatMap ac)) (hl2 : ∀ a ∈ l2, wfAct a) :
    Calls Try.prog 8 #[.int .i64 f, .int .i64 cl, v, v2] w fun e w' => e = .returned (.bool true) ∧ Below w.heap.size w w' := by
  obtain ⟨hrl, A, cp, rfl, hc1, hc2, hcell⟩ := hr
  obtain ⟨hrl2, A2, cp2, rfl, hc12, hc22, hcell2⟩ := hr2
  obtain ⟨len, hlen⟩ : ∃ len, l.length = len := ⟨_, rfl⟩
  obtain ⟨len2, hlen2⟩ : ∃ len2, l2.length = len2 := ⟨_, rfl⟩
  rw [hlen] at hcell hc1 ⊢
  rw [hlen2] at hcell2 hc12 ⊢
  unfold maxLen at hc2 hc22
  have Hlen := Lib.hid hlen
  have Hlen2 := Lib.hid hlen2
  have Hl := Lib.hid hl
  have Hl2 := Lib.hid hl2
  have Hcell := Lib.hid hcell
  have Hcell2 := Lib.hid hcell2
  clear hlen hl hrl hcell hlen2 hl2 hrl2 hcell2 b0 b1
  by_cases hbad : f < 1 ∨ 4 < f ∨ cl < 1 ∨ 4 < cl
  · have HNew := Lib.hid (new_not f cl w hbad)
    by_cases h1 : f < 1
    case' pos => have d1 : decide (f < 1) = true := decide_eq_true h1
    case' neg =>
      have d1 : decide (f < 1) = false := decide_eq_false h1
      by_cases h2 : 4 < f
      case' pos => have d2 : decide (4 < f) = true := decide_eq_true h2
      case' neg =>
        have d2 : decide (4 < f) = false := decide_eq_false h2
        by_cases h3 : cl < 1
        case' pos => have d3 : decide (cl < 1) = true := decide_eq_true h3
        case' neg =>
          have d3 : decide (cl < 1) = false := decide_eq_false h3
          have h4 : 4 < cl := by omega
          have d4 : decide (4 < cl) = true := decide_eq_true h4
    all_goals
      clear hbad
      go_enter Try.func8, Try.ntmps8
      go_wp2_with (first | (go_at_call 10; refine HNew.out.mono ?_; rintro e w1 ⟨rfl, rfl⟩) | (go_at_call 15; refine (wakes13 _).mono ?_; rintro e w2 ⟨rfl, hb2⟩))
      go_ret
      exact ⟨rfl, hb2⟩
  · have f1 : 1 ≤ f := by omega
    have f4 : f ≤ 4 := by omega
    have g1 : 1 ≤ cl := by omega
    have g4 : cl ≤ 4 := by omega
    have d1 : decide (f < 1) = false := by simp; omega
    have d2 : decide (4 < f) = false := by simp; omega
    have d3 : decide (cl < 1) = false := by simp; omega
    have d4 : decide (4 < cl) = false := by simp; omega
    have HF : Hid (1 ≤ f ∧ f ≤ 4) := Lib.hid ⟨f1, f4⟩
    have HNew := Lib.hid (new_any f cl w f1 f4 g1 g4)
    clear hbad f1 f4 g1 g4
    go_enter Try.func8, Try.ntmps8
    go_upto_region 6 with (go_at_call 10; refine HNew.out.mono ?_; rintro e w1 ⟨g, rfl, hT1, hg, hb1⟩)
    clear d1 d2 d3 d4
    have hLI := LI.start hT1 hg hb1
    have hh1 : w.heap.size ≤ w1.heap.size := hb1.size
    have HLI := Lib.hid hLI
    clear hLI hT1 hb1
    obtain ⟨h, hh⟩ : ∃ h, w1.heap.size = h := ⟨_, rfl⟩
    go_upto_block 0 with fail
    rw [hh] at HLI
    rw [hh] at hh1
    clear hh
    go_cut [12] from 55 to 72 (fun i wz => ∃ K, K ≤ 80 ∧ Hid (LI w wz w.heap.size g h f cl K))
    case first =>
      go_wp2_with fail
      go_loopw [12] (fun i wr => ∃ k : Nat, i = .int .i64 (k : Int) ∧ k ≤ len ∧ k ≤ 80 ∧ Hid (LI w wr w.heap.size g h f cl k)) (fun i _ => 80 - (intOf i).toNat)
      case atStart => exact ⟨0, rfl, by omega, by omega, HLI⟩
      case round =>
        obtain ⟨k, rfl, hk, hkc, HI⟩ := hrel
        have hsz : w.heap.size ≤ wr.heap.size := HI.out.bel.size
        by_cases hlt : k < len
        · have dlt : decide ((k : Int) < (len : Int)) = true := by simp; omega
          by_cases hc : k < 80
          · have dc : decide ((k : Int) < 80) = true := by simp; omega
            obtain ⟨b, o, hAe, hb, hlies⟩ := Hcell.out (by omega)
            subst hAe
            have hx0 : k < l.length := by have := Hlen.out; omega
            have hwa := Hl.out l[k] (List.getElem_mem hx0)
            have hcs : wr.rangeAt b (o + k * 11) (ac l[k]) := act_cells (hlies.keep (HI.out.bel.block b hb)) hx0
            obtain ⟨a, hy⟩ : ∃ x, l[k] = x := ⟨_, rfl⟩
            rw [hy] at hcs hwa
            have HG := Lib.hid hcs
            have HWa := Lib.hid hwa
            have i0 : (0 : Int) ≤ (k : Int) := by omega
            have i1 : (k : Int) < (len : Int) := by omega
            obtain ⟨S, m, hP, hml, hS⟩ := HI.out.ex
            have HP := Lib.hid hP
            have HS := Lib.hid hS
            have hm1 : m.length + 1 ≤ 100000 := by omega
            have Hsz := Lib.hid hsz
            clear hlies hy hcs hwa hP hS hsz
            try clear hltx
            try clear hm80
            try clear HI1
            try clear Hcell
            try clear Hcell2
            clear Hl Hl2 HNew hh1 hg
            try clear HLI
            go_wp2_with (first | (refine list_load rfl 51 (.tmp 69) rfl b (o + k * 11) rfl (ac a) _ HG.out Try.underlying51 rfl act_size ?_) | (go_at_call 22; refine (pdo_m a HWa.out S g h f cl m _ HP.out HF.out hm1).mono ?_; rintro e w3 ⟨rfl, hdid⟩))
            go_roundw
            case rel => exact ⟨k + 1, by go_num, by omega, by omega, Lib.hid (HI.out.step Hsz.out hml HS.out hdid)⟩
            case measure => simp [intOf]; omega
          · have dc : decide ((k : Int) < 80) = false := by simp; omega
            go_wp2_with fail
            go_meet
            exact ⟨_, by omega, HI⟩
        · have dlt : decide ((k : Int) < (len : Int)) = false := by simp; omega
          go_wp2_with fail
          go_meet
          exact ⟨_, by omega, HI⟩
    case rest =>
    obtain ⟨K, hK, HI⟩ := hcut
    clear HLI
    generalize hwx : wc = wx at *
    clear hwx
    have hsz : w.heap.size ≤ wx.heap.size := HI.out.bel.size
    obtain ⟨S, m, hP, hml, hS⟩ := HI.out.ex
    have HP := Lib.hid hP
    have HS := Lib.hid hS
    obtain ⟨Ar, cr, L, he, hR⟩ := hP.ref
    have hLl : L.length = m.length := by rw [← he]; simp [usOf]
    obtain ⟨n, hn⟩ : ∃ n, L.length = n := ⟨_, rfl⟩
    have HR := Lib.hid hR
    have He := Lib.hid he
    have Hn := Lib.hid hn
    have hrow := hR.row
    rw [hn] at hrow
    have HRow := Lib.hid hrow
    have hltx := hR.lt
    have hm1 : m.length ≤ 100000 := by omega
    clear hP hS he hR hn hrow hLl
    go_upto_region 14 with (go_at_call 23; refine (pright_m S g h f cl m _ HP.out hm1).mono ?_; rintro e w3 ⟨rfl, hb3⟩)
    have HB3 := Lib.hid hb3
    have hs3 := hb3.size
    clear hb3
    go_upto_region 17 with (go_at_call 24; refine (pclone_m S g f cl _ _ (HP.out.tab.below HB3.out)).mono ?_; rintro e w4 ⟨g2, rfl, hT4, hb4, hg2⟩)
    have hs4 := hb4.size
    have HB4 := Lib.hid (Below.then HB3.out hb4 hs3)
    have HT4 := Lib.hid hT4
    have hrow4 := (HB4.out.block h hltx).trans HRow.out
    have cc0 : w4.cell? ⟨h, 0, none⟩ = some (.int .i64 f) := row_c hrow4 0 rfl
    have cc1 : w4.cell? ⟨h, 1, none⟩ = some (.int .i64 cl) := row_c hrow4 1 rfl
    have cc2 : w4.cell? ⟨h, 2, none⟩ = some (.slice Ar n cr) := row_c hrow4 2 rfl
    clear hb4 hT4 hrow4
    go_upto_region 18 with fail
    clear cc0 cc1 cc2
    have hLI2 : LI wx (w4.alloc (.cells #[.int .i64 f, .int .i64 cl, .slice Ar n cr] 57)) wx.heap.size g2 w4.heap.size f cl 80 :=
      LI.copy HR.out He.out HP.out.wm (HT4.out.below (alloc_below _ _)) (fun k hk => Nat.le_trans hs3 hk.1) (fun hh => absurd hh.2 (Nat.lt_irrefl _)) (Nat.le_trans hs3 hs4) (Below.then HB4.out (alloc_below _ _) HB4.out.size) (by rw [Hn.out]; exact heap_alloc_new _ _) (by omega)
    have HLI2 := Lib.hid hLI2
    have HI1 := HI
    clear hLI2 HI HT4 HR He Hn HRow HB4 HB3
    have hm80 : m.length ≤ 80 := by omega
    clear hs3 hs4 hg2
    go_upto_block 2 with fail
    generalize w4.heap.size = h2 at HLI2 ⊢
    go_cut [15] from 84 to 100 (fun i wz => ∃ K, K ≤ 120 ∧ Hid (LI wx wz wx.heap.size g2 h2 f cl K))
    case first =>
      go_wp2_with fail
      go_loopw [15] (fun i wr => ∃ k : Nat, i = .int .i64 (k : Int) ∧ k ≤ len2 ∧ k ≤ 40 ∧ Hid (LI wx wr wx.heap.size g2 h2 f cl (80 + k))) (fun i _ => 40 - (intOf i).toNat)
      case atStart => exact ⟨0, rfl, by omega, by omega, HLI2⟩
      case round =>
        obtain ⟨k, rfl, hk, hkc, HI⟩ := hrel
        have hsz : wx.heap.size ≤ wr.heap.size := HI.out.bel.size
        by_cases hlt : k < len2
        · have dlt : decide ((k : Int) < (len2 : Int)) = true := by simp; omega
          by_cases hc : k < 40
          · have dc : decide ((k : Int) < 40) = true := by simp; omega
            obtain ⟨b, o, hAe, hb, hlies⟩ := Hcell2.out (by omega)
            subst hAe
            have hx0 : k < l2.length := by have := Hlen2.out; omega
            have hwa := Hl2.out l2[k] (List.getElem_mem hx0)
            have hcs : wr.rangeAt b (o + k * 11) (ac l2[k]) := act_cells (hlies.keep ((Below.then HI1.out.bel HI.out.bel HI1.out.bel.size).block b hb)) hx0
            obtain ⟨a, hy⟩ : ∃ x, l2[k] = x := ⟨_, rfl⟩
            rw [hy] at hcs hwa
            have HG := Lib.hid hcs
            have HWa := Lib.hid hwa
            have i0 : (0 : Int) ≤ (k : Int) := by omega
            have i1 : (k : Int) < (len2 : Int) := by omega
            obtain ⟨S, m, hP, hml, hS⟩ := HI.out.ex
            have HP := Lib.hid hP
            have HS := Lib.hid hS
            have hm1 : m.length + 1 ≤ 100000 := by omega
            have Hsz := Lib.hid hsz
            clear hlies hy hcs hwa hP hS hsz
            try clear hltx
            try clear hm80
            try clear HI1
            try clear Hcell
            try clear Hcell2
            clear Hl Hl2 HNew hh1 hg
            try clear HLI2
            go_wp2_with (first | (refine list_load rfl 51 (.tmp 97) rfl b (o + k * 11) rfl (ac a) _ HG.out Try.underlying51 rfl act_size ?_) | (go_at_call 22; refine (pdo_m a HWa.out S g2 h2 f cl m _ HP.out HF.out hm1).mono ?_; rintro e w3 ⟨rfl, hdid⟩))
            go_roundw
            case rel => exact ⟨k + 1, by go_num, by omega, by omega, Lib.hid (HI.out.step Hsz.out hml HS.out hdid)⟩
            case measure => simp [intOf]; omega
          · have dc : decide ((k : Int) < 40) = false := by simp; omega
            go_wp2_with fail
            go_meet
            exact ⟨_, by omega, HI⟩
        · have dlt : decide ((k : Int) < (len2 : Int)) = false := by simp; omega
          go_wp2_with fail
          go_meet
          exact ⟨_, by omega, HI⟩
    case rest =>
    obtain ⟨K2, hK2, HI2⟩ := hcut
    clear HLI2
    generalize hwy : wc = wy at *
    clear hwy
    have hsz2 := HI2.out.bel.size
    obtain ⟨S2, m2, hP2, hml2, hS2⟩ := HI2.out.ex
    have HP2 := Lib.hid hP2
    have hm2 : m2.length ≤ 100000 := by omega
    clear hP2 hS2
    go_wp2_with (first
      | (go_at_call 23; first
          | (have _ := HB6; refine (pright_m S g h f cl m _ (HP.out.below HB6.out) hm1).mono ?_; rintro e w7 ⟨rfl, hb7⟩; have HB7 := Lib.hid hb7; clear hb7)
          | (refine (pright_m S2 g2 h2 f cl m2 _ HP2.out hm2).mono ?_; rintro e w6 ⟨rfl, hb6⟩; have HB6 := Lib.hid (Below.then HI2.out.bel hb6 hsz2); clear hb6))
      | (go_at_call 15; refine (wakes13 _).mono ?_; rintro e w8 ⟨rfl, hb8⟩))
    go_ret
    have s6 := HB6.out.size
    have s7 := HB7.out.size
    exact ⟨rfl, Below.then (Below.then (Below.then HI1.out.bel HB6.out hsz) HB7.out (by omega)) hb8 (by omega)⟩
end Go.Proofs.Ytmbdailffhdonaa.propPlays
