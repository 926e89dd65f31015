/- A client's Issue while it waits; its tick. Printed by gen_cl8.py. -/
import Derived.Test.YtipmjleohadoeaaGreatCl4Sa
import Derived.Test.YtipmjleohadoeaaGreatRmSa
import Derived.Deep.CutBlock
namespace Go.Proofs.YtipmjleohadoeaaGreat
open Go.RowKit
set_option linter.unusedVariables false
set_option linter.unusedSimpArgs false

set_option maxRecDepth 100000 in
set_option maxHeartbeats 8000000 in
theorem issue_busy (U : Nat → Prop) (g k ct : Nat) (c : Cf) (id : Int) (s : CS) (kk y v : Int) (w : World) (h : Clm w U k ct g c id s) (hw : s.waits = true) :
    Calls Tryz.prog 12 #[.pointer (some ⟨k, 0, none⟩), .agg #[.int .i64 kk, .int .i64 y, .int .i64 v]] w fun e w' => e = .returned (.tuple #[.agg #[.int .i64 0, .int .i64 0, .int .i64 0, .int .i64 0, .int .i64 0, .int .i64 0], .int .i64 5]) ∧ Below w.heap.size w w' := by
  have hba := alloc_below w (.cells #[.int .i64 kk, .int .i64 y, .int .i64 v] 40)
  have hbb := alloc_below (w.alloc (.cells #[.int .i64 kk, .int .i64 y, .int .i64 v] 40)) (.cells #[.int .i64 0, .int .i64 0, .int .i64 0, .int .i64 0, .int .i64 0, .int .i64 0] 42)
  have hcb := heap_alloc_new (w.alloc (.cells #[.int .i64 kk, .int .i64 y, .int .i64 v] 40)) (.cells #[.int .i64 0, .int .i64 0, .int .i64 0, .int .i64 0, .int .i64 0, .int .i64 0] 42)
  have hsa : (w.alloc (.cells #[.int .i64 kk, .int .i64 y, .int .i64 v] 40)).heap.size = w.heap.size + 1 := by simp
  have hsb : ((w.alloc (.cells #[.int .i64 kk, .int .i64 y, .int .i64 v] 40)).alloc (.cells #[.int .i64 0, .int .i64 0, .int .i64 0, .int .i64 0, .int .i64 0, .int .i64 0] 42)).heap.size = w.heap.size + 2 := by simp
  rw [hsa] at hcb
  have hbw := hba.trans (hbb.mono (by omega))
  clear hba hbb
  have HN := Lib.hid h
  clear h
  go_enter Tryz.func12, Tryz.ntmps12
  go_upto_region 1 with fail
  obtain ⟨W, hW⟩ : ∃ W, (w.alloc (.cells #[.int .i64 kk, .int .i64 y, .int .i64 v] 40)).alloc (.cells #[.int .i64 0, .int .i64 0, .int .i64 0, .int .i64 0, .int .i64 0, .int .i64 0] 42) = W := ⟨_, rfl⟩
  rw [hW] at hbw hcb hsb ⊢
  have HNW := Lib.hid (HN.out.below hbw)
  obtain ⟨Ai, ci, Aa, ca, Ac, cc, Ao, co, L, ho⟩ := HNW.out.opens
  have hrow := ho.row
  rw [hw] at hrow
  have f18 : W.cell? ⟨k, 18, none⟩ = some (.bool true) := rowc hrow 18 rfl
  have hth := row_there hcb
  obtain ⟨s1, s2⟩ := row_store hcb [.int .i64 0, .int .i64 0, .int .i64 0, .int .i64 0, .int .i64 0, .int .i64 0] rfl
  have Hth := Lib.hid hth
  have S1 := Lib.hid s1
  have HBz := Lib.hid hbw
  clear hW hbw hcb hsb hsa ho hrow hth s1 s2 HN HNW
  go_wp2_with (first | (refine wpList_store_mid rfl 42 (.tmp 4) (.tmp 12) rfl (w.heap.size + 1) 0 #[.int .i64 0, .int .i64 0, .int .i64 0, .int .i64 0, .int .i64 0, .int .i64 0] rfl rfl Hth.out rst_sizeR (by simp [Value.oneCell']) ?_))
  refine bodyPost_ret (v := .tuple #[.agg #[.int .i64 0, .int .i64 0, .int .i64 0, .int .i64 0, .int .i64 0, .int .i64 0], .int .i64 5]) ?_ rfl ?_
  · exact results_cell_row1 Tryz.results12 _ _ (w.heap.size + 1) _ _ _ _ rfl S1.out Tryz.underlying42 rfl rst_sizeR
  · exact ⟨rfl, ((Fp.of_below HBz.out (fun _ => False)).setCells (Or.inr (by omega)) _).to_below (Nat.le_refl _) fun _ _ h => h.elim⟩
/-- Its clock has gone on. -/
theorem Clm.ticked {W : World} {U : Nat → Prop} {k ct g : Nat} {c : Cf} {id n : Int} {s : CS} (h : Clm W U k ct g c id s) : Clm (W.setCell ⟨ct, 0, none⟩ (.int .i64 n)) U k ct g c id { s with now := n } := by
  obtain ⟨Ai, ci, Aa, ca, Ac, cc, Ao, co, L, ho⟩ := h.opens
  have hs : (W.setCell ⟨ct, 0, none⟩ (.int .i64 n)).heap.size = W.heap.size := by simp
  refine ⟨⟨_, _, _, _, L, (set_same k (row_ne ho.row ho.clk (by decide))).trans ho.row, own_keep ho.oi fun b hb => set_same b (own_ne_row ho.oi ho.clk (by decide) b hb), own_keep ho.oa fun b hb => set_same b (own_ne_row ho.oa ho.clk (by decide) b hb), own_keep ho.oc fun b hb => set_same b (own_ne_row ho.oc ho.clk (by decide) b hb), ho.om, ho.oo.keep fun b hb hlt hor => ⟨set_same b ?_, hb⟩, ho.ui, ho.ua, ho.uc⟩, ?_, ho.uk, ho.uct, fun b hb => by rw [hs]; exact ho.lt b hb⟩
  · rcases hor with h1 | ⟨x, hx, h1⟩
    · exact own_ne_row ho.oo.own ho.clk (by decide) b h1
    · exact own_ne_row (ho.oo.ok x hx).1 ho.clk (by decide) b h1
  · rw [heap_setCell_same W ct 0 _ _ _ ho.clk]; rfl
theorem Cn.ticked {W : World} {U : Nat → Prop} {g bm k ct : Nat} {K : List Key} {c : Cf} {id n : Int} {s : CS} (h : Cn W U g bm K k ct c id s) : Cn (W.setCell ⟨ct, 0, none⟩ (.int .i64 n)) U g bm K k ct c id { s with now := n } ∧ Fp (fun b => U b ∨ b = bm) W (W.setCell ⟨ct, 0, none⟩ (.int .i64 n)) := by
  have hf : Fp (fun b => b = ct) W (W.setCell ⟨ct, 0, none⟩ (.int .i64 n)) := (Fp.refl (fun b => b = ct) W).setCell (p := ⟨ct, 0, none⟩) (Or.inl (show ct = ct from rfl)) _
  exact ⟨⟨h.nt.fp hf (fun he => h.sep.1 (he ▸ h.cm.uct)) (fun he => h.sep.2 (he ▸ h.cm.uct)), h.cm.ticked, h.sep⟩, hf.mono fun b _ hb => .inl (hb ▸ h.cm.uct)⟩

set_option maxRecDepth 100000 in
set_option maxHeartbeats 8000000 in
theorem tick_m (U : Nat → Prop) (g bm k ct : Nat) (K : List Key) (c : Cf) (id : Int) (s : CS) (w : World) (h : Cn w U g bm K k ct c id s) (hf : 1 ≤ c.f ∧ c.f ≤ 4) (hid : 0 ≤ id ∧ id < 100) (hre : 1 ≤ c.re ∧ c.re ≤ 64) (hn : 0 ≤ s.now ∧ s.now < 1048576) (hat : 0 ≤ s.at_ ∧ s.at_ ≤ s.now) (hlen : s.issued.length ≤ 1000000) (hol : s.out.length ≤ 1000000) (hK : K.length < 1000000)
    (hw : s.waits = true → s.issued ≠ [] ∧ okS K (reqM id s.last) = true) :
    Calls Tryz.prog 21 #[.pointer (some ⟨k, 0, none⟩)] w fun e w' => e = .returned (.tuple #[]) ∧ ∃ U', Cn w' U' g bm (tickS c id K s).2 k ct c id (tickS c id K s).1 ∧ (∀ b, U' b → U b ∨ w.heap.size ≤ b) ∧ Fp (fun b => U b ∨ b = bm) w w' := by
  obtain ⟨Ai, ci, Aa, ca, Ac, cc, Ao, co, L, ho⟩ := h.cm.opens
  have hk17 : w.cell? ⟨k, 17, none⟩ = some (.pointer (some ⟨ct, 0, none⟩)) := rowc ho.row 17 rfl
  have HCK := Lib.hid ho.clk
  obtain ⟨hcn, hft⟩ := h.ticked (n := s.now + 1)
  obtain ⟨Ai1, ci1, Aa1, ca1, Ac1, cc1, Ao1, co1, L1, ho1⟩ := hcn.cm.opens
  have HCn := Lib.hid hcn
  have HFt := Lib.hid hft
  have HR1 := Lib.hid ho1.row
  have HC1 := Lib.hid ho1.clk
  have htk : tickS c id K s = if s.waits = true ∧ (s.now + 1 - s.at_) % c.re = 0 then sendS c id K { s with now := s.now + 1 } else ({ s with now := s.now + 1 }, K) := by unfold tickS; rw [if_pos hn.2]
  have Htk := Lib.hid htk
  clear ho ho1 hcn hft htk h
  go_enter Tryz.func21, Tryz.ntmps21
  go_wp2_with fail
  clear hk17
  refine (ck_tick ct s.now _ w HCK.out hn).mono ?_
  rintro e w1 ⟨rfl, hw1⟩
  rw [← hw1] at HCn HFt HR1 HC1
  have hrow := HR1.out
  clear hw1 HCK
  by_cases hww : s.waits = true
  case neg =>
    have hwf : s.waits = false := by simpa using hww
    have f18 : w1.cell? ⟨k, 18, none⟩ = some (.bool false) := by rw [← hwf]; exact rowc hrow 18 rfl
    clear hrow
    rw [if_neg (fun hh => hww hh.1)] at Htk
    have hT := Htk.out
    go_wp2_with fail
    refine bodyPost_ret (results_none rfl _ _ _) rfl ?_
    exact ⟨rfl, U, by rw [hT]; exact HCn.out, fun b hb => .inl hb, HFt.out⟩
  case pos =>
    have f18 : w1.cell? ⟨k, 18, none⟩ = some (.bool true) := by rw [← hww]; exact rowc hrow 18 rfl
    go_upto_region 1 with fail
    clear f18
    have l17 := later_cell (w := w1) (show w1.cell? ⟨k, 17, none⟩ = some (.pointer (some ⟨ct, 0, none⟩)) from rowc hrow 17 rfl)
    have l20 := later_cell (w := w1) (show w1.cell? ⟨k, 20, none⟩ = some (.int .i64 s.at_) from rowc hrow 20 rfl)
    have l14 := later_cell (w := w1) (show w1.cell? ⟨k, 14, none⟩ = some (.int .i64 c.re) from rowc hrow 14 rfl)
    have HNOW : Hid (∀ p : Later w1, Calls Tryz.prog 36 #[.pointer (some ⟨ct, 0, none⟩)] p.W fun e w' => e = .returned (.int .i64 (s.now + 1)) ∧ p.W = w') := Lib.hid fun p => ck_now ct (s.now + 1) _ p.W ((p.h.block ct (HCn.out.cm.lt _ HCn.out.cm.uct)).trans HC1.out)
    have hwr : IntKind.i64.wrap (s.now + 1 - s.at_) = s.now + 1 - s.at_ := IntWalk.i64_in _ (by omega)
    have hre0 : ¬ c.re = 0 := by omega
    have htm : (s.now + 1 - s.at_).tmod c.re = (s.now + 1 - s.at_) % c.re := Int.tmod_eq_emod_of_nonneg (by omega)
    clear hrow
    go_cut [31] from 15 (fun z_ wx => z_ = .bool (decide ((s.now + 1 - s.at_) % c.re = 0)) ∧ Hid (Below w1.heap.size w1 wx))
    case first =>
      refine wp_region_later (by kernel_rfl) (by kernel_rfl) ?_
      repeat ((with_reducible show wpQuiet _ _ _ _ _ _); first | go_big_quiet_step ((go_at_call 36; exact later_same _ (HNOW.out _))) | quiet_step ((go_at_call 36; exact later_same _ (HNOW.out _))))
      refine wpQuiet_nil ?_
      intro w3 hw'
      have hb3 := later_out hw'
      have HB3 := Lib.hid hb3
      clear hw' hb3 l17 l20 l14
      go_wp2_with fail
      go_meet
      exact ⟨rfl, HB3⟩
    case rest =>
      obtain ⟨rfl, HB⟩ := hcut
      by_cases hz : (s.now + 1 - s.at_) % c.re = 0
      case neg =>
        have hdz : decide ((s.now + 1 - s.at_) % c.re = 0) = false := decide_eq_false hz
        rw [if_neg (fun hh => hz hh.2)] at Htk
        have hT := Htk.out
        go_wp2_with fail
        go_end0
        refine ⟨rfl, U, by rw [hT]; exact HCn.out.below HB.out, fun b hb => .inl hb, HFt.out.trans (Fp.of_below HB.out (fun b => U b ∨ b = bm)) fun b hb => .inl hb⟩
      case pos =>
        have hdz : decide ((s.now + 1 - s.at_) % c.re = 0) = true := decide_eq_true hz
        rw [if_pos ⟨hww, hz⟩] at Htk
        obtain ⟨hi1, hi2⟩ := hw hww
        go_wp2_with fail
        refine (send_m U g bm k ct K c id { s with now := s.now + 1 } wc (HCn.out.below HB.out) hf hid hi1 hlen hol hi2 hK).mono ?_
        rintro e w5 ⟨rfl, U', h1, h2, h3⟩
        go_wp2_with fail
        go_end0
        refine ⟨rfl, U', by rw [Htk.out]; exact h1, fun b hb => ?_, ?_⟩
        · rcases h2 b hb with h4 | h4
          · exact .inl h4
          · have := HFt.out.size; have := HB.out.size; right; omega
        · exact (HFt.out.trans (Fp.of_below HB.out (fun b => U b ∨ b = bm)) fun b hb => .inl hb).trans h3 fun b hb => .inl hb
end Go.Proofs.YtipmjleohadoeaaGreat
