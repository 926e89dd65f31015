/- A client's send. Printed by gen_cl4.py. -/
import Derived.Test.YtipmjleohadoeaaGreatCl3Sa
import Derived.Test.YtipmjleohadoeaaGreatSlSa
namespace Go.Proofs.YtipmjleohadoeaaGreat
open Go.RowKit
set_option linter.unusedVariables false
set_option linter.unusedSimpArgs false

theorem sends_succ (n : Nat) (b : List UInt8) : sendsTo (n + 1) b = sendsTo n b ++ [((n : Int), b)] := by unfold sendsTo; rw [List.range_succ, List.map_append]; rfl
theorem sends_len (n : Nat) (b : List UInt8) : (sendsTo n b).length = n := by unfold sendsTo; simp
set_option maxRecDepth 100000 in
set_option maxHeartbeats 8000000 in
theorem send_m (U : Nat → Prop) (g bm k ct : Nat) (K : List Key) (c : Cf) (id : Int) (s : CS) (w : World) (h : Cn w U g bm K k ct c id s) (hf : 1 ≤ c.f ∧ c.f ≤ 4) (hid : 0 ≤ id ∧ id < 100) (hl : s.issued ≠ []) (hlen : s.issued.length ≤ 1000000) (hol : s.out.length ≤ 1000000) (hok : okS K (reqM id s.last) = true) (hK : K.length < 1000000) :
    Calls Tryz.prog 37 #[.pointer (some ⟨k, 0, none⟩)] w fun e w' => e = .returned (.tuple #[]) ∧ ∃ U', Cn w' U' g bm (sendS c id K s).2 k ct c id (sendS c id K s).1 ∧ (∀ b, U' b → U b ∨ w.heap.size ≤ b) ∧ Fp (fun b => U b ∨ b = bm) w w' := by
  have hgl := h.nt.lt
  obtain ⟨Ai, ci, Aa, ca, Ac, cc, Ao, co, L, ho⟩ := h.cm.opens
  have HN := Lib.hid h
  have hkl := ho.lt k ho.uk
  have hkbm : k ≠ bm := fun he => h.sep.2 (he ▸ ho.uk)
  have l15 := laterF_cell (w := w.drew) (T := fun b => b = bm) (show w.drew.cell? ⟨k, 15, none⟩ = some (.int .i64 id) from rowc ho.row 15 rfl) hkbm
  have l16 := laterF_cell (w := w.drew) (T := fun b => b = bm) (show w.drew.cell? ⟨k, 16, none⟩ = some (.pointer (some ⟨g, 0, none⟩)) from rowc ho.row 16 rfl) hkbm
  have hwi : IntKind.i64.wrap (100 + id) = 100 + id := IntWalk.i64_in _ (by omega)
  have hM : sendS c id K s = ({ s with out := s.out ++ sendsTo (Psp.nodes c.f).toNat (envB K (reqM id s.last)) }, sealK K (reqM id s.last)) := by unfold sendS; rw [if_pos hok]
  have HM := Lib.hid hM
  have HO := Lib.hid hok
  clear ho h hM hok
  go_enter Tryz.func37, Tryz.ntmps37
  go_wp2_with fail
  refine wp_region_phasesF (fun b => b = bm) [(true, 0), (true, 1), (true, 2), (true, 3), (true, 4), (true, 5), (true, 9), (true, 10), (true, 11), (true, 12), (false, 6), (false, 7), (true, 8), (false, 13), (true, 14), (true, 15), (true, 16), (true, 17), (true, 18)] (by kernel_rfl) (by kernel_rfl) ?_
  simp only [phS, List.getElem?_cons_zero, List.getElem?_cons_succ, Option.toList, List.length_cons, List.length_nil, Nat.reduceAdd, List.drop_succ_cons, List.drop_zero]
  repeat (first | go_big_quiet_step (fail) | quiet_step (fail) | refine wpQuiet_nil ?_)
  clear l15 l16
  go_wp2_with fail
  have hdr : Below w.heap.size w w.drew := (Below.refl _ _).drew
  refine (last_m U k ct g c id s w.drew (HN.out.cm.below hdr) hl hlen).mono ?_
  rintro e w1 ⟨rfl, hb1⟩
  have hbw1 : Below w.heap.size w w1 := hdr.trans hb1
  have F1 := Lib.hid (Fp.of_below hb1 (fun b => b = bm))
  have HN1 := Lib.hid (HN.out.below hbw1)
  have hz1 := hbw1.size
  have HB1 := Lib.hid hbw1
  clear hb1 hbw1
  go_wp2_with fail
  refine And.intro ⟨⟨w1, F1.out⟩, rfl⟩ ?_
  go_wp2_with fail
  refine And.intro ⟨⟨_, F1.out.alloc _⟩, rfl⟩ ?_
  repeat (first | go_big_quiet_step (fail) | quiet_step (fail) | refine wpQuiet_nil ?_)
  have hba := alloc_below w1 (.cells #[.int .i64 s.last.c, .int .i64 s.last.t, .int .i64 s.last.k, .int .i64 s.last.y, .int .i64 s.last.v, .int .i64 s.last.s] 42)
  have hca := heap_alloc_new w1 (.cells #[.int .i64 s.last.c, .int .i64 s.last.t, .int .i64 s.last.k, .int .i64 s.last.y, .int .i64 s.last.v, .int .i64 s.last.s] 42)
  go_wp2_with fail
  obtain ⟨w2, hw2⟩ : ∃ W, w1.alloc (.cells #[.int .i64 s.last.c, .int .i64 s.last.t, .int .i64 s.last.k, .int .i64 s.last.y, .int .i64 s.last.v, .int .i64 s.last.s] 42) = W := ⟨_, rfl⟩
  have hF2 : Fp (fun b => b = bm) w.drew (w1.alloc (.cells #[.int .i64 s.last.c, .int .i64 s.last.t, .int .i64 s.last.k, .int .i64 s.last.y, .int .i64 s.last.v, .int .i64 s.last.s] 42)) := F1.out.alloc _
  rw [hw2] at hba hca hF2 ⊢
  have hlt2 := (Array.getElem?_eq_some_iff.1 hca).1
  have hrd : RdP w2 (fun b => b < w2.heap.size) 6 (.slice (some ⟨w1.heap.size, 0, none⟩) 1 1) 1 ([s.last].flatMap rq) := ⟨rfl, some ⟨w1.heap.size, 0, none⟩, 1, rfl, Nat.le_refl _, by unfold maxLen; omega, fun _ => ⟨w1.heap.size, 0, rfl, hlt2, hlt2, fun j u hj => by
    rw [Nat.zero_add]
    rw [cell_of_row _ _ j _ _ _ hca, List.getElem?_toArray]
    simpa [rq, iv] using hj⟩⟩
  have HN2 := Lib.hid (HN1.out.below hba)
  have F2 := Lib.hid hF2
  have HRD := Lib.hid hrd
  have hz2 := hba.size
  clear hw2 hba hca hF2 hrd
  refine (seal_m (reqM id s.last) _ _ _ _ g bm K w2 ⟨HRD.out, RdP.none_, RdC.nil, RdA.nil⟩ ⟨by show _ ≤ 100 + id; omega, by show 100 + id ≤ _; omega⟩ HN2.out.nt (by omega)).mono ?_
  rintro e w3 ⟨v, rfl, hv, hN3, hF3⟩
  rw [HO.out] at hv ⊢
  rw [res_yes] at hv
  obtain ⟨bs, hbs⟩ : ∃ bs, envB K (reqM id s.last) = bs := ⟨_, rfl⟩
  have hbs2 : Psp.encN (sealN K (kM (reqM id s.last))) ++ Psp.encM (reqM id s.last) = bs := hbs
  rw [hbs2] at hv
  obtain ⟨Av, cv_, rfl, _, _, _⟩ := own_slice hv
  rw [hbs] at HM
  have HV := Lib.hid hv
  have hU3 : ∀ b, U b → ¬ b = bm := fun b hb he => HN2.out.sep.2 (he ▸ hb)
  have HC3 := Lib.hid (HN2.out.cm.fp hF3 hU3)
  have HN3 := Lib.hid hN3
  have hF03 := F2.out.trans hF3 fun k hk => .inl hk
  have F3 := Lib.hid hF03
  have hz3 := hF3.size
  have hbl : bs.length ≤ 65536 + 6 := by
    have h1 := HO.out
    unfold okS okE at h1
    rw [Bool.and_eq_true, Bool.and_eq_true, decide_eq_true_eq] at h1
    rw [← hbs2, List.length_append]
    omega
  clear hv hbs hbs2 hN3 hF3 hU3 hF03 HN2 HRD HN1
  go_wp2_with fail
  refine And.intro ⟨⟨w3, F3.out⟩, rfl⟩ ?_
  repeat (first | go_big_quiet_step (fail) | quiet_step (fail) | refine wpQuiet_nil ?_)
  go_wp2_with fail
  clear F1 F2
  have F3 : Hid (Fp (fun b => b = bm) w w3) := Lib.hid ⟨F3.out.os, F3.out.tape, F3.out.output, F3.out.size, F3.out.block⟩
  have hnn := nodes_is hf
  obtain ⟨n, hn⟩ : ∃ n, (Psp.nodes c.f).toNat = n := ⟨_, rfl⟩
  have hnb : (n : Int) = Psp.nodes c.f := by omega
  have HNB := Lib.hid hnb
  have hn13 : n ≤ 13 := by omega
  rw [hn] at HM
  have HS : Hid (∀ b, U b → b < w.heap.size) := Lib.hid HN.out.cm.lt
  have HSep := Lib.hid HN.out.sep
  have hVlt : ∀ b, (Value.slice Av bs.length cv_).ownBlock = some b → w2.heap.size ≤ b := fun b hb => (HV.out.lt b hb).1
  have HVlt := Lib.hid hVlt
  have hsu : sealK K (reqM id s.last) = (sendS c id K s).2 := by rw [HM.out]
  have hzw2 : w.heap.size ≤ w2.heap.size := by omega
  have hbmw : bm < w.heap.size := hgl.2
  clear hn hnn hnb hVlt
  go_loopw [4] (fun i wr => ∃ (j : Nat) (U' : Nat → Prop), i = .int .i64 (j : Int) ∧ j ≤ n ∧ Hid (Clm wr U' k ct g c id { s with out := s.out ++ sendsTo j bs }) ∧ Hid (∀ b, U' b → U b ∨ w3.heap.size ≤ b) ∧ Hid (Fp (fun b => U b) w3 wr)) (fun i _ => n - (intOf i).toNat)
  case atStart => exact ⟨0, U, rfl, Nat.zero_le _, Lib.hid (by show Clm w3 U k ct g c id { s with out := s.out ++ [] }; rw [List.append_nil]; exact HC3.out), Lib.hid fun b hb => .inl hb, Lib.hid (Fp.refl _ _)⟩
  case round =>
    obtain ⟨j, U', rfl, hj, HC, HU, HF⟩ := hrel
    obtain ⟨Bi, di, Ba, da, Bc, dc, Bo, dO, L', ho⟩ := HC.out.opens
    have HO' := Lib.hid ho
    have hor := ho.row
    have f0 : wr.cell? ⟨k, 0, none⟩ = some (.int .i64 c.f) := rowc hor 0 rfl
    have l23 := laterF_cell (w := wr.drew) (T := fun b => b ≠ k) (show wr.drew.cell? ⟨k, 23, none⟩ = some (.slice Bo L'.length dO) from rowc hor 23 rfl) (fun hh => hh rfl)
    clear hor ho
    by_cases hlt : j < n
    · have hd1 : decide ((j : Int) < Psp.nodes c.f) = true := by rw [← HNB.out]; simp; omega
      go_upto_region 5 with (go_at_call 58; refine (b_nodes_any _ _).mono ?_; rintro e w' ⟨rfl, rfl⟩)
      have HV4 : Hid (wr.drew.ownsRow w2.heap.size 5 1 (.slice Av bs.length cv_) bs.length (bs.map bv)) := Lib.hid (own_keep (w' := wr.drew) HV.out fun b hb => HF.out.block b (HV.out.lt b hb).2 (fun hu => by have := HS.out b hu; have := (HV.out.lt b hb).1; omega))
      have HRb := Lib.hid (Rd.of_own HV4.out)
      have hLl : L'.length = s.out.length + j := by
        have h1 := congrArg List.length HO'.out.om
        rw [List.length_map] at h1
        rw [h1]
        show (s.out ++ sendsTo j bs).length = _
        rw [List.length_append, sends_len]
      have hLb : L'.length ≤ 2000000 := by omega
      clear hLl
      have hlk : k < wr.heap.size := HO'.out.lt k HO'.out.uk
      have hw3r : w3.heap.size ≤ wr.heap.size := HF.out.size
      refine wp_region_phasesF (fun b => b ≠ k) [(true, 0), (true, 1), (true, 2), (true, 3), (true, 4), (true, 5), (true, 6), (false, 7), (true, 8), (false, 9), (false, 10)] (by kernel_rfl) (by kernel_rfl) ?_
      simp only [phS, List.getElem?_cons_zero, List.getElem?_cons_succ, Option.toList, List.length_cons, List.length_nil, Nat.reduceAdd, List.drop_succ_cons, List.drop_zero]
      repeat (first | go_big_quiet_step (fail) | quiet_step (fail) | refine wpQuiet_nil ?_)
      clear l23 f0
      go_wp2_with (at_builtin; refine wpList_app bytesE rfl _ _ rfl wr.drew.heap.size _ 0 [] rfl (World.ownsRow_nil _ _ _ _) wr.drew.heap.size _ bs.length _ rfl HRb.out (by simp [bv, Value.oneCell']) (by unfold maxLen; omega) (by omega) (Nat.le_refl _) ?_; intro v4 w4 hown4 hg4 _; rw [Nat.zero_add, List.nil_append] at hown4; have hb4 : Below wr.heap.size wr w4 := (Below.refl _ _).drew.grown hg4 (Nat.le_refl _) (fun k hk => by simp [Act.eval, Value.ownBlock] at hk); have HOn4 := Lib.hid hown4; have HB4 := Lib.hid hb4; clear hg4 hown4 hb4; obtain ⟨A4, c4, rfl, _, _, _⟩ := own_slice HOn4.out)
      have FF4 : Hid (Fp (fun b => b ≠ k) wr.drew w4) := Lib.hid (Fp.of_below (show Below wr.drew.heap.size wr.drew w4 from ⟨HB4.out.os, HB4.out.tape, HB4.out.output, HB4.out.size, HB4.out.block⟩) _)
      have hz4 : wr.heap.size ≤ w4.heap.size := HB4.out.size
      refine And.intro ⟨⟨w4, FF4.out⟩, rfl⟩ ?_
      repeat (first | go_big_quiet_step (fail) | quiet_step (fail) | refine wpQuiet_nil ?_)
      go_wp2_with fail
      refine And.intro ⟨⟨_, FF4.out.alloc _⟩, rfl⟩ ?_
      have HOo := Lib.hid (own_below HO'.out.oo.own HB4.out)
      have hobk : ∀ b, (Value.slice Bo L'.length dO).ownBlock = some b → b ≠ k := own_ne_row HO'.out.oo.own HO'.out.row (by decide)
      have HObk := Lib.hid hobk
      clear hobk
      go_wp2_with (at_builtin; refine wpList_app1 sndE rfl _ _ rfl 0 (.slice Bo L'.length dO) L'.length (L'.flatMap sv) rfl HOo.out _ rfl rfl (by simp [Value.oneCell']) (by omega) (by decide) (Nat.zero_le _) ?_; intro v5 w5 hown5 hg5 _ hv5; have HOn5 := Lib.hid hown5; have HG5 := Lib.hid hg5; have HV5 := Lib.hid hv5; clear hown5 hg5 hv5; obtain ⟨A5, c5, rfl, _, _, _⟩ := own_slice HOn5.out)
      refine And.intro ⟨⟨w5, FF4.out.grown HG5.out (fun b hb => Or.inl (HObk.out b hb))⟩, rfl⟩ ?_
      have HF5 : Hid (Fp (fun b => (Value.slice Bo L'.length dO).ownBlock = some b) wr w5) := Lib.hid ((Fp.of_below HB4.out _).grown HG5.out (fun b hb => Or.inl hb))
      have hrow5 := (HF5.out.block k hlk (fun hh => HObk.out k hh rfl)).trans HO'.out.row
      have HR5 := Lib.hid hrow5
      have f23 : w5.cell? ⟨k, 23, none⟩ = some (.slice Bo L'.length dO) := rowc hrow5 23 rfl
      have z23 := frozen_of_row _ _ 23 _ _ hrow5
      have hz5 : w4.heap.size ≤ w5.heap.size := HG5.out.size
      clear hrow5
      go_wp2_with fail
      clear f23 z23
      have ho := HO'.out
      have hnew4 : ∀ b, (Value.slice A4 bs.length c4).ownBlock = some b → wr.heap.size ≤ b ∧ b < w4.heap.size := fun b hb => HOn4.out.lt b hb
      have hclk := (HF5.out.block ct (ho.lt ct ho.uct) (fun hh => own_ne_row ho.oo.own ho.clk (by decide) ct hh rfl)).trans ho.clk
      have hbyte : ∀ x ∈ L', w5.ownsRow 0 5 1 x.v x.b.length (x.b.map bv) := fun x hx => own_keep (ho.oo.ok x hx).1 fun b hb => HF5.out.block b ((ho.oo.ok x hx).1.lt b hb).2 (own_ne (ho.oo.ok x hx).1 ho.oo.own (by decide) b hb)
      have hnb : w5.ownsRow 0 5 1 (.slice A4 bs.length c4) bs.length (bs.map bv) := own_more (own_keep HOn4.out fun b hb => HG5.out.block b (hnew4 b hb).2 (fun he => by have := (ho.oo.own.lt b he.symm).2; have := (hnew4 b hb).1; omega)) (Nat.zero_le _)
      have hsnd : Outs w5 (fun b => U' b ∨ (wr.heap.size ≤ b ∧ b < w5.heap.size)) (.slice A5 (L'.length + 1) c5) (L' ++ [⟨(j : Int), bs, .slice A4 bs.length c4⟩]) := ⟨by rw [List.length_append, List.flatMap_append]; simpa [sv, iv] using HOn5.out, fun b hb => by
        rcases HV5.out with h1 | h1
        · rw [h1] at hb; exact .inl (ho.oo.hu b hb)
        · have h2 := (HOn5.out.lt b hb).2
          rw [h1] at hb; injection hb with hb
          right; omega, fun x hx => by
        rcases List.mem_append.1 hx with hx | hx
        · exact ⟨hbyte x hx, fun b hb => .inl ((ho.oo.ok x hx).2 b hb)⟩
        · rw [List.mem_singleton.1 hx]
          exact ⟨hnb, fun b hb => by have := hnew4 b hb; right; omega⟩⟩
      have hfin := (clo_cell (W := w5) (U := fun b => U' b ∨ (wr.heap.size ≤ b ∧ b < w5.heap.size)) (k := k) (ct := ct) (g := g) (c := c) (id := id) (j := 23) (u := (.slice A5 (L'.length + 1) c5)) (s' := { s with out := s.out ++ sendsTo (j + 1) bs }) (vo' := (.slice A5 (L'.length + 1) c5)) HR5.out rfl hclk (.inl ho.uk) (.inl ho.uct) (fun b hb => by rcases hb with hb | hb; (have := ho.lt b hb; omega); exact hb.2)
        (own_keep ho.oi fun b hb => HF5.out.block b (ho.oi.lt b hb).2 (own_ne ho.oi ho.oo.own (by decide) b hb)) (own_keep ho.oa fun b hb => HF5.out.block b (ho.oa.lt b hb).2 (own_ne ho.oa ho.oo.own (by decide) b hb)) (own_keep ho.oc fun b hb => HF5.out.block b (ho.oc.lt b hb).2 (own_ne ho.oc ho.oo.own (by decide) b hb))
        (by rw [List.map_append, ho.om, sends_succ]; show (s.out ++ sendsTo j bs) ++ [((j : Int), bs)] = _; rw [List.append_assoc]) hsnd (fun b hb => .inl (ho.ui b hb)) (fun b hb => .inl (ho.ua b hb)) (fun b hb => .inl (ho.uc b hb))).clm
      refine ⟨⟨j + 1, _, by go_num, by omega, Lib.hid hfin, Lib.hid fun b hb => ?_, Lib.hid ?_⟩, ?_⟩
      · rcases hb with hb | hb
        · exact HU.out b hb
        · right; omega
      · have h1 : Fp (fun b => U' b) wr (w5.setCell ⟨k, 23, none⟩ (.slice A5 (L'.length + 1) c5)) := (HF5.out.mono fun b _ hb => ho.oo.hu b hb).setCell (p := ⟨k, 23, none⟩) (Or.inl ho.uk) _
        exact HF.out.trans h1 fun b hb => HU.out b hb
      · simp [intOf]; omega
    · have hjn : j = n := by omega
      subst hjn
      have hd1 : decide ((j : Int) < Psp.nodes c.f) = false := by rw [← HNB.out]; simp
      clear l23
      go_wp2_with (go_at_call 58; refine (b_nodes_any _ _).mono ?_; rintro e w' ⟨rfl, rfl⟩)
      go_end0
      refine ⟨rfl, U', ?_, fun b hb => ?_, ?_⟩
      · rw [HM.out]
        refine ⟨HN3.out.fp HF.out (fun hu => HSep.out.1 hu) (fun hu => HSep.out.2 hu), HC.out, fun hu => ?_, fun hu => ?_⟩
        · rcases HU.out g hu with h1 | h1
          · exact HSep.out.1 h1
          · omega
        · rcases HU.out bm hu with h1 | h1
          · exact HSep.out.2 h1
          · omega
      · rcases HU.out b hb with h1 | h1
        · exact .inl h1
        · right; omega
      · exact (F3.out.mono fun b _ hb => .inr hb).trans HF.out fun b hb => .inl (.inl hb)
end Go.Proofs.YtipmjleohadoeaaGreat
