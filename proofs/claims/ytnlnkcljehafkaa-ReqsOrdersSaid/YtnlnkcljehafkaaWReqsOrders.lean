/- The walk of ReqsOrders. -/
import Derived.Test.YtnlnkcljehafkaaQhas
import Derived.Test.YtnlnkcljehafkaaWk5
import Derived.Deep.CutBlock
import Derived.Deep.RegionHeld3
namespace Go.Proofs.Ytnlnkcljehafkaa.reqsOrders
open Go.RowKit
set_option linter.unusedVariables false

theorem own_rd {w : World} {base m c : Nat} {A : Option Addr} {l : List Psp.Req} (h : w.ownsRow base 26 6 (.slice A m c) m (l.flatMap rq)) : RdP w (fun b => b < w.heap.size) 6 (.slice A m c) m (l.flatMap rq) := (Rd.of_own h).to_p (Nat.le_refl _)

/-- What stands behind each call of the drawn region: the box of r is as it was, and all that was there. -/
def Ost (wc : World) (N : Nat) (r : Psp.Req) (w' : World) : Prop :=
  w'.cell? ⟨N, 0, none⟩ = some (.int .i64 r.c) ∧ w'.cell? ⟨N, 1, none⟩ = some (.int .i64 r.t) ∧ w'.cell? ⟨N, 2, none⟩ = some (.int .i64 r.k) ∧ w'.cell? ⟨N, 3, none⟩ = some (.int .i64 r.y) ∧ w'.cell? ⟨N, 4, none⟩ = some (.int .i64 r.v) ∧ w'.cell? ⟨N, 5, none⟩ = some (.int .i64 r.s) ∧ Hid (Below wc.heap.size wc w')
theorem ost_keep {wc w1 w2 : World} {N : Nat} {r : Psp.Req} (hb : Below w1.heap.size w1 w2)
    (h : w1.cell? ⟨N, 0, none⟩ = some (.int .i64 r.c) ∧ w1.cell? ⟨N, 1, none⟩ = some (.int .i64 r.t) ∧ w1.cell? ⟨N, 2, none⟩ = some (.int .i64 r.k) ∧ w1.cell? ⟨N, 3, none⟩ = some (.int .i64 r.y) ∧ w1.cell? ⟨N, 4, none⟩ = some (.int .i64 r.v) ∧ w1.cell? ⟨N, 5, none⟩ = some (.int .i64 r.s) ∧ Hid (Below wc.heap.size wc w1)) :
    w2.cell? ⟨N, 0, none⟩ = some (.int .i64 r.c) ∧ w2.cell? ⟨N, 1, none⟩ = some (.int .i64 r.t) ∧ w2.cell? ⟨N, 2, none⟩ = some (.int .i64 r.k) ∧ w2.cell? ⟨N, 3, none⟩ = some (.int .i64 r.y) ∧ w2.cell? ⟨N, 4, none⟩ = some (.int .i64 r.v) ∧ w2.cell? ⟨N, 5, none⟩ = some (.int .i64 r.s) ∧ Hid (Below wc.heap.size wc w2) := by
  obtain ⟨h0, h1, h2, h3, h4, h5, h6⟩ := h
  have k : ∀ i v, w1.cell? ⟨N, i, none⟩ = some v → w2.cell? ⟨N, i, none⟩ = some v := fun i v h => (hb.cell (p := ⟨N, i, none⟩) (World.block_lt_of_cell? _ ⟨N, i, none⟩ h)).trans h
  exact ⟨k _ _ h0, k _ _ h1, k _ _ h2, k _ _ h3, k _ _ h4, k _ _ h5, Lib.hid (Below.then h6.out hb h6.out.size)⟩
theorem own_zero {w : World} {base b o n c : Nat} {e : TypeId} {xs : List Value} (h : w.ownsRow base e 6 (.slice (some ⟨b, o, none⟩) n c) n xs) : o = 0 := by
  rcases h.2 with ⟨h1, _⟩ | ⟨g, cap, cur, h1, _⟩
  · cases h1
  · injection h1 with e1 _ _
    injection e1 with e1
    injection e1
theorem list_store_mid {P : Program} {ops : Array Oper} {Q : Exit → Act → World → Prop} {a : Act} {w : World} {o : Oper} {rest : List Oper} (hw : Region.wanted o (yielded ops a.tmps) = true) (ty : TypeId) (x y : Operand) (ho : o.op = .store ty x y)
    (b off : Nat) (cs : List Value) (hx : a.eval x = .pointer (some ⟨b, off, none⟩)) (hy : a.eval y = .agg cs.toArray) (ht : w.there b off cs.length) (hi : (P.info? ty).map (·.size) = some cs.length) (h1 : ∀ v ∈ cs, v.oneCell' = true)
    (h : wpList P ops Q rest (a.put o.dst undef) (w.setCells b off cs)) : wpList P ops Q (o :: rest) a w :=
  BigFrame.wpList_want hw fun K hK => wp_store_mid ty x y ho b off cs.toArray hx hy (by simpa using ht) (by simpa using hi) (all_oneCell_toArray h1) (hK _ _ h)
inductive Two (b x : Value) (sb : Bool) : Value → Bool → Prop
  | b : Two b x sb b sb
  | x : Two b x sb x true

set_option maxRecDepth 100000 in
set_option maxHeartbeats 16000000 in
theorem walk (v0 : Value) (l : List Psp.Req) (v1 : Value) (l1 : List Psp.Req) (r : Psp.Req) (w : World) (hr : Rd w w.heap.size 6 v0 l.length (l.flatMap rq)) (_ : ∀ x ∈ l, wfReq x) (hr1 : Rd w w.heap.size 6 v1 l1.length (l1.flatMap rq)) (_ : ∀ x ∈ l1, wfReq x) (_ : wfReq r) :
    Calls Try.prog 3 #[v0, v1, .agg #[.int .i64 r.c, .int .i64 r.t, .int .i64 r.k, .int .i64 r.y, .int .i64 r.v, .int .i64 r.s]] w fun e w' => e = .returned (.bool true) ∧ Below w.heap.size w w' := by
  have hp := hr.to_p (Nat.le_refl _)
  have hp1 := hr1.to_p (Nat.le_refl _)
  obtain ⟨n, hn⟩ : ∃ n, l.length = n := ⟨_, rfl⟩
  obtain ⟨m, hm⟩ : ∃ m, l1.length = m := ⟨_, rfl⟩
  rw [hn] at hp
  rw [hm] at hp1
  obtain ⟨_, A0, c0, rfl, hq1, hq2, _⟩ := hp.parts
  obtain ⟨_, A1, c1, rfl, hq3, hq4, _⟩ := hp1.parts
  have Hp := Lib.hid hp
  have Hp1 := Lib.hid hp1
  have Hn := Lib.hid hn
  have Hm := Lib.hid hm
  clear hp hr hn hp1 hr1 hm
  have hba : Below w.heap.size w (w.alloc (.cells #[.int .i64 r.c, .int .i64 r.t, .int .i64 r.k, .int .i64 r.y, .int .i64 r.v, .int .i64 r.s] 26)) := alloc_below _ _
  have hrow := heap_alloc_new w (.cells #[.int .i64 r.c, .int .i64 r.t, .int .i64 r.k, .int .i64 r.y, .int .i64 r.v, .int .i64 r.s] 26)
  have HBA := Lib.hid hba
  have HRA := Lib.hid hrow
  clear hba hrow
  by_cases h40 : 40 < n
  case' pos =>
    have d0 : decide ((n : Int) > 40) = true := by simp; omega
    go_enter Try.func3, Try.ntmps3
    go_wp2_with fail
    refine (wakes05 _).mono ?_
    rintro e w1 ⟨rfl, hb⟩
    have HB := Lib.hid (Below.then HBA.out hb HBA.out.size)
    clear hb
    go_wp2_with fail
    go_ret
    exact ⟨rfl, HB.out⟩
  case' neg =>
  have d0 : decide ((n : Int) > 40) = false := by simp; omega
  by_cases h41 : 40 < m
  case' pos =>
    have d1 : decide ((m : Int) > 40) = true := by simp; omega
    go_enter Try.func3, Try.ntmps3
    go_wp2_with fail
    refine (wakes05 _).mono ?_
    rintro e w1 ⟨rfl, hb⟩
    have HB := Lib.hid (Below.then HBA.out hb HBA.out.size)
    clear hb
    go_wp2_with fail
    go_ret
    exact ⟨rfl, HB.out⟩
  case' neg =>
  have d1 : decide ((m : Int) > 40) = false := by simp; omega
  go_enter Try.func3, Try.ntmps3
  go_wp2_with fail
  obtain ⟨wa, hwa⟩ : ∃ wa, w.alloc (.cells #[.int .i64 r.c, .int .i64 r.t, .int .i64 r.k, .int .i64 r.y, .int .i64 r.v, .int .i64 r.s] 26) = wa := ⟨_, rfl⟩
  rw [hwa] at HBA HRA ⊢
  clear hwa
  obtain ⟨N, hN⟩ : ∃ N, w.heap.size = N := ⟨_, rfl⟩
  have HN := Lib.hid hN
  clear hN
  have HA := Lib.hid ((Hp.out.below HBA.out).mono (P' := fun b => b < wa.heap.size) fun b h _ => h)
  have HB := Lib.hid ((Hp1.out.below HBA.out).mono (P' := fun b => b < wa.heap.size) fun b h _ => h)
  clear Hp Hp1
  refine (copy_any l n (.slice A0 n c0) wa _ HA.out (by omega)).mono ?_
  rintro e wb ⟨Ax, cx, rfl, hox, hbx⟩
  have HX := Lib.hid ((RdP.of_own hox).mono (P' := fun b => b < wb.heap.size) fun b h _ => h)
  have HA1 := Lib.hid ((HA.out.below hbx).mono (P' := fun b => b < wb.heap.size) fun b h _ => h)
  have HB1 := Lib.hid ((HB.out.below hbx).mono (P' := fun b => b < wb.heap.size) fun b h _ => h)
  have HBB := Lib.hid (Below.then HBA.out hbx HBA.out.size)
  have HRB := Lib.hid ((hbx.block w.heap.size (Array.getElem?_eq_some_iff.1 HRA.out).1).trans HRA.out)
  clear hox hbx HA HB HBA HRA
  go_wp2_with fail
  refine (qorder_any l n (.slice Ax n cx) wb _ HX.out Hn.out (by omega)).mono ?_
  obtain ⟨q, hq⟩ : ∃ q, (Psp.ordR l).length = q := ⟨_, rfl⟩
  obtain ⟨L, hL⟩ : ∃ L, Psp.ordR l = L := ⟨_, rfl⟩
  rw [hq]
  rw [hL] at hq ⊢
  rintro e wz ⟨Ao, co, rfl, hoo, hbo⟩
  have HO := Lib.hid hoo
  have HX2 := Lib.hid (HX.out.below hbo)
  have HA2 := Lib.hid (HA1.out.below hbo)
  have HB2 := Lib.hid (HB1.out.below hbo)
  have HBC := Lib.hid (Below.then HBB.out hbo HBB.out.size)
  have HWB := Lib.hid HBB.out.size
  have HRC := Lib.hid ((hbo.block w.heap.size (Array.getElem?_eq_some_iff.1 HRB.out).1).trans HRB.out)
  have HL := Lib.hid hL
  have Hq := Lib.hid hq
  clear hoo hbo hL hq HA1 HB1 HX HBB HRB
  go_upto_region 5 with fail
  go_cut [53] from 25 to 53 (fun x wx => x = .bool false ∧ Below wz.heap.size wz wx)
  case first =>
    obtain ⟨x0, x1, x2, x3, x4, x5, x6⟩ := rst_cells HRC.out
    obtain ⟨sb, hsb⟩ : ∃ sb : Bool, decide (l = l1) = sb := ⟨_, rfl⟩
    obtain ⟨hb, hhb⟩ : ∃ hb : Bool, decide (r ∈ l) = hb := ⟨_, rfl⟩
    have HC10 : Hid (∀ w', Ost wz w.heap.size r w' → Calls Try.prog 10 #[.slice A0 n c0] w' fun e w'' => ∃ A c, e = .returned (.slice A q c) ∧ w''.ownsRow w'.heap.size 26 6 (.slice A q c) q (L.flatMap rq) ∧ Below w'.heap.size w' w'') := Lib.hid fun w' hs => by
      have := order_any l n (.slice A0 n c0) w' _ (HA2.out.below hs.2.2.2.2.2.2.out) Hn.out (by omega)
      rw [HL.out, Hq.out] at this
      exact this
    have HC9 : Hid (∀ w' base A c, Ost wz w.heap.size r w' → w'.ownsRow base 26 6 (.slice A q c) q (L.flatMap rq) → Calls Try.prog 9 #[.slice Ao q co, .slice A q c] w' fun e w'' => e = .returned (.bool true) ∧ Below w'.heap.size w' w'') := Lib.hid fun w' base A c hs ho => by
      refine (same_R (.slice Ao q co) (.slice A q c) q q L L w' _ _ (own_rd (own_below HO.out hs.2.2.2.2.2.2.out)) (own_rd ho) Hq.out Hq.out).mono ?_
      rintro e w6 ⟨rfl, k, rfl⟩
      rw [decide_eq_true rfl]
      exact ⟨rfl, below_drewN (Below.refl _ _) k⟩
    have HC11 : Hid (∀ w' v y, Ost wz w.heap.size r w' → Two (.slice A1 m c1) (.slice Ax n cx) sb v y → Calls Try.prog 11 #[.slice A0 n c0, v] w' fun e w'' => e = .returned (.bool y) ∧ Below w'.heap.size w' w'') := Lib.hid fun w' v y hs ht => by
      cases ht
      · rw [← hsb]; exact qsame_any (.slice A0 n c0) (.slice A1 m c1) n m l l1 w' _ _ (HA2.out.below hs.2.2.2.2.2.2.out) (HB2.out.below hs.2.2.2.2.2.2.out) Hn.out Hm.out
      · rw [← decide_eq_true (rfl : l = l)]; exact qsame_any (.slice A0 n c0) (.slice Ax n cx) n n l l w' _ _ (HA2.out.below hs.2.2.2.2.2.2.out) (HX2.out.below hs.2.2.2.2.2.2.out) Hn.out Hn.out
    have HC12 : Hid (∀ w', Ost wz w.heap.size r w' → Calls Try.prog 12 #[.slice A0 n c0, .slice A1 m c1] w' fun e w'' => e = .returned (.bool sb) ∧ Below w'.heap.size w' w'') := Lib.hid fun w' hs => by
      refine (rsame_any (.slice A0 n c0) (.slice A1 m c1) n m l l1 w' _ _ (HA2.out.below hs.2.2.2.2.2.2.out) (HB2.out.below hs.2.2.2.2.2.2.out) Hn.out Hm.out).mono ?_
      rintro e w6 ⟨rfl, k, rfl⟩
      rw [hsb]
      exact ⟨rfl, below_drewN (Below.refl _ _) k⟩
    have HC13 : Hid (∀ w', Ost wz w.heap.size r w' → Calls Try.prog 13 #[.slice A0 n c0, .agg #[.int .i64 r.c, .int .i64 r.t, .int .i64 r.k, .int .i64 r.y, .int .i64 r.v, .int .i64 r.s]] w' fun e w'' => e = .returned (.bool hb) ∧ Below w'.heap.size w' w'') := Lib.hid fun w' hs => by
      rw [← hhb]; exact qhas_any l n (.slice A0 n c0) r w' _ (HA2.out.below hs.2.2.2.2.2.2.out) Hn.out
    have HC14 : Hid (∀ w', Ost wz w.heap.size r w' → Calls Try.prog 14 #[.slice A0 n c0, .agg #[.int .i64 r.c, .int .i64 r.t, .int .i64 r.k, .int .i64 r.y, .int .i64 r.v, .int .i64 r.s]] w' fun e w'' => e = .returned (.bool hb) ∧ Below w'.heap.size w' w'') := Lib.hid fun w' hs => by
      rw [← hhb]; exact rhas_any l n (.slice A0 n c0) r w' _ (HA2.out.below hs.2.2.2.2.2.2.out) Hn.out
    have e1 : (sb != sb) = false := by simp
    have e2 : (hb != hb) = false := by simp
    have hbel : Hid (Below wz.heap.size wz wz) := Lib.hid (Below.refl _ _)
    have hd : Below wz.heap.size wz wz.drew := (Below.refl _ _).drew
    have hst := And.intro x0 (And.intro x1 (And.intro x2 (And.intro x3 (And.intro x4 (And.intro x5 hbel)))))
    clear hsb hhb x0 x1 x2 x3 x4 x5 x6 hbel
    go_region_held3 (fun w' => w'.cell? ⟨w.heap.size, 0, none⟩ = some (.int .i64 r.c) ∧ w'.cell? ⟨w.heap.size, 1, none⟩ = some (.int .i64 r.t) ∧ w'.cell? ⟨w.heap.size, 2, none⟩ = some (.int .i64 r.k) ∧ w'.cell? ⟨w.heap.size, 3, none⟩ = some (.int .i64 r.y) ∧ w'.cell? ⟨w.heap.size, 4, none⟩ = some (.int .i64 r.v) ∧ w'.cell? ⟨w.heap.size, 5, none⟩ = some (.int .i64 r.s) ∧ Hid (Below wz.heap.size wz w'))
      (exact ost_keep (by assumption) (by assumption))
      (first
        | (go_at_call 10; refine (HC10.out _ (by assumption)).mono ?_; rintro e w' ⟨A, c, rfl, hown, hb'⟩)
        | (go_at_call 9; refine (HC9.out _ _ _ _ (by assumption) (by assumption)).mono ?_; rintro e w' ⟨rfl, hb'⟩)
        | (go_at_call 11; refine (HC11.out _ _ _ (by assumption) (by first | exact Two.b | exact Two.x)).mono ?_; rintro e w' ⟨rfl, hb'⟩)
        | (go_at_call 12; refine (HC12.out _ (by assumption)).mono ?_; rintro e w' ⟨rfl, hb'⟩)
        | (go_at_call 13; refine (HC13.out _ (by assumption)).mono ?_; rintro e w' ⟨rfl, hb'⟩)
        | (go_at_call 14; refine (HC14.out _ (by assumption)).mono ?_; rintro e w' ⟨rfl, hb'⟩))
    all_goals (go_wp2_with fail; go_meet; exact ⟨rfl, by (have hH : Ost wz w.heap.size r _ := (by assumption)); exact hH.2.2.2.2.2.2.out⟩)
  case' rest =>
    obtain ⟨rfl, hbd⟩ := hcut
    have HO3 := Lib.hid (own_below HO.out hbd)
    have HX3 := Lib.hid (HX2.out.below hbd)
    have HA3 := Lib.hid (HA2.out.below hbd)
    have HB3 := Lib.hid (HB2.out.below hbd)
    have HBD := Lib.hid (Below.then HBC.out hbd HBC.out.size)
    have hwb : w.heap.size ≤ wb.heap.size := HWB.out
    obtain ⟨wd, hwd⟩ : ∃ wd, wd = wc := ⟨_, rfl⟩
    rw [← hwd] at HO3 HX3 HA3 HB3 HBD ⊢
    clear hwd hbd HO HX2 HA2 HB2 HBC HRC
    go_upto_block 0 with fail
    go_cut [] from 9 to 63 (fun wx => Fp (fun b => wb.heap.size ≤ b) wd wx)
    case first =>
      go_wp2_with fail
      go_loopw [56, 9] (fun i _ wr => ∃ (k : Nat) (lk : List Psp.Req), i = .int .i64 (k : Int) ∧ k ≤ q ∧ Hid (lk.length = q) ∧ Hid (wr.ownsRow wb.heap.size 26 6 (.slice Ao q co) q (lk.flatMap rq)) ∧ Hid (Fp (fun b => wb.heap.size ≤ b) wd wr)) (fun i _ _ => q - (intOf i).toNat)
      case atStart => exact ⟨0, L, rfl, Nat.zero_le _, Hq, HO3, Lib.hid (Fp.refl _ _)⟩
      case round =>
        obtain ⟨k, lk, rfl, hk, Hlk, HOk, HF⟩ := hrel
        by_cases hlt : k < q
        case' pos =>
          have d2 : decide ((k : Int) < (q : Int)) = true := by simp; omega
          obtain ⟨b, o, c', he, hb1, _, _, _⟩ := ri_elem (own_rd HOk.out) Hlk.out (by omega)
          injection he with he1 _ he2
          subst he1 he2
          obtain rfl : o = 0 := own_zero HOk.out
          have hbb : wb.heap.size ≤ b := own_lt HOk.out b rfl
          obtain ⟨hs1, hs2⟩ := cpt_set (w := wr) (i := k) ⟨0, 0, 0, 0, 0, 0⟩ HOk.out Hlk.out (by omega)
          have HS1 := Lib.hid hs1
          have HS2 := Lib.hid (HF.out.trans hs2 (fun b' h => Or.inl (h ▸ hbb)))
          have hT : wr.there b (k * 6) 6 := cpt_there HOk.out (by omega)
          obtain ⟨zl, hzl⟩ : ∃ zl, rq ⟨0, 0, 0, 0, 0, 0⟩ = zl := ⟨_, rfl⟩
          have hz1 : ∀ u ∈ zl, u.oneCell' = true := by rw [← hzl]; exact rq_one _
          have hz6 : zl.length = 6 := by rw [← hzl]; rfl
          have hT : wr.there b (k * 6) zl.length := by rw [hz6]; exact hT
          rw [hzl] at HS1 HS2
          have Hzl := Lib.hid hzl
          have Hz1 := Lib.hid hz1
          have Hz6 := Lib.hid (show (Try.prog.info? 26).map (·.size) = some zl.length by rw [hz6]; exact rst_sizeR)
          have HT := Lib.hid hT
          clear hs1 hs2 hT hzl hz1 hz6
          go_wp2_with (first | (refine list_store_mid rfl 26 (.tmp 62) (.tmp 61) rfl b (k * 6) zl rfl (by rw [← Hzl.out]; rfl) HT.out Hz6.out Hz1.out ?_))
          go_roundw
          case rel => exact ⟨k + 1, lk.set k ⟨0, 0, 0, 0, 0, 0⟩, by go_num, by omega, Lib.hid (by rw [List.length_set]; exact Hlk.out), HS1, HS2⟩
          case measure => first | (simp [intOf]; done) | (simp [intOf]; omega)
        case' neg =>
          have d2 : decide ((k : Int) < (q : Int)) = false := by simp; omega
          go_wp2_with fail
          go_meet
          exact HF.out
    case' rest =>
      have HA4 := Lib.hid (HA3.out.fp hcut (fun b hb => by omega))
      have HB4 := Lib.hid (HB3.out.fp hcut (fun b hb => by omega))
      have HX4 := Lib.hid (HX3.out.fp hcut (fun b hb => by omega))
      have HBE := Lib.hid (HBD.out.trans (hcut.to_below (B := w.heap.size) HBD.out.size (fun b _ hb => Nat.le_trans hwb hb)))
      obtain ⟨we, hwe⟩ : ∃ we, we = wc := ⟨_, rfl⟩
      rw [← hwe] at HA4 HB4 HX4 HBE ⊢
      clear hwe hcut HA3 HB3 HX3 HBD HO3
      go_wp2_with fail
      go_loopw [10, 66] (fun _ i wr => ∃ k : Nat, i = .int .i64 (k : Int) ∧ k ≤ n ∧ Hid (Below we.heap.size we wr)) (fun _ i _ => n - (intOf i).toNat)
      case atStart => exact ⟨0, rfl, Nat.zero_le _, Lib.hid (Below.refl _ _)⟩
      case round =>
        obtain ⟨k, rfl, hk, HBk⟩ := hrel
        by_cases hlt : k < n
        case' pos =>
          have d2 : decide ((k : Int) < (n : Int)) = true := by simp; omega
          obtain ⟨b1, o1, c1', he, hb1, _, _, hel⟩ := ri_elem HA4.out Hn.out (by omega)
          injection he with he1 _ he2
          subst he1 he2
          obtain ⟨x, hx⟩ : ∃ x, l[k]? = some x := ⟨l[k]'(by rw [Hn.out]; omega), List.getElem?_eq_getElem (by rw [Hn.out]; omega)⟩
          have HE1 := Lib.hid (hel k x hx)
          clear hx hel
          go_wp2_with fail
          go_loopw [11, 71] (fun _ i wx => ∃ j : Nat, i = .int .i64 (j : Int) ∧ j ≤ m ∧ Hid (Below we.heap.size we wx)) (fun _ i _ => m - (intOf i).toNat)
          case atStart => exact ⟨0, rfl, Nat.zero_le _, HBk⟩
          case round =>
            obtain ⟨j, rfl, hj, HBj⟩ := hrel
            by_cases hlt2 : j < m
            case' pos =>
              have d3 : decide ((j : Int) < (m : Int)) = true := by simp; omega
              obtain ⟨b2, o2, c2', he, hb2, _, _, hel⟩ := ri_elem HB4.out Hm.out (by omega)
              injection he with he1 _ he2
              subst he1 he2
              obtain ⟨y, hy⟩ : ∃ y, l1[j]? = some y := ⟨l1[j]'(by rw [Hm.out]; omega), List.getElem?_eq_getElem (by rw [Hm.out]; omega)⟩
              obtain ⟨cv, hcv⟩ : ∃ cv, Psp.cmpR x y = cv := ⟨_, rfl⟩
              have d4 : (cv != cv) = false := by simp
              have hq := hel j y hy
              have HQ1 : Hid (∀ w' : World, (∃ p : Later wr, w' = p.W) → w'.rangeAt b1 (o1 + k * 6) (rq x)) := Lib.hid (by rintro w' ⟨p, rfl⟩; exact HE1.out _ ((p.h.block b1 (Nat.lt_of_lt_of_le hb1 HBj.out.size)).trans (HBj.out.block b1 hb1)))
              have HQ2 : Hid (∀ w' : World, (∃ p : Later wr, w' = p.W) → w'.rangeAt b2 (o2 + j * 6) (rq y)) := Lib.hid (by rintro w' ⟨p, rfl⟩; exact hq _ ((p.h.block b2 (Nat.lt_of_lt_of_le hb2 HBj.out.size)).trans (HBj.out.block b2 hb2)))
              have HC : Hid (∀ p : Later wr, Calls Try.prog 15 #[.agg (rq x).toArray, .agg (rq y).toArray] p.W fun e w' => e = .returned (.int .i64 cv) ∧ Below p.W.heap.size p.W w') := Lib.hid fun p => by rw [← hcv]; exact compare_any x y p.W
              have HCr : Hid (∀ p : Later wr, Calls Try.prog 16 #[.agg (rq x).toArray, .agg (rq y).toArray] p.W fun e w' => e = .returned (.int .i64 cv) ∧ Below p.W.heap.size p.W w') := Lib.hid fun p => by rw [← hcv]; exact rcompare_any x y p.W
              clear hy hel hcv hq
              go_wp2_with fail
              refine wp_region_later (by kernel_rfl) (by kernel_rfl) ?_
              repeat (first
                | go_big_quiet_step (first | (go_at_call 15; exact later_call _ (HC.out _)) | (go_at_call 16; exact later_call _ (HCr.out _)))
                | (refine quiet_load (by simp [Region.wanted, yielded]) 26 (.tmp 76) (by rfl) b1 (o1 + k * 6) (by rfl) (rq x) _ HQ1.out Try.underlying26 rfl rst_sizeR ?_; intro K hK; go_simp; refine hK _ ?_; clear hK K)
                | (refine quiet_load (by simp [Region.wanted, yielded]) 26 (.tmp 85) (by rfl) b1 (o1 + k * 6) (by rfl) (rq x) _ HQ1.out Try.underlying26 rfl rst_sizeR ?_; intro K hK; go_simp; refine hK _ ?_; clear hK K)
                | (refine quiet_load (by simp [Region.wanted, yielded]) 26 (.tmp 80) (by rfl) b2 (o2 + j * 6) (by rfl) (rq y) _ HQ2.out Try.underlying26 rfl rst_sizeR ?_; intro K hK; go_simp; refine hK _ ?_; clear hK K)
                | (refine quiet_load (by simp [Region.wanted, yielded]) 26 (.tmp 89) (by rfl) b2 (o2 + j * 6) (by rfl) (rq y) _ HQ2.out Try.underlying26 rfl rst_sizeR ?_; intro K hK; go_simp; refine hK _ ?_; clear hK K)
                | quiet_step (first | (go_at_call 15; exact later_call _ (HC.out _)) | (go_at_call 16; exact later_call _ (HCr.out _))))
              refine wpQuiet_nil ?_
              intro w3 hw'
              obtain ⟨⟨wq, hbq⟩, hw'⟩ := hw'
              have hb3 : Below wr.heap.size wr w3 := by rw [hw']; exact hbq
              clear hw' hbq
              have HB3 := Lib.hid (Below.then HBj.out hb3 HBj.out.size)
              clear hb3
              go_wp2_with fail
              go_roundw
              case rel => exact ⟨j + 1, by go_num, by omega, HB3⟩
              case measure => first | (simp [intOf]; done) | (simp [intOf]; omega)
            case' neg =>
              have d3 : decide ((j : Int) < (m : Int)) = false := by simp; omega
              go_wp2_with fail
              go_roundw
              case rel => exact ⟨k + 1, by go_num, by omega, HBj⟩
              case measure => first | (simp [intOf]; done) | (simp [intOf]; omega)
        case' neg =>
          have d2 : decide ((k : Int) < (n : Int)) = false := by simp; omega
          have HA5 := Lib.hid (HA4.out.below HBk.out)
          have HX5 := Lib.hid (HX4.out.below HBk.out)
          have HB5 := Lib.hid (Below.then HBE.out HBk.out HBE.out.size)
          go_wp2_with fail
          refine (same_R (.slice Ax n cx) (.slice A0 n c0) n n l l wr _ _ HX5.out HA5.out Hn.out Hn.out).mono ?_
          rintro e w6 ⟨rfl, qq, rfl⟩
          rw [decide_eq_true rfl]
          go_wp2_with fail
          refine (wakes05 _).mono ?_
          rintro e w8 ⟨rfl, hb8⟩
          have HB8 := Lib.hid (Below.then (below_drewN HB5.out qq) hb8 (below_drewN HB5.out qq).size)
          clear hb8
          go_wp2_with fail
          go_ret
          exact ⟨rfl, HB8.out⟩
end Go.Proofs.Ytnlnkcljehafkaa.reqsOrders
