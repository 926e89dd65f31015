/- The walk of ReqsRows. -/
import Derived.Test.YtnlnkcljehafkaaQhas
import Derived.Test.YtnlnkcljehafkaaWk5
import Derived.Deep.CutBlock
namespace Go.Proofs.Ytnlnkcljehafkaa.reqsRows
open Go.RowKit
set_option linter.unusedVariables false

theorem ord_idem (l : List Psp.Req) : Psp.ordR (Psp.ordR l) = Psp.ordR l := Psp.up_eq (Psp.ord_up _) (Psp.ord_up _) fun x => Psp.ord_mem_iff _ x
theorem own_rd {w : World} {base m c : Nat} {A : Option Addr} {l : List Psp.Req} (h : w.ownsRow base 26 6 (.slice A m c) m (l.flatMap rq)) : RdP w (fun b => b < w.heap.size) 6 (.slice A m c) m (l.flatMap rq) := (Rd.of_own h).to_p (Nat.le_refl _)

set_option maxRecDepth 100000 in
set_option maxHeartbeats 8000000 in
theorem walk (v : Value) (l : List Psp.Req) (w : World) (hr : Rd w w.heap.size 6 v l.length (l.flatMap rq)) (_ : ∀ x ∈ l, wfReq x) :
    Calls Try.prog 4 #[v] w fun e w' => e = .returned (.bool true) ∧ Below w.heap.size w w' := by
  have hp := hr.to_p (Nat.le_refl _)
  obtain ⟨n, hn⟩ : ∃ n, l.length = n := ⟨_, rfl⟩
  rw [hn] at hp
  obtain ⟨_, A0, c0, rfl, hq1, hq2, _⟩ := hp.parts
  have Hp := Lib.hid hp
  have Hn := Lib.hid hn
  clear hp hr hn
  by_cases h40 : 40 < n
  case' pos =>
    have d0 : decide ((n : Int) > 40) = true := by simp; omega
    go_enter Try.func4, Try.ntmps4
    go_wp2_with fail
    refine (wakes05 _).mono ?_
    rintro e w1 ⟨rfl, hb⟩
    have HB := Lib.hid hb
    clear hb
    go_wp2_with fail
    go_ret
    exact ⟨rfl, HB.out⟩
  case' neg =>
    have d0 : decide ((n : Int) > 40) = false := by simp; omega
    go_enter Try.func4, Try.ntmps4
    go_wp2_with fail
    refine (qorder_any l n (.slice A0 n c0) w _ Hp.out Hn.out (by omega)).mono ?_
    obtain ⟨m, hm⟩ : ∃ m, (Psp.ordR l).length = m := ⟨_, rfl⟩
    obtain ⟨L, hL⟩ : ∃ L, Psp.ordR l = L := ⟨_, rfl⟩
    have hup : Psp.Up L := by rw [← hL]; exact Psp.ord_up l
    have hmem : ∀ x, x ∈ L ↔ x ∈ l := fun x => by rw [← hL]; exact Psp.ord_mem_iff l x
    have hid : Psp.ordR L = L := by rw [← hL]; exact ord_idem l
    have hmn : m ≤ 40 := by
      have := Psp.ord_len l []
      rw [← hm]
      unfold Psp.ordR
      have h4 := Hn.out
      simp at this; omega
    rw [hm]
    rw [hL] at hm ⊢
    rintro e w1 ⟨A, c, rfl, hown, hb⟩
    have HO := Lib.hid hown
    have HB := Lib.hid hb
    have Hm := Lib.hid hm
    have Hup := Lib.hid hup
    have Hmem := Lib.hid hmem
    have Hidem := Lib.hid hid
    clear hown hb hm hup hmem hid hL
    have HP1 := Lib.hid (Hp.out.keeps (Keeps.on HB.out))
    go_upto_block 0 with fail
    go_cut [] from 4 to 29 (fun wx => Below w1.heap.size w1 wx)
    case first =>
      go_wp2_with fail
      go_loopw [4] (fun i wr => ∃ k : Nat, i = .int .i64 ((k : Int) + 1) ∧ (k < m ∨ k = 0) ∧ Hid (Below w1.heap.size w1 wr)) (fun i _ => m - (intOf i).toNat)
      case atStart => exact ⟨0, rfl, Or.inr rfl, Lib.hid (Below.refl _ _)⟩
      case round =>
        obtain ⟨k, rfl, hk, HB1⟩ := hrel
        by_cases hlt : k + 1 < m
        case' pos =>
          have d1 : decide ((k : Int) + 1 < (m : Int)) = true := by simp; omega
          obtain ⟨b1, o1, c1, he, hb1, _, _, hel⟩ := ri_elem (own_rd HO.out) Hm.out (by omega)
          injection he with he1 _ he2
          subst he1 he2
          obtain ⟨x, hx⟩ : ∃ x, L[k]? = some x := ⟨L[k]'(by rw [Hm.out]; omega), List.getElem?_eq_getElem (by rw [Hm.out]; omega)⟩
          obtain ⟨y, hy⟩ : ∃ y, L[k + 1]? = some y := ⟨L[k + 1]'(by rw [Hm.out]; omega), List.getElem?_eq_getElem (by rw [Hm.out]; omega)⟩
          have hlt2 : Psp.cmpR x y < 0 := by
            obtain ⟨a1, a2⟩ := List.getElem?_eq_some_iff.1 hx
            obtain ⟨c1, c2⟩ := List.getElem?_eq_some_iff.1 hy
            rw [← a2, ← c2]
            exact List.pairwise_iff_getElem.1 Hup.out k (k + 1) a1 c1 (by omega)
          obtain ⟨cv, hcv⟩ : ∃ cv, Psp.cmpR x y = cv := ⟨_, rfl⟩
          rw [hcv] at hlt2
          have d2 : decide (0 ≤ cv) = false := by simp; omega
          have HQ1 : Hid (∀ w' : World, (∃ p : Later wr, w' = p.W) → w'.rangeAt b1 (o1 + k * 6) (rq x)) := Lib.hid (by rintro w' ⟨p, rfl⟩; exact hel k x hx _ ((p.h.block b1 (Nat.lt_of_lt_of_le hb1 HB1.out.size)).trans (HB1.out.block b1 hb1)))
          have HQ2 : Hid (∀ w' : World, (∃ p : Later wr, w' = p.W) → w'.rangeAt b1 (o1 + (k + 1) * 6) (rq y)) := Lib.hid (by rintro w' ⟨p, rfl⟩; exact hel (k + 1) y hy _ ((p.h.block b1 (Nat.lt_of_lt_of_le hb1 HB1.out.size)).trans (HB1.out.block b1 hb1)))
          have HC : Hid (∀ p : Later wr, Calls Try.prog 15 #[.agg (rq x).toArray, .agg (rq y).toArray] p.W fun e w' => e = .returned (.int .i64 cv) ∧ Below p.W.heap.size p.W w') := Lib.hid fun p => by rw [← hcv]; exact compare_any x y p.W
          clear hx hy hcv hel hk
          have z1 : (k : Int) + 1 - 1 = (k : Int) := by omega
          have z2 : ((k : Int) + 1).toNat = k + 1 := by omega
          go_wp2_with fail
          refine wp_region_later (by kernel_rfl) (by kernel_rfl) ?_
          repeat (first | go_big_quiet_step (first | (go_at_call 15; exact later_call _ (HC.out _))) | (refine quiet_load (by simp [Region.wanted, yielded]) 26 (.tmp 22) (by rfl) b1 (o1 + k * 6) (by rfl) (rq x) _ HQ1.out Try.underlying26 rfl rst_sizeR ?_; intro K hK; go_simp; refine hK _ ?_; clear hK K) | (refine quiet_load (by simp [Region.wanted, yielded]) 26 (.tmp 26) (by rfl) b1 (o1 + (k + 1) * 6) (by rfl) (rq y) _ HQ2.out Try.underlying26 rfl rst_sizeR ?_; intro K hK; go_simp; refine hK _ ?_; clear hK K) | quiet_step (first | (go_at_call 15; exact later_call _ (HC.out _))))
          refine wpQuiet_nil ?_
          intro w3 hw'
          obtain ⟨⟨wq, hbq⟩, hw'⟩ := hw'
          have hb3 : Below wr.heap.size wr w3 := by rw [hw']; exact hbq
          clear hw' hbq
          have HB3 := Lib.hid (Below.then HB1.out hb3 HB1.out.size)
          clear hb3
          go_wp2_with fail
          go_roundw
          case rel => exact ⟨k + 1, by go_num, Or.inl hlt, HB3⟩
          case measure => first | (simp [intOf]; done) | (simp [intOf]; omega)
        case' neg =>
          have d1 : decide ((k : Int) + 1 < (m : Int)) = false := by simp; omega
          go_wp2_with fail
          go_meet
          exact HB1.out
    case' rest =>
      have HBc := Lib.hid hcut
      clear hcut
      have HO1 := Lib.hid (own_below HO.out HBc.out)
      have HP2 := Lib.hid (HP1.out.keeps (Keeps.on HBc.out))
      have HB1 := Lib.hid (Below.then HB.out HBc.out HB.out.size)
      obtain ⟨w2, hw2⟩ : ∃ w2, w2 = wc := ⟨_, rfl⟩
      rw [← hw2] at HO1 HP2 HB1 ⊢
      clear hw2 HBc HP1 HO HB
      go_upto_block 2 with fail
      go_cut [] from 5 to 42 (fun wx => Below w2.heap.size w2 wx)
      case first =>
        go_wp2_with fail
        go_loopw [5, 32] (fun _ i wr => ∃ k : Nat, i = .int .i64 (k : Int) ∧ k ≤ n ∧ Hid (Below w2.heap.size w2 wr)) (fun _ i _ => n - (intOf i).toNat)
        case atStart => exact ⟨0, rfl, Nat.zero_le _, Lib.hid (Below.refl _ _)⟩
        case round =>
          obtain ⟨k, rfl, hk, HB2⟩ := hrel
          by_cases hlt : k < n
          case' pos =>
            have d1 : decide ((k : Int) < (n : Int)) = true := by simp; omega
            obtain ⟨b1, o1, c1, he, hb1, _, _, hel⟩ := ri_elem HP2.out Hn.out (by omega)
            injection he with he1 _ he2
            subst he1 he2
            obtain ⟨x, hx⟩ : ∃ x, l[k]? = some x := ⟨l[k]'(by rw [Hn.out]; omega), List.getElem?_eq_getElem (by rw [Hn.out]; omega)⟩
            have hin : decide (x ∈ L) = true := decide_eq_true ((Hmem.out x).2 (List.mem_of_getElem? hx))
            have HQ := Lib.hid (hel k x hx wr (HB2.out.block b1 hb1))
            have HC : Hid (Calls Try.prog 13 #[.slice A m c, .agg (rq x).toArray] wr fun e w' => e = .returned (.bool true) ∧ Below wr.heap.size wr w') := Lib.hid (by rw [← hin]; exact qhas_any L m _ x wr _ (own_rd (own_below HO1.out HB2.out)) Hm.out)
            clear hx hel hin
            go_wp2_with (refine list_load rfl 26 (.tmp 38) rfl b1 (o1 + k * 6) rfl (rq x) _ HQ.out Try.underlying26 rfl rst_sizeR ?_)
            refine HC.out.mono ?_
            rintro e w3 ⟨rfl, hb3⟩
            have HB3 := Lib.hid (Below.then HB2.out hb3 HB2.out.size)
            clear hb3
            go_wp2_with fail
            go_roundw
            case rel => exact ⟨k + 1, by go_num, by omega, HB3⟩
            case measure => first | (simp [intOf]; done) | (simp [intOf]; omega)
          case' neg =>
            have d1 : decide ((k : Int) < (n : Int)) = false := by simp; omega
            go_wp2_with fail
            go_meet
            exact HB2.out
      case' rest =>
        have HBc := Lib.hid hcut
        clear hcut
        have HO3 := Lib.hid (own_below HO1.out HBc.out)
        have HP3 := Lib.hid (HP2.out.keeps (Keeps.on HBc.out))
        have HB3 := Lib.hid (Below.then HB1.out HBc.out HB1.out.size)
        obtain ⟨w3, hw3⟩ : ∃ w3, w3 = wc := ⟨_, rfl⟩
        rw [← hw3] at HO3 HP3 HB3 ⊢
        clear hw3 HBc HP2 HO1 HB1
        go_upto_block 4 with fail
        go_cut [] from 6 to 55 (fun wx => Below w3.heap.size w3 wx)
        case first =>
          go_wp2_with fail
          go_loopw [6, 45] (fun _ i wr => ∃ k : Nat, i = .int .i64 (k : Int) ∧ k ≤ m ∧ Hid (Below w3.heap.size w3 wr)) (fun _ i _ => m - (intOf i).toNat)
          case atStart => exact ⟨0, rfl, Nat.zero_le _, Lib.hid (Below.refl _ _)⟩
          case round =>
            obtain ⟨k, rfl, hk, HB2⟩ := hrel
            by_cases hlt : k < m
            case' pos =>
              have d1 : decide ((k : Int) < (m : Int)) = true := by simp; omega
              obtain ⟨b1, o1, c1, he, hb1, _, _, hel⟩ := ri_elem (own_rd HO3.out) Hm.out (by omega)
              injection he with he1 _ he2
              subst he1 he2
              obtain ⟨x, hx⟩ : ∃ x, L[k]? = some x := ⟨L[k]'(by rw [Hm.out]; omega), List.getElem?_eq_getElem (by rw [Hm.out]; omega)⟩
              have hin : decide (x ∈ l) = true := decide_eq_true ((Hmem.out x).1 (List.mem_of_getElem? hx))
              have HQ := Lib.hid (hel k x hx wr (HB2.out.block b1 hb1))
              have HC : Hid (Calls Try.prog 13 #[.slice A0 n c0, .agg (rq x).toArray] wr fun e w' => e = .returned (.bool true) ∧ Below wr.heap.size wr w') := Lib.hid (by rw [← hin]; exact qhas_any l n _ x wr _ (HP3.out.keeps (Keeps.on HB2.out)) Hn.out)
              clear hx hel hin
              go_wp2_with (refine list_load rfl 26 (.tmp 51) rfl b1 (o1 + k * 6) rfl (rq x) _ HQ.out Try.underlying26 rfl rst_sizeR ?_)
              refine HC.out.mono ?_
              rintro e w4 ⟨rfl, hb4⟩
              have HB4 := Lib.hid (Below.then HB2.out hb4 HB2.out.size)
              clear hb4
              go_wp2_with fail
              go_roundw
              case rel => exact ⟨k + 1, by go_num, by omega, HB4⟩
              case measure => first | (simp [intOf]; done) | (simp [intOf]; omega)
            case' neg =>
              have d1 : decide ((k : Int) < (m : Int)) = false := by simp; omega
              go_wp2_with fail
              go_meet
              exact HB2.out
        case' rest =>
          have HO4 := Lib.hid (own_below HO3.out hcut)
          have HB4 := Lib.hid (Below.then HB3.out hcut HB3.out.size)
          clear hcut HO3 HP3 HB3
          go_wp2_with fail
          refine (qorder_any L m (.slice A m c) wc _ (own_rd HO4.out) Hm.out (by omega)).mono ?_
          rw [Hidem.out, Hm.out]
          rintro e w5 ⟨A5, c5, rfl, hown5, hb5⟩
          have HO5 := Lib.hid hown5
          have HO6 := Lib.hid (own_below HO4.out hb5)
          have HB5 := Lib.hid (Below.then HB4.out hb5 HB4.out.size)
          clear hown5 hb5
          go_wp2_with fail
          refine (same_R (.slice A5 m c5) (.slice A m c) m m L L w5 _ _ (own_rd HO5.out) (own_rd HO6.out) Hm.out Hm.out).mono ?_
          rintro e w6 ⟨rfl, q, rfl⟩
          rw [decide_eq_true rfl]
          go_wp2_with fail
          refine (qsame_any (.slice A m c) (.slice A m c) m m L L _ _ _ (own_rd (own_below HO6.out (below_drewN (Below.refl _ _) q))) (own_rd (own_below HO6.out (below_drewN (Below.refl _ _) q))) Hm.out Hm.out).mono ?_
          rintro e w7 ⟨rfl, hb7⟩
          rw [decide_eq_true rfl]
          have HB7 := Lib.hid (Below.then (below_drewN HB5.out q) hb7 (below_drewN HB5.out q).size)
          clear hb7
          go_wp2_with fail
          refine (wakes05 _).mono ?_
          rintro e w8 ⟨rfl, hb8⟩
          have HB8 := Lib.hid (Below.then HB7.out hb8 HB7.out.size)
          clear hb8
          go_wp2_with fail
          go_ret
          exact ⟨rfl, HB8.out⟩
end Go.Proofs.Ytnlnkcljehafkaa.reqsRows
