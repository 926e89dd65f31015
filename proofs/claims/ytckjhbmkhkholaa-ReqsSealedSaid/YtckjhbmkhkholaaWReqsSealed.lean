/- The walk of ReqsSealed. -/
import Derived.Test.YtckjhbmkhkholaaBoth
namespace Go.Proofs.Ytckjhbmkhkholaa.reqsSealed
open Go.RowKit
set_option linter.unusedVariables false

theorem rdp_take {w : World} {P : Nat → Prop} {A : Option Addr} {n c : Nat} {l : List Psp.Req} (h : RdP w P 6 (.slice A n c) n (l.flatMap rq)) (hn : l.length = n) {k : Nat} (hk : k ≤ n) : RdP w P 6 (.slice A k c) k ((l.take k).flatMap rq) := by
  obtain ⟨h1, A', c', e, h3, h4, h5⟩ := h
  injection e with e1 _ e2
  subst e1 e2
  refine ⟨by rw [od_len, List.length_take, hn]; congr 1; omega, A, c, rfl, by omega, h4, fun hp => ?_⟩
  obtain ⟨b, o, e, hb, hlt, hl⟩ := h5 (by omega)
  refine ⟨b, o, e, hb, hlt, fun j u hu => ?_⟩
  rw [← od_take, List.getElem?_take] at hu
  split at hu
  · exact hl j u hu
  · cases hu
theorem own_rd {w : World} {base m c : Nat} {A : Option Addr} {l : List Psp.Req} (h : w.ownsRow base 25 6 (.slice A m c) m (l.flatMap rq)) : RdP w (fun b => b < w.heap.size) 6 (.slice A m c) m (l.flatMap rq) := (Rd.of_own h).to_p (Nat.le_refl _)

set_option maxRecDepth 100000 in
set_option maxHeartbeats 8000000 in
theorem walk (v : Value) (l : List Psp.Req) (cl most : Int) (order : Bool) (w : World) (hr : Rd w w.heap.size 6 v l.length (l.flatMap rq)) (hwl : ∀ x ∈ l, wfReq x) (h1 : isI64 cl) (h2 : isI64 most) :
    Calls Try.prog 7 #[v, .int .i64 cl, .int .i64 most, .bool order] w fun e w' => e = .returned (.bool true) ∧ Below w.heap.size w w' := by
  have hp := hr.to_p (Nat.le_refl _)
  obtain ⟨n0, hn0⟩ : ∃ n0, l.length = n0 := ⟨_, rfl⟩
  rw [hn0] at hp
  have Hp := Lib.hid hp
  have Hn0 := Lib.hid hn0
  have Hwl := Lib.hid hwl
  clear hp hr hn0 hwl
  go_enter Try.func7, Try.ntmps7
  go_wp2_with fail
  refine (both_any l n0 v cl w Hp.out Hn0.out Hwl.out).mono ?_
  rintro e w1 ⟨A, c, L, g, bm, g2, K, S, rfl, hown, hBo, hL30, hwL⟩
  obtain ⟨n, hn⟩ : ∃ n, L.length = n := ⟨_, rfl⟩
  rw [hn] at hown hBo hL30
  rw [hn]
  have HBo := Lib.hid hBo
  have HO := Lib.hid hown
  have HwL := Lib.hid hwL
  have HnL := Lib.hid hn
  clear hown hBo hwL hn Hp
  go_upto_if 22 with fail
  go_cut [0] from 22 to 24 (fun x wx => ∃ (A2 : Option Addr) (m c2 : Nat) (L2 : List Psp.Req), x = .slice A2 m c2 ∧ L2.length = m ∧ m ≤ 30 ∧ (∀ x ∈ L2, wfReq x) ∧ RdP wx (fun b => b < wx.heap.size) 6 (.slice A2 m c2) m (L2.flatMap rq) ∧ Below w1.heap.size w1 wx)
  case first =>
    cases order
    case' false =>
      go_wp2_with fail
      go_meet
      exact ⟨A, n, c, L, rfl, HnL.out, hL30, HwL.out, own_rd HO.out, Below.refl _ _⟩
    case' true =>
      go_wp2_with fail
      refine (order_any L n _ w1 _ (own_rd HO.out) HnL.out (by omega)).mono ?_
      rintro e w2 ⟨A3, c3, rfl, h3, hb3⟩
      have ho := Psp.ord_len L []
      have hlen : (Psp.ordR L).length ≤ 30 := by
        have h4 := HnL.out
        rw [h4] at ho
        unfold Psp.ordR
        simp at ho
        omega
      have H3 := Lib.hid h3
      have HB3 := Lib.hid hb3
      clear h3 hb3 ho
      go_wp2_with fail
      go_meet
      refine ⟨A3, _, c3, Psp.ordR L, rfl, rfl, hlen, fun x hx => ?_, own_rd H3.out, HB3.out⟩
      rcases Psp.ord_mem L [] x hx with h | h
      · cases h
      · exact HwL.out x h
  case' rest =>
    obtain ⟨A2, m, c2, L2, rfl, hm, hm30, hwf, hrd, hb⟩ := hcut
    obtain ⟨_, A2', c2', e0, hq1, hq2, _⟩ := hrd.parts
    injection e0 with e01 _ e02
    subst e01 e02
    have HB1 := Lib.hid hb
    have Hm := Lib.hid hm
    have Hwf := Lib.hid hwf
    have Hrd := Lib.hid hrd
    have HBc := Lib.hid (HBo.out.below hb)
    clear hb hm hwf hrd
    go_wp2_with fail
    have HBx := Lib.hid (Below.refl wc.heap.size wc)
    go_loopw [11, 27] (fun s11 i wr => ∃ k : Nat, i = .int .i64 (k : Int) ∧ k ≤ m ∧ Hid (Below wc.heap.size wc wr)) (fun _ i _ => m - (intOf i).toNat)
    case atStart => exact ⟨0, rfl, Nat.zero_le _, HBx⟩
    case round =>
      obtain ⟨k, rfl, hk, HB⟩ := hrel
      by_cases hlt : k < m
      case' pos =>
        have d1 : decide ((k : Int) < (m : Int)) = true := by simp; omega
        obtain ⟨b0, o0, c0, he, hb0, _, _, hel⟩ := ri_elem Hrd.out Hm.out (by omega)
        injection he with he1 _ he2
        subst he1 he2
        obtain ⟨x, hx⟩ : ∃ x, L2[k]? = some x := ⟨L2[k]'(by rw [Hm.out]; omega), List.getElem?_eq_getElem (by rw [Hm.out]; omega)⟩
        have hwx : wfReq x := by
          obtain ⟨hj, he⟩ := List.getElem?_eq_some_iff.1 hx
          exact Hwf.out x (by rw [← he]; exact List.getElem_mem hj)
        have HQ1 : Hid (∀ w' : World, (∃ p : Later wr, w' = p.W) → w'.rangeAt b0 (o0 + k * 6) (rq x)) := Lib.hid (by rintro w' ⟨p, rfl⟩; exact hel k x hx _ ((p.h.block b0 (Nat.lt_of_lt_of_le hb0 HB.out.size)).trans (HB.out.block b0 hb0)))
        obtain ⟨sb, hsb⟩ : ∃ sb, sealedB cl K x = sb := ⟨_, rfl⟩
        have HS1 : Hid (∀ p : Later wr, Calls Try.prog 17 #[.agg (rq x).toArray, .int .i64 cl, .pointer (some ⟨g, 0, none⟩)] p.W fun e w' => e = .returned (.bool sb) ∧ Below p.W.heap.size p.W w') := Lib.hid fun p => by rw [← hsb]; exact sealed_any x cl g bm K p.W (((HBc.out.below HB.out).below p.h).nt)
        have HS2 : Hid (∀ p : Later wr, Calls Try.prog 22 #[.agg (rq x).toArray, .int .i64 cl, .pointer (some ⟨g2, 0, none⟩)] p.W fun e w' => e = .returned (.bool sb) ∧ Below p.W.heap.size p.W w') := Lib.hid fun p => by rw [← hsb]; exact rsealed_any x cl S g2 K p.W (((HBc.out.below HB.out).below p.h).nr) HBc.out.nt.nd hwx.2.2.2.2.2
        clear hx hwx hel hsb
        cases sb
        all_goals
          go_wp2_with fail
          refine wp_region_later (by kernel_rfl) (by kernel_rfl) ?_
          repeat (first | go_big_quiet_step (first | (go_at_call 17; exact later_call _ (HS1.out _)) | (go_at_call 22; exact later_call _ (HS2.out _))) | (refine quiet_load (by simp [Region.wanted, yielded]) 25 (.tmp 32) (by rfl) b0 (o0 + k * 6) (by rfl) (rq x) _ HQ1.out Try.underlying25 rfl rst_sizeR ?_; intro K hK; go_simp; refine hK _ ?_; clear hK K) | (refine quiet_load (by simp [Region.wanted, yielded]) 25 (.tmp 39) (by rfl) b0 (o0 + k * 6) (by rfl) (rq x) _ HQ1.out Try.underlying25 rfl rst_sizeR ?_; intro K hK; go_simp; refine hK _ ?_; clear hK K) | quiet_step (first | (go_at_call 17; exact later_call _ (HS1.out _)) | (go_at_call 22; exact later_call _ (HS2.out _))))
          refine wpQuiet_nil ?_
          intro w3 hw'
          obtain ⟨⟨wq, hbq⟩, hw'⟩ := hw'
          have hb3 : Below wr.heap.size wr w3 := by rw [hw']; exact hbq
          clear hw' hbq
          have HB3 := Lib.hid (Below.then HB.out hb3 HB.out.size)
          clear hb3
          go_wp2_with fail
          go_roundw
          case rel => exact ⟨k + 1, by go_num, by omega, HB3⟩
          case measure => first | (simp [intOf]; done) | (simp [intOf]; omega)
      case' neg =>
        have d1 : decide ((k : Int) < (m : Int)) = false := by simp; omega
        go_wp2_with fail
        obtain ⟨wd, hwd⟩ : ∃ wd, wd = wr := ⟨_, rfl⟩
        have HBd := Lib.hid (HBc.out.below HB.out)
        have HRd := Lib.hid (Hrd.out.keeps (Keeps.on HB.out))
        rw [← hwd] at HBd HRd ⊢
        clear hwd HB
        go_loopw [12] (fun i wr => ∃ k : Nat, i = .int .i64 (k : Int) ∧ k ≤ m + 1 ∧ Hid (Below wd.heap.size wd wr)) (fun i _ => m + 1 - (intOf i).toNat)
        case atStart => exact ⟨0, rfl, Nat.zero_le _, Lib.hid (Below.refl _ _)⟩
        case round =>
          obtain ⟨k, rfl, hk, HB⟩ := hrel
          by_cases hlt2 : k ≤ m
          case' pos =>
            have d2 : decide ((k : Int) ≤ (m : Int)) = true := by simp; omega
            have i1 : (0 : Int) ≤ (k : Int) := by omega
            have i2 : (k : Int) ≤ (c2 : Int) := by omega
            have i3 : k ≤ c2 := by omega
            obtain ⟨rb, hrb⟩ : ∃ rb, rightB most cl K (L2.take k) = rb := ⟨_, rfl⟩
            have htk : (L2.take k).length = k := by rw [List.length_take, Hm.out]; omega
            have HT : Hid (∀ p : Later wr, RdP p.W (fun b => b < p.W.heap.size) 6 (.slice A2 k c2) k ((L2.take k).flatMap rq)) := Lib.hid fun p => ((rdp_take HRd.out Hm.out hlt2).keeps (Keeps.on HB.out)).keeps (Keeps.on p.h)
            have HS1 : Hid (∀ p : Later wr, Calls Try.prog 23 #[.slice A2 k c2, .int .i64 most, .int .i64 cl, .pointer (some ⟨g, 0, none⟩)] p.W fun e w' => e = .returned (.bool rb) ∧ Below p.W.heap.size p.W w') := Lib.hid fun p => by rw [← hrb]; exact batch_any (L2.take k) k _ most cl g bm K p.W _ (HT.out p) htk (((HBd.out.below HB.out).below p.h).nt)
            have HS2 : Hid (∀ p : Later wr, Calls Try.prog 24 #[.slice A2 k c2, .int .i64 most, .int .i64 cl, .pointer (some ⟨g2, 0, none⟩)] p.W fun e w' => e = .returned (.bool rb) ∧ Below p.W.heap.size p.W w') := Lib.hid fun p => by rw [← hrb]; exact right_any (L2.take k) k _ most cl S g2 K p.W _ (HT.out p) htk (((HBd.out.below HB.out).below p.h).nr) HBd.out.nt.nd (fun x hx => Hwf.out x (List.mem_of_mem_take hx))
            clear hrb htk HT
            cases rb
            all_goals
              go_wp2_with fail
              refine wp_region_later (by kernel_rfl) (by kernel_rfl) ?_
              repeat (first | go_big_quiet_step (first | (go_at_call 23; exact later_call _ (HS1.out _)) | (go_at_call 24; exact later_call _ (HS2.out _))) | quiet_step (first | (go_at_call 23; exact later_call _ (HS1.out _)) | (go_at_call 24; exact later_call _ (HS2.out _))))
              refine wpQuiet_nil ?_
              intro w3 hw'
              obtain ⟨⟨wq, hbq⟩, hw'⟩ := hw'
              have hb3 : Below wr.heap.size wr w3 := by rw [hw']; exact hbq
              clear hw' hbq
              have HB3 := Lib.hid (Below.then HB.out hb3 HB.out.size)
              clear hb3
              go_wp2_with fail
              go_roundw
              case rel => exact ⟨k + 1, by go_num, by omega, HB3⟩
              case measure => first | (simp [intOf]; done) | (simp [intOf]; omega)
          case' neg =>
            have d2 : decide ((k : Int) ≤ (m : Int)) = false := by simp; omega
            go_wp2_with fail
            refine (wakes05 _).mono ?_
            rintro e w9 ⟨rfl, hb⟩
            have HB9 := Lib.hid ((HBd.out.below (HB.out.trans (hb.mono HB.out.size))).be)
            clear hb
            go_wp2_with fail
            go_ret
            exact ⟨rfl, HB9.out⟩
end Go.Proofs.Ytckjhbmkhkholaa.reqsSealed
