/- The walk of ReqsParts. -/
import Derived.Test.YtnlnkcljehafkaaQhas
import Derived.Test.YtnlnkcljehafkaaWk5
import Derived.Test.YtnlnkcljehafkaaBoth
import Derived.Test.YtnlnkcljehafkaaInts
import Derived.Deep.CutBlock
import Derived.Deep.RegionHeld3
import Derived.Deep.AppendLies
import Derived.IntWalk
namespace Go.Proofs.Ytnlnkcljehafkaa.reqsParts
open Go.RowKit
set_option linter.unusedVariables false

/-! ### The plain laws -/
theorem rises_take {l : List Psp.Req} (h : Psp.rises l = true) (i : Nat) : Psp.rises (l.take i) = true :=
  Psp.up_rises (List.Pairwise.sublist (List.take_sublist i l) (Psp.rises_up h))
theorem right_take {most cl : Int} {K : List Key} {l : List Psp.Req} (h : rightB most cl K l = true) (i : Nat) : rightB most cl K (l.take i) = true := by
  unfold rightB at h ⊢
  rw [Bool.and_eq_true, Bool.and_eq_true, decide_eq_true_iff] at h
  obtain ⟨h1, h2, h3⟩ := h
  rw [rises_take h2, Bool.true_and, Bool.and_eq_true]
  refine ⟨decide_eq_true (by rw [List.length_take]; omega), ?_⟩
  rw [List.all_eq_true] at h3 ⊢
  exact fun x hx => h3 x (List.mem_of_mem_take hx)
theorem right_up {most cl : Int} {K : List Key} {l : List Psp.Req} (h : rightB most cl K l = true) : Psp.Up l := by
  unfold rightB at h
  rw [Bool.and_eq_true, Bool.and_eq_true] at h
  exact Psp.rises_up h.2.1
theorem right_dup {most cl : Int} {K : List Key} {l : List Psp.Req} {i : Nat} (hi : i < l.length) : rightB most cl K (l.take (i + 1) ++ l.drop i) = false := by
  refine right_rise (Psp.rises_no (k := i) (a := l[i]) (b := l[i]) ?_ ?_ (by rw [Psp.cmpR_zero.2 rfl]; omega))
  · rw [List.getElem?_append_left (by rw [List.length_take]; omega), List.getElem?_take_of_lt (by omega), List.getElem?_eq_getElem hi]
  · rw [List.getElem?_append_right (by rw [List.length_take]; omega), List.getElem?_drop, List.length_take]
    rw [show i + (i + 1 - min (i + 1) l.length) = i by omega, List.getElem?_eq_getElem hi]
theorem right_swap {most cl : Int} {K : List Key} {l : List Psp.Req} {i : Nat} {a b : Psp.Req} (h : rightB most cl K l = true) (ha : l[i + 1]? = some a) (hb : l[i]? = some b) : rightB most cl K ((l.set (i + 1) b).set i a) = false := by
  have hu := right_up h
  obtain ⟨h1, e1⟩ := List.getElem?_eq_some_iff.1 ha
  obtain ⟨h2, e2⟩ := List.getElem?_eq_some_iff.1 hb
  have hlt := List.pairwise_iff_getElem.1 hu i (i + 1) h2 h1 (by omega)
  rw [e1, e2] at hlt
  refine right_rise (Psp.rises_no (k := i) (a := a) (b := b) ?_ ?_ (by rw [Psp.cmpR_swap b a]; omega))
  · rw [List.getElem?_set_self (by simp; omega)]
  · rw [List.getElem?_set_ne (by omega), List.getElem?_set_self (by omega)]
theorem right_nil (most cl : Int) (K : List Key) (h : 0 ≤ most) : rightB most cl K [] = true := by
  unfold rightB; rw [decide_eq_true (by simpa using h)]; rfl

theorem own_rd {w : World} {base m c : Nat} {A : Option Addr} {l : List Psp.Req} (h : w.ownsRow base 26 6 (.slice A m c) m (l.flatMap rq)) : RdP w (fun b => b < w.heap.size) 6 (.slice A m c) m (l.flatMap rq) := (Rd.of_own h).to_p (Nat.le_refl _)
theorem own_zero {w : World} {base b o n c : Nat} {e : TypeId} {xs : List Value} (h : w.ownsRow base e 6 (.slice (some ⟨b, o, none⟩) n c) n xs) : o = 0 := by
  rcases h.2 with ⟨h1, _⟩ | ⟨g, cap, cur, h1, _⟩
  · cases h1
  · injection h1 with e1 _ _
    injection e1 with e1
    injection e1
theorem own_some {w : World} {base m c : Nat} {A : Option Addr} {l : List Psp.Req} (h : w.ownsRow base 26 6 (.slice A m c) m (l.flatMap rq)) (hl : l.length = m) (hm : 0 < m) : ∃ b, A = some ⟨b, 0, none⟩ ∧ base ≤ b ∧ m ≤ c ∧ c ≤ 9223372036854775807 := by
  obtain ⟨b, o, c', he, _, h1, h2, _⟩ := ri_elem (own_rd h) hl hm
  injection he with he1 _ he2
  subst he1 he2
  obtain rfl := own_zero h
  exact ⟨b, rfl, own_lt h b rfl, h1, h2⟩
theorem rd_take {w : World} {m c k : Nat} {A : Option Addr} {l : List Psp.Req} (h : RdP w (fun b => b < w.heap.size) 6 (.slice A m c) m (l.flatMap rq)) (hk : k ≤ m) : RdP w (fun b => b < w.heap.size) 6 (.slice A k c) k ((l.take k).flatMap rq) := by
  rw [← od_take]
  exact (h.to_rd.take hk).to_p (Nat.le_refl _)
theorem own_base {w : World} {base base' k n : Nat} {e : TypeId} {v : Value} {xs : List Value} (h : w.ownsRow base e k v n xs) (hb : base' ≤ base) : w.ownsRow base' e k v n xs :=
  ⟨h.1, h.2.imp id fun ⟨g, cap, cur, h1, h2, h3⟩ => ⟨g, cap, cur, h1, Nat.le_trans hb h2, h3⟩⟩
theorem rd_news {w : World} {b k c i : Nat} {X : List Psp.Req} (h : RdP w (fun b => b < w.heap.size) 6 (.slice (some ⟨b, 0, none⟩) k c) k (X.flatMap rq)) (hk : 0 < k) : ∀ j u, ((X.drop i).flatMap rq)[j]? = some u → w.cell? ((⟨b, i * 6, none⟩ : Addr).add j) = some u := by
  intro j u hu
  obtain ⟨_, A', c', e, _, _, hl⟩ := h
  obtain ⟨b', o', e2, _, _, hl⟩ := hl hk
  injection e with e _ _
  rw [e2] at e
  injection e with e
  injection e with e3 e4
  subst e3 e4
  rw [od_add]
  rw [← od_drop, List.getElem?_drop] at hu
  have := hl _ _ hu
  rwa [Nat.zero_add] at this
theorem below_grown {w5 w6 w7 : World} {k n : Nat} {e : TypeId} {v : Value} {xs : List Value} (h : Below w5.heap.size w5 w6) (hown : w6.ownsRow w5.heap.size e k v n xs) (hg : w6.grownBy w7 v.ownBlock) : Below w5.heap.size w5 w7 :=
  ((Fp.of_below h (fun _ => False)).grown hg fun j hj => Or.inr (own_lt hown j hj)).to_below (Nat.le_refl _) fun j _ h => h.elim
theorem keep5 {w5 w1 w2 : World} (h : Below w1.heap.size w1 w2) (hs : Hid (Below w5.heap.size w5 w1)) : Hid (Below w5.heap.size w5 w2) := Lib.hid (Below.then hs.out h hs.out.size)

set_option maxRecDepth 100000 in
set_option maxHeartbeats 16000000 in
theorem walk (v0 : Value) (l : List Psp.Req) (at0 : Int) (w : World) (hr : Rd w w.heap.size 6 v0 l.length (l.flatMap rq)) (hwf : ∀ x ∈ l, wfReq x) (hat : isI64 at0) :
    Calls Try.prog 5 #[v0, .int .i64 at0] w fun e w' => e = .returned (.bool true) ∧ Below w.heap.size w w' := by
  have hp := hr.to_p (Nat.le_refl _)
  obtain ⟨n, hn⟩ : ∃ n, l.length = n := ⟨_, rfl⟩
  rw [hn] at hp
  have Hp := Lib.hid hp
  have Hn := Lib.hid hn
  have Hwf := Lib.hid hwf
  have Hat := Lib.hid hat
  clear hp hr hn hwf hat
  go_enter Try.func5, Try.ntmps5
  go_wp2_with fail
  refine (both_any l n v0 3 w Hp.out Hn.out Hwf.out).mono ?_
  rintro e w1 ⟨A1, c1, L0, g, bm, g2, K, S, rfl, hown1, hbo1, hl30, _⟩
  obtain ⟨n1, hn1⟩ : ∃ n1, L0.length = n1 := ⟨_, rfl⟩
  rw [hn1] at hown1 hl30 ⊢
  have HO1 := Lib.hid hown1
  have HN1 := Lib.hid hbo1.nt
  have HB1 := Lib.hid hbo1.be
  have Hn1 := Lib.hid hn1
  have hgg : Hid (w.heap.size ≤ g ∧ w.heap.size ≤ bm) := Lib.hid hbo1.b1
  clear hown1 hbo1 hn1
  go_wp2_with fail
  refine (qorder_any L0 n1 (.slice A1 n1 c1) w1 _ (own_rd HO1.out) Hn1.out (by omega)).mono ?_
  obtain ⟨q, hq⟩ : ∃ q, (Psp.ordR L0).length = q := ⟨_, rfl⟩
  obtain ⟨L, hL⟩ : ∃ L, Psp.ordR L0 = L := ⟨_, rfl⟩
  have hq30 : q ≤ 30 := by
    have := Psp.ord_len L0 []
    rw [← hq]
    unfold Psp.ordR
    have h4 := Hn1.out
    simp at this; omega
  rw [hq]
  rw [hL] at hq ⊢
  rintro e w2 ⟨A, c, rfl, hown, hb⟩
  have HO := Lib.hid hown
  have HB2 := Lib.hid (Below.then HB1.out hb HB1.out.size)
  have HN2 := Lib.hid (HN1.out.below hb)
  have Hq := Lib.hid hq
  clear hown hb hq hL HO1 HB1 HN1 Hp Hn1
  go_upto_block 0 with fail
  go_cut [5] from 20 to 33 (fun x wx => ∃ k : Nat, x = .slice A k c ∧ k ≤ q ∧ rightB 40 3 K (L.take k) = true ∧ Below w2.heap.size w2 wx)
  case first =>
    go_wp2_with fail
    go_loopw [5] (fun x wr => ∃ k : Nat, x = .slice A k c ∧ k ≤ q ∧ Hid (Below w2.heap.size w2 wr)) (fun x _ => match x with | .slice _ k _ => k | _ => 0)
    case atStart => exact ⟨q, rfl, Nat.le_refl _, Lib.hid (Below.refl _ _)⟩
    case round =>
      obtain ⟨k, rfl, hk, HBk⟩ := hrel
      by_cases h0 : 0 < k
      case' pos =>
        have d1 : decide ((k : Int) > 0) = true := by simp; omega
        obtain ⟨b, rfl, hbb, hc1, hc2⟩ := own_some HO.out Hq.out (by omega)
        have HX := Lib.hid (rd_take (own_rd (own_below HO.out HBk.out)) hk)
        have HNk := Lib.hid (HN2.out.below HBk.out)
        have hlk : (L.take k).length = k := by rw [List.length_take, Hq.out]; omega
        have Hlk := Lib.hid hlk
        clear hlk
        go_wp2_with fail
        refine (batch_any (L.take k) k (.slice (some ⟨b, 0, none⟩) k c) 40 3 g bm K wr _ HX.out Hlk.out HNk.out).mono ?_
        obtain ⟨rb, hrb⟩ : ∃ rb, rightB 40 3 K (L.take k) = rb := ⟨_, rfl⟩
        rw [hrb]
        rintro e w3 ⟨rfl, hb3⟩
        have HB3 := Lib.hid (Below.then HBk.out hb3 HBk.out.size)
        clear hb3
        cases rb
        case' true =>
          go_wp2_with fail
          go_meet
          exact ⟨k, rfl, hk, hrb, HB3.out⟩
        case' false =>
          have z1 : (k : Int) - 1 = ((k - 1 : Nat) : Int) := by omega
          have z2 : ((k - 1 : Nat) : Int) ≤ (k : Int) := by omega
          have z3 : ((k - 1 : Nat) : Int) ≤ (c : Int) := by omega
          clear hrb
          go_wp2_with fail
          go_roundw
          case rel => exact ⟨k - 1, by first | rfl | go_num, by omega, HB3⟩
          case measure => first | (simp; done) | (simp; omega)
      case' neg =>
        have d1 : decide ((k : Int) > 0) = false := by simp; omega
        go_wp2_with fail
        go_meet
        obtain rfl : k = 0 := by omega
        exact ⟨0, rfl, Nat.zero_le _, right_nil _ _ _ (by omega), HBk.out⟩
  case' rest =>
    obtain ⟨k, rfl, hk, hright, hbw⟩ := hcut
    have hox := own_below HO.out hbw
    have HX := Lib.hid (rd_take (own_rd hox) hk)
    have HNc := Lib.hid (HN2.out.below hbw)
    have HBc := Lib.hid (Below.then HB2.out hbw HB2.out.size)
    have hlx : (L.take k).length = k := by rw [List.length_take, Hq.out]; omega
    have hkc : 0 < k → ∃ b, A = some ⟨b, 0, none⟩ ∧ k ≤ c ∧ c ≤ 9223372036854775807 := fun h => by
      obtain ⟨b, e, _, h1, h2⟩ := own_some HO.out Hq.out (by omega)
      exact ⟨b, e, by omega, h2⟩
    have Hkc := Lib.hid hkc
    obtain ⟨X, hXe⟩ : ∃ X, L.take k = X := ⟨_, rfl⟩
    rw [hXe] at HX hlx hright
    have Hlx := Lib.hid hlx
    have Hr := Lib.hid hright
    obtain ⟨w3, hw3⟩ : ∃ w3, w3 = wc := ⟨_, rfl⟩
    rw [← hw3] at HX HNc HBc ⊢
    clear hw3 hox hbw hlx hXe hright hkc HO HN2 HB2 Hq
    go_wp2_with fail
    refine (batch_any X k (.slice A k c) 40 3 g bm K w3 _ HX.out Hlx.out HNc.out).mono ?_
    rw [Hr.out]
    rintro e w4 ⟨rfl, hb4⟩
    have HX4 := Lib.hid (HX.out.keeps (Keeps.on hb4))
    have HN4 := Lib.hid (HNc.out.below hb4)
    have HB4 := Lib.hid (Below.then HBc.out hb4 HBc.out.size)
    clear hb4 HX HNc HBc
    go_wp2_with fail
    refine (batch_any [] 0 (.slice none 0 0) 0 3 g bm K w4 (fun _ => False) RdP.none_ rfl HN4.out).mono ?_
    rw [right_nil 0 3 K (by omega)]
    rintro e w5 ⟨rfl, hb5⟩
    have HX5 := Lib.hid (HX4.out.keeps (Keeps.on hb5))
    have HN5 := Lib.hid (HN4.out.below hb5)
    have HB5 := Lib.hid (Below.then HB4.out hb5 HB4.out.size)
    clear hb5 HX4 HN4 HB4
    by_cases h0 : k = 0
    case' pos =>
      have d1 : decide ((k : Int) = 0) = true := by simp; omega
      have d2 : ((k : Int) == 0) = true := by simp; omega
      go_wp2_with fail
      refine (wakes05 _).mono ?_
      rintro e w8 ⟨rfl, hb8⟩
      have HB8 := Lib.hid (Below.then HB5.out hb8 HB5.out.size)
      clear hb8
      go_wp2_with fail
      go_ret
      exact ⟨rfl, HB8.out⟩
    case' neg =>
      have d1 : decide ((k : Int) = 0) = false := by simp; omega
      have d2 : ((k : Int) == 0) = false := by simp; omega
      obtain ⟨b, rfl, hc1, hc2⟩ := Hkc.out (by omega)
      clear Hkc
      go_wp2_with fail
      obtain ⟨i, hi, hik⟩ : ∃ i : Nat, Psp.within at0 (k : Int) = (i : Int) ∧ i < k := by
        have h1 := Psp.within_lo at0 (k : Int)
        have h2 := Psp.within_hi at0 (k : Int) (by omega)
        exact ⟨(Psp.within at0 (k : Int)).toNat, by omega, by omega⟩
      have hw := within_any at0 (k : Int) w5 Hat.out.1 Hat.out.2 (by omega) (by omega)
      rw [hi] at hw
      refine hw.mono ?_
      rintro e w5' ⟨rfl, rfl⟩
      clear hw hi
      have HCp : Hid (∀ w', Hid (Below w5.heap.size w5 w') → Calls Try.prog 7 #[.slice (some ⟨b, 0, none⟩) (i + 1) c] w' fun e w'' => ∃ A c', e = .returned (.slice A (i + 1) c') ∧ w''.ownsRow w5.heap.size 26 6 (.slice A (i + 1) c') (i + 1) ((X.take (i + 1)).flatMap rq) ∧ Below w'.heap.size w' w'') := Lib.hid fun w' hs => by
        refine (copy_any (X.take (i + 1)) (i + 1) (.slice (some ⟨b, 0, none⟩) (i + 1) c) w' _ (rd_take (HX5.out.keeps (Keeps.on hs.out)) (by omega)) (by omega)).mono ?_
        rintro e w'' ⟨A, c', rfl, h1, h2⟩
        exact ⟨A, c', rfl, own_base h1 hs.out.size, h2⟩
      obtain ⟨i0, hi0, hz0, hz1, hz2⟩ := info_parts req_info
      have hld : ((X.drop i).flatMap rq).length = (k - i) * 6 := by rw [od_len, List.length_drop, Hlx.out]
      have hst : Hid (Below w5.heap.size w5 w5) := Lib.hid (Below.refl _ _)
      have hd : Below w5.heap.size w5 w5.drew := (Below.refl _ _).drew
      have i1 : IntKind.i64.wrap ((i : Int) + 1) = (i : Int) + 1 := IntWalk.i64_in _ (by omega)
      have i2 : (0 : Int) ≤ (i : Int) + 1 := by omega
      have i3 : (i : Int) + 1 ≤ (k : Int) := by omega
      have i4 : ((i : Int) + 1).toNat = i + 1 := by omega
      have i5 : (0 : Int) ≤ (i : Int) := by omega
      have i6 : (i : Int) ≤ (k : Int) := by omega
      have i7 : (i : Int) + 1 ≤ (c : Int) := by omega
      have q1 : 0 < k - i := by omega
      have q2 : i + 1 + (k - i) ≤ maxLen := by unfold maxLen; omega
      have q3 : (i + 1 + (k - i)) * 48 ≤ 140737488355328 := by omega
      go_upto_region 12 with fail
      go_region_held3 (fun w' => Hid (Below w5.heap.size w5 w'))
        (exact keep5 (by assumption) (by assumption))
        (first
          | (go_at_call 7; refine (HCp.out _ (by assumption)).mono ?_; rintro e w' ⟨Ac, cc, rfl, hown, hb'⟩)
          | ((refine step_append_lies _ (by rfl) _ _ _ (by rfl) w5.heap.size 26 i0 _ 6 48 Try.underlying22 hi0 hz0 hz1 hz2 rfl (by decide) (.slice Ac (i + 1) cc) (i + 1) ((X.take (i + 1)).flatMap rq) (by rfl) hown
               ⟨b, i * 6, none⟩ (k - i) _ ((X.drop i).flatMap rq) (by rfl) hld (rd_news (HX5.out.keeps (Keeps.on (Hid.out (by assumption)))) (by omega)) (od_one _)
               q1 q2 q3 (Hid.out (p := Below w5.heap.size w5 _) (by assumption)).size _ rfl ?_; intro g6 cap6 w6 hown6 hg6 hat6 hlt6; have hb' := below_grown (Hid.out (p := Below w5.heap.size w5 _) (by assumption)) hown hg6)))
      have HY : Hid (w6.ownsRow w5.heap.size 26 6 (.slice (some ⟨g6, 0, none⟩) (i + 1 + (k - i)) cap6) (i + 1 + (k - i)) ((X.take (i + 1) ++ X.drop i).flatMap rq)) := Lib.hid (by rw [List.flatMap_append]; exact hown6)
      have Hly : Hid ((X.take (i + 1) ++ X.drop i).length = i + 1 + (k - i)) := Lib.hid (by rw [List.length_append, List.length_take, List.length_drop, Hlx.out]; omega)
      have HX6 := Lib.hid (HX5.out.keeps (Keeps.on hb'))
      have HN6 := Lib.hid (HN5.out.below hb')
      have HB6 := Lib.hid (Below.then HB5.out hb' HB5.out.size)
      have Hdup := Lib.hid (right_dup (most := 40) (cl := 3) (K := K) (l := X) (i := i) (by rw [Hlx.out]; exact hik))
      have hlt : (X.take i).length = i := by rw [List.length_take, Hlx.out]; omega
      have Hlt := Lib.hid hlt
      obtain ⟨m, hm⟩ : ∃ m, i + 1 + (k - i) = m := ⟨_, rfl⟩
      rw [hm] at HY Hly ⊢
      clear hm hlt hown6 hg6 hat6 hb' HX5 HN5 HB5 hown HCp hst hd q1 q2 q3 i1 i2 i3 i4 i7 hld
      go_wp2_with fail
      refine (batch_any (X.take i) i (.slice (some ⟨b, 0, none⟩) i c) 40 3 g bm K w6 _ (rd_take HX6.out (by omega)) Hlt.out HN6.out).mono ?_
      rw [right_take Hr.out]
      rintro e w7 ⟨rfl, hb7⟩
      have HX7 := Lib.hid (HX6.out.keeps (Keeps.on hb7))
      have HN7 := Lib.hid (HN6.out.below hb7)
      have HB7 := Lib.hid (Below.then HB6.out hb7 HB6.out.size)
      have HY7 := Lib.hid (own_below HY.out hb7)
      clear hb7 HX6 HN6 HB6 HY
      go_wp2_with fail
      refine (batch_any (X.take (i + 1) ++ X.drop i) m (.slice (some ⟨g6, 0, none⟩) m cap6) 40 3 g bm K w7 _ (own_rd HY7.out) Hly.out HN7.out).mono ?_
      rw [Hdup.out]
      rintro e w8 ⟨rfl, hb8⟩
      have HX8 := Lib.hid (HX7.out.keeps (Keeps.on hb8))
      have HN8 := Lib.hid (HN7.out.below hb8)
      have HB8 := Lib.hid (Below.then HB7.out hb8 HB7.out.size)
      clear hb8 HX7 HN7 HB7 HY7 Hly Hdup Hlt
      have z1 : IntKind.i64.wrap ((k : Int) - 1) = (k : Int) - 1 := IntWalk.i64_in _ (by omega)
      go_wp2_with fail
      refine (batch_any X k (.slice (some ⟨b, 0, none⟩) k c) ((k : Int) - 1) 3 g bm K w8 _ HX8.out Hlx.out HN8.out).mono ?_
      rw [right_long (by rw [Hlx.out]; omega)]
      rintro e w9 ⟨rfl, hb9⟩
      have HX9 := Lib.hid (HX8.out.keeps (Keeps.on hb9))
      have HN9 := Lib.hid (HN8.out.below hb9)
      have HB9 := Lib.hid (Below.then HB8.out hb9 HB8.out.size)
      clear hb9 HX8 HN8 HB8
      by_cases hi0' : i = 0
      case' pos =>
        have d3 : decide ((i : Int) > 0) = false := by simp; omega
        go_wp2_with fail
        refine (wakes05 _).mono ?_
        rintro e w10 ⟨rfl, hb10⟩
        have HB10 := Lib.hid (Below.then HB9.out hb10 HB9.out.size)
        clear hb10
        go_wp2_with fail
        go_ret
        exact ⟨rfl, HB10.out⟩
      case' neg =>
        have d3 : decide ((i : Int) > 0) = true := by simp; omega
        go_wp2_with fail
        refine (copy_any X k (.slice (some ⟨b, 0, none⟩) k c) w9 _ HX9.out (by omega)).mono ?_
        rintro e wy ⟨Ay, cy, rfl, howny, hby⟩
        obtain ⟨by', rfl, hyb, hcy1, hcy2⟩ := own_some howny Hlx.out (by omega)
        have HNy := Lib.hid (HN9.out.below hby)
        have Hgl : Hid (g < w9.heap.size ∧ bm < w9.heap.size ∧ w.heap.size ≤ w9.heap.size) := Lib.hid ⟨HN9.out.lt.1, HN9.out.lt.2, HB9.out.size⟩
        have HBy := Lib.hid (Below.then HB9.out hby HB9.out.size)
        have HOy := Lib.hid howny
        clear howny hby HX9 HN9 HB9
        obtain ⟨p, hp⟩ : ∃ p, i = p + 1 := ⟨i - 1, by omega⟩
        obtain ⟨xa, hxa⟩ : ∃ x, X[i]? = some x := ⟨X[i]'(by rw [Hlx.out]; omega), List.getElem?_eq_getElem (by rw [Hlx.out]; omega)⟩
        obtain ⟨xb, hxb⟩ : ∃ x, X[p]? = some x := ⟨X[p]'(by rw [Hlx.out]; omega), List.getElem?_eq_getElem (by rw [Hlx.out]; omega)⟩
        have ra := cpt_rg HOy.out hxa
        have rb := cpt_rg HOy.out hxb
        have a0 := ra 0 _ rfl
        have a1 := ra 1 _ rfl
        have a2 := ra 2 _ rfl
        have a3 := ra 3 _ rfl
        have a4 := ra 4 _ rfl
        have a5 := ra 5 _ rfl
        have b0 := rb 0 _ rfl
        have b1 := rb 1 _ rfl
        have b2 := rb 2 _ rfl
        have b3 := rb 3 _ rfl
        have b4 := rb 4 _ rfl
        have b5 := rb 5 _ rfl
        simp only [Nat.add_zero, iv] at a0 a1 a2 a3 a4 a5 b0 b1 b2 b3 b4 b5
        have fz := HOy.out.frozenAt
        have fa0 := fz (i * 6)
        have fa1 := fz (i * 6 + 1)
        have fa2 := fz (i * 6 + 2)
        have fa3 := fz (i * 6 + 3)
        have fa4 := fz (i * 6 + 4)
        have fa5 := fz (i * 6 + 5)
        have fb0 := fz (p * 6)
        have fb1 := fz (p * 6 + 1)
        have fb2 := fz (p * 6 + 2)
        have fb3 := fz (p * 6 + 3)
        have fb4 := fz (p * 6 + 4)
        have fb5 := fz (p * 6 + 5)
        have hpi : ((i : Nat) : Int) = (p : Int) + 1 := by omega
        rw [hpi]
        clear hpi
        subst hp
        have z2 : IntKind.i64.wrap ((p : Int) + 1 - 1) = (p : Int) := by rw [IntWalk.i64_in _ (by omega)]; omega
        have z2' : IntKind.i64.wrap (p : Int) = (p : Int) := IntWalk.i64_in _ (by omega)
        have z3 : (0 : Int) ≤ (p : Int) := by omega
        have z4 : (p : Int) < (k : Int) := by omega
        have z5 : (p : Int) + 1 < (k : Int) := by omega
        have z6 : (0 : Int) ≤ (p : Int) + 1 := by omega
        have z7 : ((p : Int) + 1).toNat = p + 1 := by omega
        have Hswap := Lib.hid (right_swap (most := 40) (cl := 3) (K := K) Hr.out hxa hxb)
        clear ra rb fz hxa hxb
        go_upto_region 17 with fail
        go_region
        obtain ⟨wz, hwz⟩ : ∃ wz, ((((((((((((wy.setCell ⟨by', (p + 1) * 6, none⟩ (.int .i64 xb.c)).setCell ⟨by', (p + 1) * 6 + 1, none⟩ (.int .i64 xb.t)).setCell ⟨by', (p + 1) * 6 + 2, none⟩ (.int .i64 xb.k)).setCell ⟨by', (p + 1) * 6 + 3, none⟩ (.int .i64 xb.y)).setCell ⟨by', (p + 1) * 6 + 4, none⟩ (.int .i64 xb.v)).setCell ⟨by', (p + 1) * 6 + 5, none⟩ (.int .i64 xb.s)).setCell ⟨by', p * 6, none⟩ (.int .i64 xa.c)).setCell ⟨by', p * 6 + 1, none⟩ (.int .i64 xa.t)).setCell ⟨by', p * 6 + 2, none⟩ (.int .i64 xa.k)).setCell ⟨by', p * 6 + 3, none⟩ (.int .i64 xa.y)).setCell ⟨by', p * 6 + 4, none⟩ (.int .i64 xa.v)).setCell ⟨by', p * 6 + 5, none⟩ (.int .i64 xa.s)).drew = wz := ⟨_, rfl⟩
        rw [hwz]
        have hz : wz = ((wy.setCells by' ((p + 1) * 6) (rq xb)).setCells by' (p * 6) (rq xa)).drew := hwz.symm
        obtain ⟨hs1, hs2⟩ := cpt_set (w := wy) (i := p + 1) xb HOy.out Hlx.out (by omega)
        obtain ⟨hs3, hs4⟩ := cpt_set (w := wy.setCells by' ((p + 1) * 6) (rq xb)) (i := p) xa hs1 (by rw [List.length_set]; exact Hlx.out) (by omega)
        have HZ : Hid (wz.ownsRow w9.heap.size 26 6 (.slice (some ⟨by', 0, none⟩) k cy) k (((X.set (p + 1) xb).set p xa).flatMap rq)) := Lib.hid (by rw [hz]; exact own_below hs3 ((Below.refl _ _).drew))
        have hf : Fp (fun j => j = by') wy wz := by rw [hz]; exact (hs2.trans hs4 (fun _ h => Or.inl h)).drew
        have hgl := Hgl.out
        have HNz := Lib.hid (HNy.out.fp hf (by omega) (by omega))
        have HBz := Lib.hid (HBy.out.trans (hf.to_below (B := w.heap.size) HBy.out.size (fun j _ hj => by omega)))
        clear hwz hz hs1 hs2 hs3 hs4 hf a0 a1 a2 a3 a4 a5 b0 b1 b2 b3 b4 b5 fa0 fa1 fa2 fa3 fa4 fa5 fb0 fb1 fb2 fb3 fb4 fb5 z2 z2' z3 z4 z5 z6 z7
        have Hlz : Hid ((((X.set (p + 1) xb).set p xa)).length = k) := Lib.hid (by rw [List.length_set, List.length_set]; exact Hlx.out)
        go_wp2_with fail
        refine (batch_any ((X.set (p + 1) xb).set p xa) k (.slice (some ⟨by', 0, none⟩) k cy) 40 3 g bm K wz _ (own_rd HZ.out) Hlz.out HNz.out).mono ?_
        rw [Hswap.out]
        rintro e w10 ⟨rfl, hb10⟩
        have HB10 := Lib.hid (Below.then HBz.out hb10 HBz.out.size)
        clear hb10
        go_wp2_with fail
        refine (wakes05 _).mono ?_
        rintro e w11 ⟨rfl, hb11⟩
        have HB11 := Lib.hid (Below.then HB10.out hb11 HB10.out.size)
        clear hb11
        go_wp2_with fail
        go_ret
        exact ⟨rfl, HB11.out⟩
end Go.Proofs.Ytnlnkcljehafkaa.reqsParts
