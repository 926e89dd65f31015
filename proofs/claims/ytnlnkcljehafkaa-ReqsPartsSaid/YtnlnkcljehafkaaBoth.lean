/- Chapter 5: Both: requests that both notaries have sealed. -/
import Derived.Test.YtnlnkcljehafkaaBatch
import Derived.Test.YtnlnkcljehafkaaOrdR
import Derived.Test.YtnlnkcljehafkaaWk5
import Derived.Deep.CutBlock
namespace Go.Proofs.Ytnlnkcljehafkaa
open Go.RowKit
set_option linter.unusedVariables false

theorem Bytes.rdb {e b : List UInt8} {ok o : Bool} {w w' : World} {en : Ending} (h : Bytes e ok w en w') (hb : res e ok = b) (ho : ok = o) :
    ∃ A c, en = .returned (.tuple #[.slice A b.length c, .bool o]) ∧ RdP w' (fun k => w.heap.size ≤ k) 1 (.slice A b.length c) b.length (b.map bv) ∧ Below w.heap.size w w' := by
  subst hb ho
  obtain ⟨A, c, h1, h2, h3⟩ := h.open_
  exact ⟨A, c, h1, (RdP.of_own h2).mono fun b _ hb => hb.2, h3⟩
/-- The two notaries in the loop. -/
structure Bo (w wr : World) (g bm g2 : Nat) (K : List Key) (S : Nat → Prop) (out : Value) : Prop where
  be : Below w.heap.size w wr
  nt : Nt wr g bm K
  nr : Ntr wr S g2 K
  s1 : ∀ b, S b → w.heap.size ≤ b ∧ b < wr.heap.size
  s2 : ¬ S g ∧ ¬ S bm
  b1 : w.heap.size ≤ g ∧ w.heap.size ≤ bm
  ou : ∀ b, out.ownBlock = some b → ¬ S b ∧ b ≠ g ∧ b ≠ bm
theorem Bo.below {w wr w' : World} {g bm g2 : Nat} {K : List Key} {S : Nat → Prop} {out : Value} (h : Bo w wr g bm g2 K S out) (hb : Below wr.heap.size wr w') : Bo w w' g bm g2 K S out :=
  ⟨h.be.trans (hb.mono h.be.size), h.nt.below hb, h.nr.below hb, fun b hS => ⟨(h.s1 b hS).1, Nat.lt_of_lt_of_le (h.s1 b hS).2 hb.size⟩, h.s2, h.b1, h.ou⟩
theorem bo_new {w w1 : World} {g bm : Nat} (hN : Nt w1 g bm []) (hb : Below w.heap.size w w1) (hg : w.heap.size ≤ g) (hbm : w.heap.size ≤ bm) :
    Bo w (w1.alloc (.cells #[.slice none 0 0, .slice none 0 0] 51)) g bm w1.heap.size [] (fun b => b = w1.heap.size) (.slice none 0 0) := by
  have hlt := hN.lt
  refine ⟨Below.then hb (alloc_below _ _) hb.size, hN.below (alloc_below _ _), ⟨_, _, heap_alloc_new w1 _, ⟨rfl, Or.inl ⟨rfl, rfl⟩⟩, ⟨rfl, Or.inl ⟨rfl, rfl⟩⟩, rfl, fun b h => (by cases h), fun b h => (by cases h)⟩, fun b h => ⟨by rw [h]; exact hb.size, by rw [h]; simp⟩, ⟨by omega, by omega⟩, ⟨hg, hbm⟩, fun b h => (by cases h)⟩
theorem sealN_bd (K : List Key) (k : Key) : 0 ≤ sealN K k ∧ sealN K k ≤ (K.length : Int) + 1 := by
  unfold sealN
  split
  · rename_i h
    have := List.idxOf_lt_length_iff.2 h
    omega
  · omega
theorem sealL_len (K : List Key) (k : Key) : (sealL K k).length ≤ K.length + 1 := by
  unfold sealL; split <;> simp

theorem bo_seal {w w2 w3 w5 : World} {N g bm g2 m : Nat} {K Kn : List Key} {S : Nat → Prop} {out : Value} {xs : List Value} {x : Psp.Req} {sn : Int}
    (h : Bo w w2 g bm g2 K S out) (hwN : w.heap.size ≤ N) (hz : N < w2.heap.size) (hS : ∀ b, S b → b < N) (hg : g < N) (hbm : bm < N)
    (hout : w2.ownsRow w.heap.size 26 6 out m xs) (hob : ∀ b, out.ownBlock = some b → b < N)
    (hr : w2.heap[N]? = some (.cells #[.int .i64 x.c, .int .i64 x.t, .int .i64 x.k, .int .i64 x.y, .int .i64 x.v, .int .i64 x.s] 26 (0, 0)))
    (hN3 : Nt w3 g bm Kn) (hf3 : Fp (fun b => b = bm) w2 w3)
    (hN5 : Ntr w5 (fun b => S b ∨ ((w3.setCell ⟨N, 5, none⟩ (.int .i64 sn)).heap.size ≤ b ∧ b < w5.heap.size)) g2 Kn) (hf5 : Fp S (w3.setCell ⟨N, 5, none⟩ (.int .i64 sn)) w5) :
    w5.heap[N]? = some (.cells #[.int .i64 x.c, .int .i64 x.t, .int .i64 x.k, .int .i64 x.y, .int .i64 x.v, .int .i64 sn] 26 (0, 0)) ∧ Bo w w5 g bm g2 Kn (fun b => S b ∨ ((w3.setCell ⟨N, 5, none⟩ (.int .i64 sn)).heap.size ≤ b ∧ b < w5.heap.size)) out ∧ w5.ownsRow w.heap.size 26 6 out m xs := by
  have hs4 : (w3.setCell ⟨N, 5, none⟩ (.int .i64 sn)).heap.size = w3.heap.size := by simp [World.setCell]
  have hz3 : w2.heap.size ≤ w3.heap.size := hf3.size
  have hz5 : w3.heap.size ≤ w5.heap.size := by have := hf5.size; rw [hs4] at this; exact this
  have hr3 := (hf3.block N hz (by omega)).trans hr
  have hr4 := heap_setCell_same w3 N 5 _ _ (.int .i64 sn) hr3
  have hr5 := (hf5.block N (by rw [hs4]; omega) (fun hs => by have := hS N hs; omega)).trans hr4
  have h4 : ∀ b, b < N → (w3.setCell ⟨N, 5, none⟩ (.int .i64 sn)).heap[b]? = w3.heap[b]? := fun b hb => Below.heap_setCell w3 _ _ b (by simp; omega)
  refine ⟨hr5, ⟨?_, ?_, hN5, ?_, ⟨?_, ?_⟩, h.b1, ?_⟩, ?_⟩
  · exact ((h.be.trans (hf3.to_below (B := w.heap.size) h.be.size (fun k _ hk => by subst hk; exact h.b1.2))).setCell (p := ⟨N, 5, none⟩) hwN _).trans (hf5.to_below (B := w.heap.size) (by rw [hs4]; exact Nat.le_trans h.be.size hz3) (fun k _ hk => (h.s1 k hk).1))
  · exact (hN3.keep (h4 g hg) (h4 bm hbm)).fp hf5 h.s2.1 h.s2.2
  · intro b hb
    rcases hb with hb | hb
    · exact ⟨(h.s1 b hb).1, by have := hS b hb; omega⟩
    · rw [hs4] at hb; exact ⟨by have := h.be.size; omega, hb.2⟩
  · rintro (hb | hb)
    · exact h.s2.1 hb
    · rw [hs4] at hb; omega
  · rintro (hb | hb)
    · exact h.s2.2 hb
    · rw [hs4] at hb; omega
  · intro b hb
    obtain ⟨u1, u2, u3⟩ := h.ou b hb
    refine ⟨?_, u2, u3⟩
    rintro (hq | hq)
    · exact u1 hq
    · have := hob b hb; rw [hs4] at hq; omega
  · exact own_keep hout fun b hb => by
      have hbN := hob b hb
      obtain ⟨u1, u2, u3⟩ := h.ou b hb
      rw [hf5.block b (by rw [hs4]; omega) u1, h4 b hbN, hf3.block b (by omega) u3]

theorem bo_app {w wc w5 : World} {g bm g2 : Nat} {K : List Key} {S : Nat → Prop} {out out5 : Value} (h : Bo w wc g bm g2 K S out) (hg5 : wc.grownBy w5 out.ownBlock) (hb5 : Below w.heap.size wc w5)
    (hat : out5.ownBlock = out.ownBlock ∨ out5.ownBlock = some (wc.heap.size + 1)) : Bo w w5 g bm g2 K S out5 := by
  have hlt := h.nt.lt
  refine ⟨h.be.trans hb5, h.nt.keep (hg5.block g hlt.1 (fun he => (h.ou g he.symm).2.1 rfl)) (hg5.block bm hlt.2 (fun he => (h.ou bm he.symm).2.2 rfl)), h.nr.keep (fun b hS hlt => hg5.block b hlt (fun he => (h.ou b he.symm).1 hS)), fun b hS => ⟨(h.s1 b hS).1, Nat.lt_of_lt_of_le (h.s1 b hS).2 hg5.size⟩, h.s2, h.b1, fun b hb => ?_⟩
  rcases hat with he | he
  · rw [he] at hb; exact h.ou b hb
  · rw [he] at hb
    injection hb with hb
    exact ⟨fun hS => by have := (h.s1 b hS).2; omega, by omega, by omega⟩

set_option maxRecDepth 100000 in
set_option maxHeartbeats 8000000 in
theorem both_any (l : List Psp.Req) (n : Nat) (v : Value) (cl : Int) (w : World) (hx : RdP w (fun b => b < w.heap.size) 6 v n (l.flatMap rq)) (hn : l.length = n) (hw : ∀ x ∈ l, wfReq x) :
    Calls Try.prog 17 #[v, .int .i64 cl] w fun e w' => ∃ (A : Option Addr) (c : Nat) (L : List Psp.Req) (g bm g2 : Nat) (K : List Key) (S : Nat → Prop), e = .returned (.tuple #[.slice A L.length c, .pointer (some ⟨g, 0, none⟩), .pointer (some ⟨g2, 0, none⟩)]) ∧
      w'.ownsRow w.heap.size 26 6 (.slice A L.length c) L.length (L.flatMap rq) ∧ Bo w w' g bm g2 K S (.slice A L.length c) ∧ L.length ≤ 30 ∧ ∀ x ∈ L, wfReq x := by
  obtain ⟨_, A, c, rfl, hc1, hc2, _⟩ := hx.parts
  have HX := Lib.hid hx
  have Hn := Lib.hid hn
  have Hw := Lib.hid hw
  clear hx hn hw
  go_enter Try.func17, Try.ntmps17
  go_wp2_with fail
  refine (nt_new w).mono ?_
  rintro e w0 ⟨g, bm, rfl, hN, hb, hg, hbm⟩
  have HBo := Lib.hid (bo_new hN hb hg hbm)
  obtain ⟨g2, hg2⟩ : ∃ g2, g2 = w0.heap.size := ⟨_, rfl⟩
  clear hN hb
  go_wp2_with fail
  go_loopw [9, 10, 11, 12, 13] (fun out i s11 s12 s13 wr => ∃ (k : Nat) (L : List Psp.Req) (A1 : Option Addr) (m c1 : Nat) (K : List Key) (S : Nat → Prop), out = .slice A1 m c1 ∧ i = .int .i64 (k : Int) ∧ k ≤ n ∧ k ≤ 30 ∧ m = L.length ∧ m ≤ k ∧ K.length ≤ k ∧ Hid (wr.ownsRow w.heap.size 26 6 (.slice A1 m c1) m (L.flatMap rq)) ∧ Hid (Bo w wr g bm w0.heap.size K S (.slice A1 m c1)) ∧ Hid (∀ x ∈ L, wfReq x)) (fun _ i _ _ _ _ => n - (intOf i).toNat)
  case atStart => exact ⟨0, [], none, 0, 0, [], _, rfl, rfl, Nat.zero_le _, Nat.zero_le _, rfl, Nat.zero_le _, Nat.zero_le _, Lib.hid ⟨rfl, Or.inl ⟨rfl, rfl⟩⟩, HBo, Lib.hid (fun x hx => by cases hx)⟩
  case round =>
    obtain ⟨k, L, A1, m, c1, K, S, rfl, rfl, hk, hk30, hm, hmk, hKk, HO, HB, HL⟩ := hrel
    have Hm := Lib.hid hm
    clear hm
    by_cases hlt : k < n
    case' neg =>
      have d1 : decide ((k : Int) < (n : Int)) = false := by simp; omega
      go_wp2_with fail
      go_ret3
      refine ⟨A1, c1, L, g, bm, w0.heap.size, K, S, by rw [← Hm.out]; rfl, by rw [← Hm.out]; exact HO.out, by rw [← Hm.out]; exact HB.out, by rw [← Hm.out]; omega, HL.out⟩
    case' pos =>
      have d1 : decide ((k : Int) < (n : Int)) = true := by simp; omega
      by_cases hl3 : k < 30
      case' neg =>
        have d2 : decide ((k : Int) < 30) = false := by simp; omega
        go_wp2_with fail
        go_ret3
        refine ⟨A1, c1, L, g, bm, w0.heap.size, K, S, by rw [← Hm.out]; rfl, by rw [← Hm.out]; exact HO.out, by rw [← Hm.out]; exact HB.out, by rw [← Hm.out]; omega, HL.out⟩
      case' pos =>
        have d2 : decide ((k : Int) < 30) = true := by simp; omega
        obtain ⟨b0, o0, c0, he, hb0, _, _, hel⟩ := ri_elem HX.out Hn.out (by omega)
        injection he with he1 _ he2
        subst he1 he2
        obtain ⟨x, hx⟩ : ∃ x, l[k]? = some x := ⟨l[k]'(by rw [Hn.out]; omega), List.getElem?_eq_getElem (by rw [Hn.out]; omega)⟩
        have hwx : wfReq x := by
          obtain ⟨hj, he⟩ := List.getElem?_eq_some_iff.1 hx
          exact Hw.out x (by rw [← he]; exact List.getElem_mem hj)
        have hrg := hel k x hx wr (HB.out.be.block b0 hb0)
        have e0 := hrg 0 _ rfl
        have e1 := hrg 1 _ rfl
        have e2 := hrg 2 _ rfl
        have e3 := hrg 3 _ rfl
        have e4 := hrg 4 _ rfl
        have e5 := hrg 5 _ rfl
        simp only [Nat.add_zero, iv] at e0 e1 e2 e3 e4 e5
        have Hwx := Lib.hid hwx
        clear hx hwx hrg hel
        go_wp2_with fail
        refine (rbody_any x _).mono ?_
        intro e w2 h
        obtain ⟨bb, hbb⟩ : ∃ bb, bb = res (Psp.encR (bare x)) (Psp.okR (bare x)) := ⟨_, rfl⟩
        obtain ⟨ob, hob⟩ : ∃ ob, ob = Psp.okR (bare x) := ⟨_, rfl⟩
        obtain ⟨A2, c2, rfl, hp, hb2⟩ := Bytes.rdb h hbb.symm hob.symm
        have hbx : Below wr.heap.size wr w2 := Below.then (alloc_below wr (.cells #[.int .i64 x.c, .int .i64 x.t, .int .i64 x.k, .int .i64 x.y, .int .i64 x.v, .int .i64 x.s] 26)) hb2 (by simp)
        have hrow := (hb2.block wr.heap.size (by simp)).trans (heap_alloc_new wr (.cells #[.int .i64 x.c, .int .i64 x.t, .int .i64 x.k, .int .i64 x.y, .int .i64 x.v, .int .i64 x.s] 26))
        have HSn := Lib.hid (fun b hS => (HB.out.s1 b hS).2)
        have HGn := Lib.hid HB.out.nt.lt
        have HOn := Lib.hid (fun b (hb : (Value.slice A1 m c1).ownBlock = some b) => (HO.out.lt b hb).2)
        have HB2 := Lib.hid (HB.out.below hbx)
        have HO2 := Lib.hid (own_below HO.out hbx)
        have HR2 := Lib.hid hrow
        have HP := Lib.hid (hp.mono (P' := fun b => wr.heap.size < b) (fun b _ hb => by simp at hb; omega))
        have hlb : bb.length ≤ 36 := by rw [hbb]; exact res_len (bare x)
        have hc : ob = true → x.c < 1099511627776 ∧ 0 ≤ x.c := by
          intro h1
          rw [hob] at h1
          unfold Psp.okR at h1
          rw [Bool.and_eq_true, Psp.okN_iff] at h1
          exact ⟨h1.1.2, h1.1.1⟩
        have hz2 : wr.heap.size < w2.heap.size := (Array.getElem?_eq_some_iff.1 hrow).1
        clear h hp hb2 hbx hrow hbb hob e0 e1 e2 e3 e4 e5
        go_upto_region 8 with fail
        go_cut [45] from 40 to 45 (fun x wx => ∃ go : Bool, x = .bool go ∧ (go = true → ob = true) ∧ w2 = wx)
        case first =>
          cases ob
          case' false =>
            go_wp2_with fail
            go_meet
            exact ⟨false, rfl, fun h => h, rfl⟩
          case' true =>
            go_wp2_with fail
            go_meet
            exact ⟨_, rfl, fun _ => by first | rfl | trivial, rfl⟩
        case' rest =>
          obtain ⟨go, rfl, hgo, rfl⟩ := hcut
          have hgc : go = true → x.c < 1099511627776 ∧ 0 ≤ x.c := fun h => hc (hgo h)
          clear hc hgo
          go_upto_if 45 with fail
          go_cut [] from 46 to 58 (fun wx => ∃ (r : Psp.Req) (K2 : List Key) (S2 : Nat → Prop), wx.heap[wr.heap.size]? = some (.cells #[.int .i64 r.c, .int .i64 r.t, .int .i64 r.k, .int .i64 r.y, .int .i64 r.v, .int .i64 r.s] 26 (0, 0)) ∧ wfReq r ∧ K2.length ≤ K.length + 1 ∧ Bo w wx g bm w0.heap.size K2 S2 (.slice A1 m c1) ∧ wx.ownsRow w.heap.size 26 6 (.slice A1 m c1) m (L.flatMap rq))
          case first =>
            cases go
            case' false =>
              go_wp2_with fail
              go_meet
              exact ⟨x, K, S, HR2.out, Hwx.out, Nat.le_succ _, HB2.out, HO2.out⟩
            case' true =>
              obtain ⟨q1, q2⟩ := hgc rfl
              obtain ⟨x0, x1, x2, x3, x4, x5, x6⟩ := rst_cells HR2.out
              have HK : Hid (KOk (100 + x.c, bb)) := Lib.hid ⟨⟨by show -9223372036854775808 ≤ 100 + x.c; omega, by show 100 + x.c ≤ 9223372036854775807; omega⟩, by show bb.length ≤ _; unfold maxLen; omega⟩
              have hg1 := HB2.out.nt.lt
              go_wp2_with fail
              refine (nt_seal g bm K (100 + x.c) bb _ w2 _ HB2.out.nt HK.out (by omega) HP.out).mono ?_
              obtain ⟨sn, hsn⟩ : ∃ sn, sealN K (100 + x.c, bb) = sn := ⟨_, rfl⟩
              rw [hsn]
              rintro e w3 ⟨rfl, hN3, hf3⟩
              have hgn := HGn.out
              have hr3 := (hf3.block wr.heap.size hz2 (by omega)).trans HR2.out
              obtain ⟨x0, x1, x2, x3, x4, x5, x6⟩ := rst_cells hr3
              have hs4 : (w3.setCell ⟨wr.heap.size, 5, none⟩ (.int .i64 sn)).heap.size = w3.heap.size := by simp [World.setCell]
              have hnr4 : Ntr (w3.setCell ⟨wr.heap.size, 5, none⟩ (.int .i64 sn)) S w0.heap.size K := (HB2.out.nr.fp hf3 (fun b hS he => HB2.out.s2.2 (he ▸ hS))).keep fun b hS _ => Below.heap_setCell w3 _ _ b (by have := HSn.out b hS; simp; omega)
              have hrd4 : RdP (w3.setCell ⟨wr.heap.size, 5, none⟩ (.int .i64 sn)) (fun b => wr.heap.size < b) 1 (.slice A2 bb.length c2) bb.length (bb.map bv) := (HP.out.fp hf3 (fun b hb he => by omega)).keep (by rw [hs4]; exact Nat.le_refl _) fun b hb _ => Below.heap_setCell w3 _ _ b (by simp; omega)
              have HN3 := Lib.hid hN3
              have HF3 := Lib.hid hf3
              have HN4 := Lib.hid hnr4
              have HV4 := Lib.hid hrd4
              have Hsn := Lib.hid hsn
              have hz3 : wr.heap.size < w3.heap.size := (Array.getElem?_eq_some_iff.1 hr3).1
              clear hN3 hf3 hnr4 hrd4 hsn hr3 hs4
              go_wp2_with fail
              refine (nr_seal S w0.heap.size K (100 + x.c) bb _ _ _ HN4.out (by omega) HV4.out (fun b hb hS => by have := HSn.out b hS; omega)).mono ?_
              rintro e w5 ⟨rfl, hN5, hf5⟩
              obtain ⟨q5, q6, q7⟩ := bo_seal HB2.out HB.out.be.size hz2 HSn.out hgn.1 hgn.2 HO2.out HOn.out HR2.out HN3.out HF3.out hN5 hf5
              have hsb := sealN_bd K (100 + x.c, bb)
              rw [Hsn.out] at hsb
              obtain ⟨t1, t2, t3, t4, t5, t6⟩ := Hwx.out
              clear hN5 hf5
              go_wp2_with fail
              go_meet
              exact ⟨⟨x.c, x.t, x.k, x.y, x.v, sn⟩, _, _, q5, ⟨t1, t2, t3, t4, t5, ⟨by show -9223372036854775808 ≤ sn; omega, by show sn ≤ 9223372036854775807; omega⟩⟩, sealL_len _ _, q6, q7⟩
          case' rest =>
            obtain ⟨r, K2, S2, hrow, hwr, hK2, hBo, hown⟩ := hcut
            obtain ⟨x0, x1, x2, x3, x4, x5, x6⟩ := rst_cells hrow
            have Hwr := Lib.hid hwr
            have HBo2 := Lib.hid hBo
            have HOw := Lib.hid hown
            have hszc := hBo.be.size
            clear hrow hwr hBo hown
            go_wp2_with (at_builtin; refine wpList_app1 reqE rfl _ _ rfl w.heap.size (.slice A1 m c1) m (L.flatMap rq) rfl HOw.out _ rfl rfl (by simp [Value.oneCell']) (by omega) (by omega) hszc ?_; intro v5 w5 h5 hg5 hb5 hat5; obtain ⟨A5, c5, rfl, _, _, _⟩ := own_slice h5)
            have HF1 := Lib.hid (bo_app HBo2.out hg5 hb5 hat5)
            have HF2 : Hid (w5.ownsRow w.heap.size 26 6 (.slice A5 (m + 1) c5) (m + 1) ((L ++ [r]).flatMap rq)) := Lib.hid (by rw [List.flatMap_append]; simpa [rq, iv] using h5)
            clear h5 hg5 hb5 hat5
            go_wp2_with fail
            go_roundw
            case rel => exact ⟨k + 1, L ++ [r], A5, m + 1, c5, K2, S2, rfl, by go_num, by omega, by omega, by rw [List.length_append, ← Hm.out]; rfl, by omega, by omega, HF2, HF1, Lib.hid (fun y hy => by
              rcases List.mem_append.1 hy with hy | hy
              · exact HL.out y hy
              · rw [List.mem_singleton.1 hy]; exact Hwr.out)⟩
            case measure => first | (simp [intOf]; done) | (simp [intOf]; omega)
end Go.Proofs.Ytnlnkcljehafkaa
