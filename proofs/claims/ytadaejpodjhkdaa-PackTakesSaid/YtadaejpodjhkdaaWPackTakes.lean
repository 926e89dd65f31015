/- The walk of PackTakes: first part. -/
import Derived.Test.YtadaejpodjhkdaaPz
import Derived.Deep.CutBlock
namespace Go.Proofs.Ytadaejpodjhkdaa.packTakes
open Go.RowKit
set_option linter.unusedVariables false

/-- The two boxes and the bytes, as they stand through all five stages. -/
structure St (w : World) (N : Nat) (A : Option Addr) (c : Nat) (bb : List UInt8) (a : Int) (wx : World) : Prop where
  g2 : wx.heap[N]? = some (.cells #[.slice A bb.length c] 24 (0, 0))
  g3 : wx.heap[N + 1]? = some (.cells #[.int .i64 a] 3 (0, 0))
  rd : RdP wx (fun b => b < N) 1 (.slice A bb.length c) bb.length (bb.map bv)
  be : Below N w wx
  sz : N + 2 ≤ wx.heap.size

theorem cell_one {w : World} {g : Nat} {v : Value} {T : TypeId} (h : w.heap[g]? = some (.cells #[v] T (0, 0))) : w.cell? ⟨g, 0, none⟩ = some v ∧ w.frozen? ⟨g, 0, none⟩ = false := by
  constructor
  · simp [World.cell?, h]
  · simp [World.frozen?, h]
theorem St.put2 {w : World} {N : Nat} {A : Option Addr} {c : Nat} {bb : List UInt8} {a : Int} {wx : World} (h : St w N A c bb a wx) {b2 : List UInt8} (hr : RdP wx (fun b => b < N) 1 (.slice A b2.length c) b2.length (b2.map bv)) :
    St w N A c b2 a (wx.setCell ⟨N, 0, none⟩ (.slice A b2.length c)) := by
  have hb : Below N wx (wx.setCell ⟨N, 0, none⟩ (.slice A b2.length c)) := (Below.refl N wx).setCell (Nat.le_refl _) _
  have hz := h.sz
  refine ⟨one_setCell h.g2, (Below.heap_setCell _ _ _ _ (by simp)).trans h.g3, ?_, h.be.trans hb, by simpa using hz⟩
  exact hr.keeps ⟨by simp, fun k hk _ => ⟨hb.block k hk, hk⟩⟩
theorem St.put3 {w : World} {N : Nat} {A : Option Addr} {c : Nat} {bb : List UInt8} {a : Int} {wx : World} (h : St w N A c bb a wx) (a2 : Int) :
    St w N A c bb a2 (wx.setCell ⟨N + 1, 0, none⟩ (.int .i64 a2)) := by
  have hb : Below N wx (wx.setCell ⟨N + 1, 0, none⟩ (.int .i64 a2)) := (Below.refl N wx).setCell (Nat.le_succ _) _
  have hz := h.sz
  refine ⟨(Below.heap_setCell _ _ _ _ (by simp)).trans h.g2, one_setCell h.g3, ?_, h.be.trans hb, by simpa using hz⟩
  exact h.rd.keeps ⟨by simp, fun k hk _ => ⟨hb.block k hk, hk⟩⟩
theorem St.new {w : World} {A : Option Addr} {c : Nat} {bb : List UInt8} {a : Int} (hr : RdP w (fun b => b < w.heap.size) 1 (.slice A bb.length c) bb.length (bb.map bv)) :
    St w w.heap.size A c bb a ((w.alloc (.cells #[.slice A bb.length c] 24)).alloc (.cells #[.int .i64 a] 3)) := by
  have hb := (alloc_below w (.cells #[.slice A bb.length c] 24)).trans ((alloc_below (w.alloc (.cells #[.slice A bb.length c] 24)) (.cells #[.int .i64 a] 3)).mono (by simp))
  refine ⟨((alloc_below _ _).block w.heap.size (by simp)).trans (heap_alloc_new w _), by simpa using heap_alloc_new (w.alloc (.cells #[.slice A bb.length c] 24)) (.cells #[.int .i64 a] 3), ?_, hb, by simp⟩
  exact hr.keeps ⟨by simp; omega, fun k hk _ => ⟨hb.block k hk, hk⟩⟩

theorem St.on {w : World} {N : Nat} {A : Option Addr} {c : Nat} {bb : List UInt8} {a : Int} {wx wy : World} (h : St w N A c bb a wx) (hb : Below wx.heap.size wx wy) : St w N A c bb a wy := by
  have hz := h.sz
  have hs := hb.size
  refine ⟨(hb.block _ (by omega)).trans h.g2, (hb.block _ (by omega)).trans h.g3, h.rd.keeps ⟨hs, fun k hk hlt => ⟨hb.block k hlt, hk⟩⟩, h.be.trans (hb.mono (by omega)), by omega⟩
theorem St.rdlt {w : World} {N : Nat} {A : Option Addr} {c : Nat} {bb : List UInt8} {a : Int} {wx : World} (h : St w N A c bb a wx) : RdP wx (fun k => k < wx.heap.size) 1 (.slice A bb.length c) bb.length (bb.map bv) :=
  h.rd.mono fun b hlt _ => hlt
theorem TakenR.opens {b : List UInt8} {a : Int} {w w' : World} {e : Ending} (h : TakenR b a w e w') :
    ∃ (r' : Psp.Req) (n : Int) (k : Bool), e = .returned (.tuple #[.agg (rq r').toArray, .int .i64 n, .bool k]) ∧ (∀ r a', Psp.dR b a = some (r, a') → r' = r ∧ n = a' ∧ k = true) ∧ (Psp.dR b a = none → r' = ⟨0, 0, 0, 0, 0, 0⟩ ∧ n = 0 ∧ k = false) ∧ Below w.heap.size w w' := by
  cases hd : Psp.dR b a with
  | none =>
    have := h.2.1 hd
    subst this
    exact ⟨⟨0, 0, 0, 0, 0, 0⟩, 0, false, rfl, fun _ _ h => (by cases h), fun _ => ⟨rfl, rfl, rfl⟩, h.2.2⟩
  | some q =>
    have he := h.1 q.1 q.2 (by rw [hd])
    subst he
    exact ⟨q.1, q.2, true, rfl, fun r a' h => (by injection h with h; subst h; exact ⟨rfl, rfl, rfl⟩), fun h => (by cases h), h.2.2⟩
theorem Taken.opens {α : Type} {d : Psp.Dec (List α)} {RD : World → (Nat → Prop) → Value → List α → Prop} {b : List UInt8} {a : Int} {w w' : World} {e : Ending} (h : Taken d RD b a w e w') :
    ∃ x1 x2 x3, e = .returned (.tuple #[x1, x2, x3]) ∧ Taken d RD b a w (.returned (.tuple #[x1, x2, x3])) w' := by
  cases hd : d b a with
  | none => have := h.2.1 hd; subst this; exact ⟨_, _, _, rfl, h⟩
  | some q =>
    obtain ⟨v, he, _⟩ := h.1 q.1 q.2 (by rw [hd])
    subst he; exact ⟨_, _, _, rfl, h⟩
theorem same_R' (x y : Value) (l r : List Psp.Req) (w : World) (P Q : Nat → Prop) (hx : RdR w P x l) (hy : RdR w Q y r) :
    Calls Try.prog 29 #[x, y] w fun e w' => e = .returned (.bool (decide (l = r))) ∧ Below w.heap.size w w' :=
  (same_R x y _ _ l r w P Q hx hy rfl rfl).mono (by rintro e w' ⟨h, k, rfl⟩; exact ⟨h, below_drewN (Below.refl _ _) k⟩)
theorem same_V' (x y : Value) (l r : List Psp.Vote) (w : World) (P Q : Nat → Prop) (hx : RdV w P x l) (hy : RdV w Q y r) :
    Calls Try.prog 21 #[x, y] w fun e w' => e = .returned (.bool (decide (l = r))) ∧ Below w.heap.size w w' :=
  (same_V x y _ _ l r w P Q hx hy rfl rfl).mono (by rintro e w' ⟨h, k, rfl⟩; exact ⟨h, below_drewN (Below.refl _ _) k⟩)
theorem RdR.below {w w' : World} {P : Nat → Prop} {v : Value} {l : List Psp.Req} (h : RdR w P v l) (g : Below w.heap.size w w') : RdR w' P v l := RdP.below h g
theorem RdV.below {w w' : World} {P : Nat → Prop} {v : Value} {l : List Psp.Vote} (h : RdV w P v l) (g : Below w.heap.size w w') : RdV w' P v l := RdP.below h g
theorem RdA.below {w w' : World} {P : Nat → Prop} {v : Value} {l : List Psp.Part} (h : RdA w P v l) (g : Below w.heap.size w w') : RdA w' P v l := h.keeps (Keeps.below g)

set_option maxRecDepth 100000 in
set_option maxHeartbeats 1000000 in
theorem eye {w : World} {N : Nat} {A : Option Addr} {c : Nat} {bb : List UInt8} {a : Int} {wx : World} (h : St w N A c bb a wx) :
    Calls Try.prog 24 #[.pointer (some ⟨N, 0, none⟩), .pointer (some ⟨N + 1, 0, none⟩)] wx fun e w' => e = .returned (.pointer (some ⟨wx.heap.size, 0, none⟩)) ∧ w' = wx.alloc (.cells #[.slice A bb.length c, .int .i64 a, .bool false] 51) := by
  obtain ⟨g2, g2'⟩ := cell_one h.g2
  obtain ⟨g3, g3'⟩ := cell_one h.g3
  go_enter Try.func24, Try.ntmps24
  go_wp2_with fail
  go_ret
  exact ⟨rfl, rfl⟩

set_option maxRecDepth 100000 in
set_option maxHeartbeats 30000000 in
theorem walk (v : Value) (l : List UInt8) (at0 : Int) (w : World) (hr : Rd w w.heap.size 1 v l.length (l.flatMap fun c => [bv c])) (wl : ∀ c ∈ l, True) (ha : isI64 at0) :
    Calls Try.prog 6 #[v, .int .i64 at0] w fun e w' => e = .returned (.bool true) ∧ Below w.heap.size w w' := by
  rw [flat_one] at hr
  have hp := hr.to_p (Nat.le_refl _)
  obtain ⟨ha1, ha2⟩ := ha
  obtain ⟨n, hn⟩ : ∃ n, l.length = n := ⟨_, rfl⟩
  have hp' := hp
  rw [hn] at hp'
  obtain ⟨_, A, c, rfl, hc1, hc2, _⟩ := hp'.parts
  have Hp := Lib.hid hp
  have Hn := Lib.hid hn
  clear hp hp' hr wl hn
  go_enter Try.func6, Try.ntmps6
  go_upto_if 21 with fail
  have hst : St w w.heap.size A c l at0 ((w.alloc (.cells #[.slice A n c] 24)).alloc (.cells #[.int .i64 at0] 3)) := by rw [← Hn.out]; exact St.new (by have := Hp.out; rw [← Hn.out] at this; exact this)
  go_cut [] from 21 to 23 (fun wx => ∃ bb : List UInt8, bb.length ≤ 600 ∧ bb.length ≤ c ∧ St w w.heap.size A c bb at0 wx)
  case first =>
    by_cases h600 : 600 < n
    case' pos =>
      have d1 : decide (600 < (n : Int)) = true := by simp; omega
      have hbl : (l.take 600).length = 600 := by rw [List.length_take, Hn.out]; omega
      have HST := Lib.hid hst
      clear hst
      go_wp2_with fail
      go_meet
      exact ⟨l.take 600, by omega, by omega, by have := St.new (w := w) (a := at0) (c := c) (A := A) (bb := l.take 600) (by rw [hbl]; have := Hp.out.cut (k := 600) (by rw [Hn.out]; omega); rw [hbl] at this; exact this); rw [hbl] at this; exact this⟩
    case' neg =>
      have d1 : decide (600 < (n : Int)) = false := by simp; omega
      have HST := Lib.hid hst
      clear hst
      go_wp2_with fail
      go_meet
      exact ⟨l, by rw [Hn.out]; omega, by rw [Hn.out]; omega, by have := HST.out; first | exact this | (rw [← Hn.out] at this; exact this)⟩
  case' rest =>
    obtain ⟨bb, hb1, hb3, hst1⟩ := hcut
    clear hst
    obtain ⟨g2, g2'⟩ := cell_one hst1.g2
    obtain ⟨g3, g3'⟩ := cell_one hst1.g3
    have HST := Lib.hid hst1
    clear hst1
    go_upto_if 25 with fail
    go_cut [] from 25 to 27 (fun wx => ∃ at1 : Int, isI64 at1 ∧ St w w.heap.size A c bb at1 wx)
    case first =>
      by_cases h7 : 700 < at0
      case' pos =>
        have d1 : decide (700 < at0) = true := by simp; omega
        have hw1 := Psp.within_lo at0 700
        have hw2 := Psp.within_hi at0 700 (by omega)
        go_wp2_with fail
        refine (within_any at0 700 wc (by omega) (by omega) (by omega) (by omega)).mono ?_
        rintro e w' ⟨rfl, rfl⟩
        go_wp2_with fail
        go_meet
        exact ⟨_, ⟨by omega, by omega⟩, HST.out.put3 _⟩
      case' neg =>
        have d1 : decide (700 < at0) = false := by simp; omega
        go_wp2_with fail
        go_meet
        exact ⟨at0, ⟨ha1, ha2⟩, HST.out⟩
    case' rest =>
      obtain ⟨at1, ha, hst1⟩ := hcut
      clear g2 g2' g3 g3' HST
      obtain ⟨g2, g2'⟩ := cell_one hst1.g2
      obtain ⟨g3, g3'⟩ := cell_one hst1.g3
      have HST := Lib.hid hst1
      clear hst1
      go_wp2_with fail
      refine (eye HST.out).mono ?_
      rintro e w' ⟨rfl, rfl⟩
      have HR := Lib.hid (Rs.new (w := wc) 51 (.slice A bb.length c) ha)
      have HX := Lib.hid ((HST.out.rd.below (alloc_below wc (.cells #[.slice A bb.length c, .int .i64 at1, .bool false] 51))).keeps (P' := fun k => k ≠ wc.heap.size) ⟨Nat.le_refl _, fun k hk _ => ⟨rfl, by have := HST.out.sz; omega⟩⟩)
      go_wp2_with fail
      refine (ey_req bb _ wc.heap.size (some at1) _ HX.out HR.out).mono ?_
      rintro e w1 ⟨r, rfl, his, hrs, hfp⟩
      have hb1 : Below wc.heap.size wc w1 := (alloc_below wc (.cells #[.slice A bb.length c, .int .i64 at1, .bool false] 51)).trans (hfp.to_below (by simp) (fun k _ hk => by omega))
      have hz1 : wc.heap.size + 1 ≤ w1.heap.size := by have := hfp.size; simpa using this
      have His := Lib.hid his
      have Hrs := Lib.hid hrs
      have HB1 := Lib.hid hb1
      clear his hrs hfp hb1 HR HX
      go_wp2_with (refine list_store_new rfl 31 (.tmp 7) (.tmp 32) rfl _ _ (rq r) rfl rfl rfl sizeR (rq_one r) ?_; intro w2 hb2 hr2 hs2; have Hr2 := Lib.hid hr2; have Hs2 := Lib.hid hs2; have HB2 := Lib.hid (Below.then HB1.out hb2 HB1.out.size); have hst2 := HST.out.on HB2.out; obtain ⟨g4, g4'⟩ := cell_one hst2.g2; obtain ⟨g5, g5'⟩ := cell_one hst2.g3; have HR2 := Lib.hid (Hrs.out.below hb2); have HST2 := Lib.hid hst2; clear hst2 hb2 hr2 hs2)
      refine (takeReq bb _ at1 _ (HST2.out.rdlt) ha).mono ?_
      intro e w3 h
      obtain ⟨r', n', k', rfl, h1, h2, hb3⟩ := TakenR.opens h
      have hst3 := HST2.out.on hb3
      have hr3 := range_keep Hr2.out (hb3.block w1.heap.size (by rw [Hs2.out]; omega))
      have hz3 : w1.heap.size + 1 ≤ w3.heap.size := by have := hb3.size; rw [Hs2.out] at this; exact this
      have HR3 := Lib.hid (HR2.out.below hb3)
      have HST3 := Lib.hid hst3
      have H1 := Lib.hid h1
      have H2 := Lib.hid h2
      have Hr3 := Lib.hid hr3
      clear h h1 h2 hb3 hst3 hr3 g4 g4' g5 g5' HR2 HST2 HB2 Hr2 Hs2 Hrs HB1
      go_upto_region 9 with (refine list_store_new rfl 31 (.tmp 8) (.tmp 37) rfl _ _ (rq r') rfl rfl rfl sizeR (rq_one r') ?_; intro w4 hb4 hr4 hs4; have hr34 := range_keep Hr3.out (hb4.block w1.heap.size (by omega)); have Hr4 := Lib.hid hr4; have Hr34 := Lib.hid hr34; have HST4 := Lib.hid (HST3.out.on hb4); have HR4 := Lib.hid (HR3.out.below hb4); clear hb4 hr4 hr34 hs4)
      go_cut [74] from 40 to 74 (fun x wx => x = .bool false ∧ St w w.heap.size A c bb at1 wx)
      case first =>
        obtain ⟨a4, b4, k0, k1, k2, f1, f2, ha4, hs4, hn4⟩ := HR4.out.cells
        have hr34 := Hr34.out
        have hr4 := Hr4.out
        have x0 := hr34 0 _ rfl
        have x1 := hr34 1 _ rfl
        have x2 := hr34 2 _ rfl
        have x3 := hr34 3 _ rfl
        have x4 := hr34 4 _ rfl
        have x5 := hr34 5 _ rfl
        have y0 := hr4 0 _ rfl
        have y1 := hr4 1 _ rfl
        have y2 := hr4 2 _ rfl
        have y3 := hr4 3 _ rfl
        have y4 := hr4 4 _ rfl
        have y5 := hr4 5 _ rfl
        simp only [Nat.zero_add, iv] at x0 x1 x2 x3 x4 x5 y0 y1 y2 y3 y4 y5
        clear hr34 hr4
        cases hd : Psp.dR bb at1
        case' none =>
          obtain ⟨q1, q2, q3⟩ := H2.out hd
          subst q1 q2 q3
          rw [Psp.nxt_no hd] at hn4
          have hbad := hn4 rfl
          subst hbad
          clear hd hs4 hn4 f1 f2 k0
          go_wp2_with fail
          go_meet
          exact ⟨rfl, HST4.out⟩
        case' some q =>
          obtain ⟨r2, a'⟩ := q
          obtain ⟨q1, q2, q3⟩ := H1.out r2 a' hd
          subst q1 q2 q3
          rw [Psp.nxt_yes hd] at hs4
          obtain ⟨q4, q5⟩ := hs4 _ rfl
          subst q4 q5
          have hr := His.out (r', a4) (by simp [hd])
          subst hr
          clear hd hs4 hn4 f1 f2 k0
          go_wp2_with fail
          go_meet
          exact ⟨rfl, HST4.out⟩
      case' rest =>
        obtain ⟨rfl, hst1⟩ := hcut
        clear g2 g2' g3 g3' HST His HST3 HR3 H1 H2 Hr3 Hr4 Hr34 HST4 HR4
        obtain ⟨g2, g2'⟩ := cell_one hst1.g2
        obtain ⟨g3, g3'⟩ := cell_one hst1.g3
        have HST := Lib.hid hst1
        clear hst1
        go_wp2_with fail
        refine (eye HST.out).mono ?_
        rintro e w' ⟨rfl, rfl⟩
        have HR := Lib.hid (Rs.new (w := wc) 51 (.slice A bb.length c) ha)
        have HX := Lib.hid ((HST.out.rd.below (alloc_below wc (.cells #[.slice A bb.length c, .int .i64 at1, .bool false] 51))).keeps (P' := fun k => k ≠ wc.heap.size) ⟨Nat.le_refl _, fun k hk _ => ⟨rfl, by have := HST.out.sz; omega⟩⟩)
        go_wp2_with fail
        refine (ey_listR bb _ wc.heap.size (some at1) _ HX.out HR.out).mono ?_
        rintro e w1 ⟨v, l1, rfl, hv, his, hrs, hfp⟩
        have hb1 : Below wc.heap.size wc w1 := (alloc_below wc (.cells #[.slice A bb.length c, .int .i64 at1, .bool false] 51)).trans (hfp.to_below (by simp) (fun k _ hk => by omega))
        have hst2 := HST.out.on hb1
        obtain ⟨g4, g4'⟩ := cell_one hst2.g2
        obtain ⟨g5, g5'⟩ := cell_one hst2.g3
        have HST2 := Lib.hid hst2
        have His := Lib.hid his
        have Hrs := Lib.hid hrs
        have HV := Lib.hid hv
        clear his hrs hfp hb1 hst2 hv HR HX
        go_wp2_with fail
        refine (takeR bb _ at1 w1 HST2.out.rdlt ha).mono ?_
        intro e w2 h
        obtain ⟨x1, x2, x3, rfl, h⟩ := Taken.opens h
        have HST3 := Lib.hid (HST2.out.on h.2.2)
        have HR3 := Lib.hid (Hrs.out.below h.2.2)
        have HV3 := Lib.hid (RdR.below HV.out h.2.2)
        have HT := Lib.hid h
        clear h g4 g4' g5 g5' HST2 Hrs HV
        go_upto_region 14 with fail
        go_cut [119] from 86 to 119 (fun x wx => x = .bool false ∧ St w w.heap.size A c bb at1 wx)
        case first =>
          obtain ⟨h1, h2, hb⟩ := HT.out
          clear HT
          obtain ⟨a4, b4, k0, k1, k2, f1, f2, ha4, hs4, hn4⟩ := HR3.out.cells
          cases hd : Psp.dL Psp.dR bb at1
          case' none =>
            have he := h2 hd
            injection he with he
            injection he with he
            simp only [Array.mk.injEq, List.cons.injEq, and_true] at he
            obtain ⟨rfl, rfl, rfl⟩ := he
            rw [Psp.nxt_no hd] at hn4
            have hbad := hn4 rfl
            subst hbad
            clear h1 h2 hb hd hs4 hn4 f1 f2 k0
            go_wp2_with fail
            go_meet
            exact ⟨rfl, HST3.out⟩
          case' some q =>
            obtain ⟨l2, a'⟩ := q
            obtain ⟨v2, he, hL⟩ := h1 l2 a' hd
            injection he with he
            injection he with he
            simp only [Array.mk.injEq, List.cons.injEq, and_true] at he
            obtain ⟨rfl, rfl, rfl⟩ := he
            have hnx := Psp.nxt_yes hd
            rw [hnx] at hs4
            obtain ⟨q4, q5⟩ := hs4 _ rfl
            subst q4 q5
            have hl : l1 = l2 := His.out (l2, a4) (by simp [hd])
            subst hl
            have HL := Lib.hid hL
            have Hnx := Lib.hid hnx
            clear h1 h2 hb hd hs4 hn4 f1 f2 k0 hnx hL
            go_wp2_with fail
            refine (same_R' _ v l1 l1 _ _ _ HL.out HV3.out).mono ?_
            rintro e w3 ⟨rfl, hb3⟩
            rw [show decide (l1 = l1) = true from decide_eq_true rfl]
            obtain ⟨a5, b5, k3, k4, k5, f3, f4, ha5, hs5, hn5⟩ := (HR3.out.below hb3).cells
            rw [Hnx.out] at hs5
            obtain ⟨q6, q7⟩ := hs5 _ rfl
            subst q6 q7
            have HST5 := Lib.hid (HST3.out.on hb3)
            clear hs5 hn5 f3 f4 k3 hb3 k1 k2
            go_wp2_with fail
            go_meet
            exact ⟨rfl, HST5.out⟩
        case' rest =>
          obtain ⟨rfl, hst1⟩ := hcut
          clear g2 g2' g3 g3' HST His HST3 HR3 HV3 HT
        obtain ⟨g2, g2'⟩ := cell_one hst1.g2
        obtain ⟨g3, g3'⟩ := cell_one hst1.g3
        have HST := Lib.hid hst1
        clear hst1
        go_wp2_with fail
        refine (eye HST.out).mono ?_
        rintro e w' ⟨rfl, rfl⟩
        have HR := Lib.hid (Rs.new (w := wc) 51 (.slice A bb.length c) ha)
        have HX := Lib.hid ((HST.out.rd.below (alloc_below wc (.cells #[.slice A bb.length c, .int .i64 at1, .bool false] 51))).keeps (P' := fun k => k ≠ wc.heap.size) ⟨Nat.le_refl _, fun k hk _ => ⟨rfl, by have := HST.out.sz; omega⟩⟩)
        go_wp2_with fail
        refine (ey_listV bb _ wc.heap.size (some at1) _ HX.out HR.out).mono ?_
        rintro e w1 ⟨v, l1, rfl, hv, his, hrs, hfp⟩
        have hb1 : Below wc.heap.size wc w1 := (alloc_below wc (.cells #[.slice A bb.length c, .int .i64 at1, .bool false] 51)).trans (hfp.to_below (by simp) (fun k _ hk => by omega))
        have hst2 := HST.out.on hb1
        obtain ⟨g4, g4'⟩ := cell_one hst2.g2
        obtain ⟨g5, g5'⟩ := cell_one hst2.g3
        have HST2 := Lib.hid hst2
        have His := Lib.hid his
        have Hrs := Lib.hid hrs
        have HV := Lib.hid hv
        clear his hrs hfp hb1 hst2 hv HR HX
        go_wp2_with fail
        refine (takeV bb _ at1 w1 HST2.out.rdlt ha).mono ?_
        intro e w2 h
        obtain ⟨x1, x2, x3, rfl, h⟩ := Taken.opens h
        have HST3 := Lib.hid (HST2.out.on h.2.2)
        have HR3 := Lib.hid (Hrs.out.below h.2.2)
        have HV3 := Lib.hid (RdV.below HV.out h.2.2)
        have HT := Lib.hid h
        clear h g4 g4' g5 g5' HST2 Hrs HV
        go_upto_region 19 with fail
        go_cut [164] from 131 to 164 (fun x wx => x = .bool false ∧ St w w.heap.size A c bb at1 wx)
        case first =>
          obtain ⟨h1, h2, hb⟩ := HT.out
          clear HT
          obtain ⟨a4, b4, k0, k1, k2, f1, f2, ha4, hs4, hn4⟩ := HR3.out.cells
          cases hd : Psp.dL Psp.dV bb at1
          case' none =>
            have he := h2 hd
            injection he with he
            injection he with he
            simp only [Array.mk.injEq, List.cons.injEq, and_true] at he
            obtain ⟨rfl, rfl, rfl⟩ := he
            rw [Psp.nxt_no hd] at hn4
            have hbad := hn4 rfl
            subst hbad
            clear h1 h2 hb hd hs4 hn4 f1 f2 k0
            go_wp2_with fail
            go_meet
            exact ⟨rfl, HST3.out⟩
          case' some q =>
            obtain ⟨l2, a'⟩ := q
            obtain ⟨v2, he, hL⟩ := h1 l2 a' hd
            injection he with he
            injection he with he
            simp only [Array.mk.injEq, List.cons.injEq, and_true] at he
            obtain ⟨rfl, rfl, rfl⟩ := he
            have hnx := Psp.nxt_yes hd
            rw [hnx] at hs4
            obtain ⟨q4, q5⟩ := hs4 _ rfl
            subst q4 q5
            have hl : l1 = l2 := His.out (l2, a4) (by simp [hd])
            subst hl
            have HL := Lib.hid hL
            have Hnx := Lib.hid hnx
            clear h1 h2 hb hd hs4 hn4 f1 f2 k0 hnx hL
            go_wp2_with fail
            refine (same_V' _ v l1 l1 _ _ _ HL.out HV3.out).mono ?_
            rintro e w3 ⟨rfl, hb3⟩
            rw [show decide (l1 = l1) = true from decide_eq_true rfl]
            obtain ⟨a5, b5, k3, k4, k5, f3, f4, ha5, hs5, hn5⟩ := (HR3.out.below hb3).cells
            rw [Hnx.out] at hs5
            obtain ⟨q6, q7⟩ := hs5 _ rfl
            subst q6 q7
            have HST5 := Lib.hid (HST3.out.on hb3)
            clear hs5 hn5 f3 f4 k3 hb3 k1 k2
            go_wp2_with fail
            go_meet
            exact ⟨rfl, HST5.out⟩
        case' rest =>
          obtain ⟨rfl, hst1⟩ := hcut
          clear g2 g2' g3 g3' HST His HST3 HR3 HV3 HT
        obtain ⟨g2, g2'⟩ := cell_one hst1.g2
        obtain ⟨g3, g3'⟩ := cell_one hst1.g3
        have HST := Lib.hid hst1
        clear hst1
        go_wp2_with fail
        refine (eye HST.out).mono ?_
        rintro e w' ⟨rfl, rfl⟩
        have HR := Lib.hid (Rs.new (w := wc) 51 (.slice A bb.length c) ha)
        have HX := Lib.hid ((HST.out.rd.below (alloc_below wc (.cells #[.slice A bb.length c, .int .i64 at1, .bool false] 51))).keeps (P' := fun k => k ≠ wc.heap.size) ⟨Nat.le_refl _, fun k hk _ => ⟨rfl, by have := HST.out.sz; omega⟩⟩)
        go_wp2_with fail
        refine (ey_listC bb _ wc.heap.size (some at1) _ HX.out HR.out).mono ?_
        rintro e w1 ⟨v, l1, rfl, hv, his, hrs, hfp⟩
        have hb1 : Below wc.heap.size wc w1 := (alloc_below wc (.cells #[.slice A bb.length c, .int .i64 at1, .bool false] 51)).trans (hfp.to_below (by simp) (fun k _ hk => by omega))
        have hst2 := HST.out.on hb1
        obtain ⟨g4, g4'⟩ := cell_one hst2.g2
        obtain ⟨g5, g5'⟩ := cell_one hst2.g3
        have HST2 := Lib.hid hst2
        have His := Lib.hid his
        have Hrs := Lib.hid hrs
        have HV := Lib.hid hv
        clear his hrs hfp hb1 hst2 hv HR HX
        go_wp2_with fail
        refine (takeC bb _ at1 w1 HST2.out.rdlt ha).mono ?_
        intro e w2 h
        obtain ⟨x1, x2, x3, rfl, h⟩ := Taken.opens h
        have HST3 := Lib.hid (HST2.out.on h.2.2)
        have HR3 := Lib.hid (Hrs.out.below h.2.2)
        have HV3 := Lib.hid (RdC.below HV.out h.2.2)
        have HT := Lib.hid h
        clear h g4 g4' g5 g5' HST2 Hrs HV
        go_upto_region 24 with fail
        go_cut [209] from 176 to 209 (fun x wx => x = .bool false ∧ St w w.heap.size A c bb at1 wx)
        case first =>
          obtain ⟨h1, h2, hb⟩ := HT.out
          clear HT
          obtain ⟨a4, b4, k0, k1, k2, f1, f2, ha4, hs4, hn4⟩ := HR3.out.cells
          cases hd : Psp.dL Psp.dC bb at1
          case' none =>
            have he := h2 hd
            injection he with he
            injection he with he
            simp only [Array.mk.injEq, List.cons.injEq, and_true] at he
            obtain ⟨rfl, rfl, rfl⟩ := he
            rw [Psp.nxt_no hd] at hn4
            have hbad := hn4 rfl
            subst hbad
            clear h1 h2 hb hd hs4 hn4 f1 f2 k0
            go_wp2_with fail
            go_meet
            exact ⟨rfl, HST3.out⟩
          case' some q =>
            obtain ⟨l2, a'⟩ := q
            obtain ⟨v2, he, hL⟩ := h1 l2 a' hd
            injection he with he
            injection he with he
            simp only [Array.mk.injEq, List.cons.injEq, and_true] at he
            obtain ⟨rfl, rfl, rfl⟩ := he
            have hnx := Psp.nxt_yes hd
            rw [hnx] at hs4
            obtain ⟨q4, q5⟩ := hs4 _ rfl
            subst q4 q5
            have hl : l1 = l2 := His.out (l2, a4) (by simp [hd])
            subst hl
            have HL := Lib.hid hL
            have Hnx := Lib.hid hnx
            clear h1 h2 hb hd hs4 hn4 f1 f2 k0 hnx hL
            go_wp2_with fail
            refine (certs_same _ v l1 l1 _ _ _ HL.out HV3.out).mono ?_
            rintro e w3 ⟨rfl, hb3⟩
            rw [show decide (l1 = l1) = true from decide_eq_true rfl]
            obtain ⟨a5, b5, k3, k4, k5, f3, f4, ha5, hs5, hn5⟩ := (HR3.out.below hb3).cells
            rw [Hnx.out] at hs5
            obtain ⟨q6, q7⟩ := hs5 _ rfl
            subst q6 q7
            have HST5 := Lib.hid (HST3.out.on hb3)
            clear hs5 hn5 f3 f4 k3 hb3 k1 k2
            go_wp2_with fail
            go_meet
            exact ⟨rfl, HST5.out⟩
        case' rest =>
          obtain ⟨rfl, hst1⟩ := hcut
          clear g2 g2' g3 g3' HST His HST3 HR3 HV3 HT
        obtain ⟨g2, g2'⟩ := cell_one hst1.g2
        obtain ⟨g3, g3'⟩ := cell_one hst1.g3
        have HST := Lib.hid hst1
        clear hst1
        go_wp2_with fail
        refine (eye HST.out).mono ?_
        rintro e w' ⟨rfl, rfl⟩
        have HR := Lib.hid (Rs.new (w := wc) 51 (.slice A bb.length c) ha)
        have HX := Lib.hid ((HST.out.rd.below (alloc_below wc (.cells #[.slice A bb.length c, .int .i64 at1, .bool false] 51))).keeps (P' := fun k => k ≠ wc.heap.size) ⟨Nat.le_refl _, fun k hk _ => ⟨rfl, by have := HST.out.sz; omega⟩⟩)
        go_wp2_with fail
        refine (ey_listP bb _ wc.heap.size (some at1) _ HX.out HR.out).mono ?_
        rintro e w1 ⟨v, l1, rfl, hv, his, hrs, hfp⟩
        have hb1 : Below wc.heap.size wc w1 := (alloc_below wc (.cells #[.slice A bb.length c, .int .i64 at1, .bool false] 51)).trans (hfp.to_below (by simp) (fun k _ hk => by omega))
        have hst2 := HST.out.on hb1
        obtain ⟨g4, g4'⟩ := cell_one hst2.g2
        obtain ⟨g5, g5'⟩ := cell_one hst2.g3
        have HST2 := Lib.hid hst2
        have His := Lib.hid his
        have Hrs := Lib.hid hrs
        have HV := Lib.hid hv
        clear his hrs hfp hb1 hst2 hv HR HX
        go_wp2_with fail
        refine (takeP bb _ at1 w1 HST2.out.rdlt ha).mono ?_
        intro e w2 h
        obtain ⟨x1, x2, x3, rfl, h⟩ := Taken.opens h
        have HST3 := Lib.hid (HST2.out.on h.2.2)
        have HR3 := Lib.hid (Hrs.out.below h.2.2)
        have HV3 := Lib.hid (RdA.below HV.out h.2.2)
        have HT := Lib.hid h
        clear h g4 g4' g5 g5' HST2 Hrs HV
        go_upto_region 29 with fail
        go_cut [254] from 221 to 254 (fun x wx => x = .bool false ∧ St w w.heap.size A c bb at1 wx)
        case first =>
          obtain ⟨h1, h2, hb⟩ := HT.out
          clear HT
          obtain ⟨a4, b4, k0, k1, k2, f1, f2, ha4, hs4, hn4⟩ := HR3.out.cells
          cases hd : Psp.dL Psp.dP bb at1
          case' none =>
            have he := h2 hd
            injection he with he
            injection he with he
            simp only [Array.mk.injEq, List.cons.injEq, and_true] at he
            obtain ⟨rfl, rfl, rfl⟩ := he
            rw [Psp.nxt_no hd] at hn4
            have hbad := hn4 rfl
            subst hbad
            clear h1 h2 hb hd hs4 hn4 f1 f2 k0
            go_wp2_with fail
            go_meet
            exact ⟨rfl, HST3.out⟩
          case' some q =>
            obtain ⟨l2, a'⟩ := q
            obtain ⟨v2, he, hL⟩ := h1 l2 a' hd
            injection he with he
            injection he with he
            simp only [Array.mk.injEq, List.cons.injEq, and_true] at he
            obtain ⟨rfl, rfl, rfl⟩ := he
            have hnx := Psp.nxt_yes hd
            rw [hnx] at hs4
            obtain ⟨q4, q5⟩ := hs4 _ rfl
            subst q4 q5
            have hl : l1 = l2 := His.out (l2, a4) (by simp [hd])
            subst hl
            have HL := Lib.hid hL
            have Hnx := Lib.hid hnx
            clear h1 h2 hb hd hs4 hn4 f1 f2 k0 hnx hL
            go_wp2_with fail
            refine (parts_same _ v l1 l1 _ _ _ HL.out HV3.out).mono ?_
            rintro e w3 ⟨rfl, hb3⟩
            rw [show decide (l1 = l1) = true from decide_eq_true rfl]
            obtain ⟨a5, b5, k3, k4, k5, f3, f4, ha5, hs5, hn5⟩ := (HR3.out.below hb3).cells
            rw [Hnx.out] at hs5
            obtain ⟨q6, q7⟩ := hs5 _ rfl
            subst q6 q7
            have HST5 := Lib.hid (HST3.out.on hb3)
            clear hs5 hn5 f3 f4 k3 hb3 k1 k2
            go_wp2_with fail
            go_meet
            exact ⟨rfl, HST5.out⟩
        case' rest =>
          obtain ⟨rfl, hst1⟩ := hcut
          clear g2 g2' g3 g3' HST His HST3 HR3 HV3 HT
        have HST := Lib.hid hst1
        clear hst1
        go_wp2_with fail
        refine (wakes02 _).mono ?_
        rintro e w9 ⟨rfl, hb⟩
        have HB9 := Lib.hid ((HST.out.on hb).be)
        clear hb
        go_wp2_with fail
        go_ret
        exact ⟨rfl, HB9.out⟩
end Go.Proofs.Ytadaejpodjhkdaa.packTakes
