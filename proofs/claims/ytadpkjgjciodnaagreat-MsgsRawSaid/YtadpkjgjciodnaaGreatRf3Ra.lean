/- The reference's form: place, seals, batch, cert. -/
import Derived.Test.YtadpkjgjciodnaaGreatJ34Ra
import Derived.Test.YtadpkjgjciodnaaGreatFp3Ra
namespace Go.Proofs.YtadpkjgjciodnaaGreat
open Go.RowKit
set_option linter.unusedVariables false
set_option linter.unusedSimpArgs false

theorem box_below' {W W' : World} {g : Nat} {o : Obj} (h : W.heap[g]? = some o) (hb : Below W.heap.size W W') : W'.heap[g]? = some o :=
  (hb.block g (Array.getElem?_eq_some_iff.1 h).1).trans h

set_option maxRecDepth 100000 in
set_option maxHeartbeats 2000000 in
theorem rplace_any (v i q f : Int) (w : World) : Calls Tryz.prog 61 #[.int .i64 v, .int .i64 i, .int .i64 q, .int .i64 f] w fun e w' => e = .returned (.bool (Psp.placeB v i q f)) ∧ w = w' := by
  have hP : Psp.placeB v i q f = decide (0 ≤ v ∧ v ≤ 12 ∧ 0 ≤ i ∧ i ≤ f ∧ 1 ≤ q ∧ q ≤ 16) := by
    unfold Psp.placeB Psp.win; rw [Bool.eq_iff_iff]; simp; omega
  rw [hP]
  have HP := Lib.hid hP
  clear hP HP
  by_cases h1 : 0 ≤ v
  case' neg => have d1 : decide (v ≥ 0) = false := decide_eq_false h1; have hr : decide (0 ≤ v ∧ v ≤ 12 ∧ 0 ≤ i ∧ i ≤ f ∧ 1 ≤ q ∧ q ≤ 16) = false := decide_eq_false (by omega)
  case' pos =>
    have d1 : decide (v ≥ 0) = true := decide_eq_true h1
    by_cases h2 : v ≤ 12
    case' neg => have d2 : decide (v ≤ 12) = false := decide_eq_false h2; have hr : decide (0 ≤ v ∧ v ≤ 12 ∧ 0 ≤ i ∧ i ≤ f ∧ 1 ≤ q ∧ q ≤ 16) = false := decide_eq_false (by omega)
    case' pos =>
      have d2 : decide (v ≤ 12) = true := decide_eq_true h2
      by_cases h3 : 0 ≤ i
      case' neg => have d3 : decide (i ≥ 0) = false := decide_eq_false h3; have hr : decide (0 ≤ v ∧ v ≤ 12 ∧ 0 ≤ i ∧ i ≤ f ∧ 1 ≤ q ∧ q ≤ 16) = false := decide_eq_false (by omega)
      case' pos =>
        have d3 : decide (i ≥ 0) = true := decide_eq_true h3
        by_cases h4 : i ≤ f
        case' neg => have d4 : decide (i ≤ f) = false := decide_eq_false h4; have hr : decide (0 ≤ v ∧ v ≤ 12 ∧ 0 ≤ i ∧ i ≤ f ∧ 1 ≤ q ∧ q ≤ 16) = false := decide_eq_false (by omega)
        case' pos =>
          have d4 : decide (i ≤ f) = true := decide_eq_true h4
          by_cases h5 : 1 ≤ q
          case' neg => have d5 : decide (q ≥ 1) = false := decide_eq_false h5; have hr : decide (0 ≤ v ∧ v ≤ 12 ∧ 0 ≤ i ∧ i ≤ f ∧ 1 ≤ q ∧ q ≤ 16) = false := decide_eq_false (by omega)
          case' pos =>
            have d5 : decide (q ≥ 1) = true := decide_eq_true h5
            by_cases h6 : q ≤ 16
            case' neg => have d6 : decide (q ≤ 16) = false := decide_eq_false h6; have hr : decide (0 ≤ v ∧ v ≤ 12 ∧ 0 ≤ i ∧ i ≤ f ∧ 1 ≤ q ∧ q ≤ 16) = false := decide_eq_false (by omega)
            case' pos => have d6 : decide (q ≤ 16) = true := decide_eq_true h6; have hr : decide (0 ≤ v ∧ v ≤ 12 ∧ 0 ≤ i ∧ i ≤ f ∧ 1 ≤ q ∧ q ≤ 16) = true := decide_eq_true ⟨h1, h2, h3, h4, h5, h6⟩
  all_goals
    have Hr := Lib.hid hr
    clear hr
    go_enter Tryz.func61, Tryz.ntmps61
    go_wp2_with fail
    go_ret
    first | exact ⟨rfl, rfl⟩ | exact ⟨by rw [Hr.out]; rfl, rfl⟩

set_option maxRecDepth 100000 in
set_option maxHeartbeats 2000000 in
theorem rseals_l (l : List Psp.Vote) (n : Nat) (x : Value) (w : World) (P : Nat → Prop) (hx : RdP w P 2 x n (l.flatMap vt)) (hn : l.length = n) :
    Calls Tryz.prog 145 #[x] w fun e w' => e = .returned (.bool (Psp.sealsB l)) ∧ w = w' := by
  obtain ⟨_, A, c, rfl, hc1, hc2, _⟩ := hx.parts
  have HX := Lib.hid hx
  have Hn := Lib.hid hn
  clear hx hn
  go_enter Tryz.func145, Tryz.ntmps145
  go_wp2_with fail
  go_loopw [3] (fun i wr => ∃ k : Nat, i = .int .i64 (k : Int) ∧ k ≤ n ∧ wr = w ∧ Hid (∀ (j : Nat) (y : Psp.Vote), j < k → l[j]? = some y → Psp.sealB y.s = true)) (fun i _ => n - (intOf i).toNat)
  case atStart => exact ⟨0, rfl, Nat.zero_le _, rfl, Lib.hid fun j y hj => by omega⟩
  case round =>
    obtain ⟨k, rfl, hk, rfl, HI⟩ := hrel
    by_cases hlt : k < n
    · obtain ⟨b0, o0, c0, y, he, hb0, hb1, hy, hel⟩ := rd_elem (f := vt) (k := 2) (fun _ => rfl) (by omega) HX.out Hn.out hlt
      injection he with he1 _ he2
      subst he1 he2
      have hq := hel wr rfl
      have kc : wr.cell? ⟨b0, o0 + k * 2 + 1, none⟩ = some (.int .i64 y.s) := hq 1 (iv y.s) rfl
      have Hy := Lib.hid hy
      have d0 : decide ((k : Int) < (n : Int)) = true := by simp; omega
      have hS : Psp.sealB y.s = decide (0 ≤ y.s ∧ y.s < 1099511627776) := by unfold Psp.sealB Psp.win; rw [Bool.eq_iff_iff]; simp; omega
      have HS := Lib.hid hS
      clear hel hy hq hS
      by_cases hs : 0 ≤ y.s ∧ y.s < 1099511627776
      · obtain ⟨s0, s1⟩ := hs
        have d1 : decide (y.s < 0) = false := decide_eq_false (by omega)
        have d2 : decide (y.s ≥ 1099511627776) = false := decide_eq_false (by omega)
        have HI2 : Hid (∀ (j : Nat) (z : Psp.Vote), j < k + 1 → l[j]? = some z → Psp.sealB z.s = true) := Lib.hid fun j z hj hz => by
          by_cases he : j = k
          · subst he; have e1 := Hy.out.symm.trans hz; injection e1 with e1; subst e1; rw [HS.out]; exact decide_eq_true ⟨s0, s1⟩
          · exact HI.out j z (by omega) hz
        clear HI
        go_wp2_with fail
        first
          | (go_roundw
             case rel => exact ⟨k + 1, by go_num, by omega, (by first | rfl | trivial), HI2⟩
             case measure => simp [intOf]; omega)
          | (refine ⟨⟨k + 1, by go_num, by omega, (by first | rfl | trivial), HI2⟩, ?_⟩
             simp [intOf]; omega)
      · have Hf : Hid (Psp.sealsB l = false) := Lib.hid (by unfold Psp.sealsB; exact Psp.all_not (p := fun v : Psp.Vote => Psp.sealB v.s) Hy.out (by rw [HS.out]; exact decide_eq_false hs))
        clear HI
        by_cases h0 : y.s < 0
        · have d1 : decide (y.s < 0) = true := decide_eq_true h0
          clear hs
          go_wp2_with fail
          go_ret
          exact ⟨by rw [Hf.out]; rfl, rfl⟩
        · have d1 : decide (y.s < 0) = false := decide_eq_false h0
          have d2 : decide (y.s ≥ 1099511627776) = true := decide_eq_true (by omega)
          clear hs
          go_wp2_with fail
          go_ret
          exact ⟨by rw [Hf.out]; rfl, rfl⟩
    · obtain rfl : k = n := by omega
      have d0 : decide ((k : Int) < (k : Int)) = false := by simp
      have Hf : Hid (Psp.sealsB l = true) := Lib.hid (by unfold Psp.sealsB; exact Psp.all_take fun j hj y hy => HI.out j y (by rw [← Hn.out]; exact hj) hy)
      clear HI
      go_wp2_with fail
      go_ret
      exact ⟨by rw [Hf.out]; rfl, rfl⟩

set_option maxRecDepth 100000 in
set_option maxHeartbeats 2000000 in
theorem rbatch_l (l : List Psp.Req) (n : Nat) (x : Value) (cl : Int) (w : World) (P : Nat → Prop) (hx : RdP w P 6 x n (l.flatMap rq)) (hn : l.length = n) :
    Calls Tryz.prog 109 #[x, .int .i64 cl] w fun e w' => e = .returned (.bool (Psp.batchB l cl 0 4)) ∧ Below w.heap.size w w' := by
  obtain ⟨_, A, c, rfl, hc1, hc2, _⟩ := hx.parts
  have HX := Lib.hid hx
  have Hn := Lib.hid hn
  clear hx hn
  go_enter Tryz.func109, Tryz.ntmps109
  by_cases h4 : 4 < n
  · have d4 : decide ((n : Int) > 4) = true := by simp; omega
    have Hf : Hid (Psp.batchB l cl 0 4 = false) := Lib.hid (by unfold Psp.batchB; rw [Hn.out, (Psp.win_no _ _ _).2 (by omega), Bool.and_false])
    go_wp2_with fail
    go_ret
    exact ⟨by rw [Hf.out]; rfl, Below.refl _ _⟩
  have d4 : decide ((n : Int) > 4) = false := by simp; omega
  go_wp2_with fail
  go_loopw [5] (fun i wr => ∃ k : Nat, i = .int .i64 (k : Int) ∧ k ≤ n ∧ Hid (∀ (j : Nat) (y : Psp.Req), j < k → l[j]? = some y → Psp.valid y cl = true) ∧ Hid (Below w.heap.size w wr)) (fun i _ => n - (intOf i).toNat)
  case atStart => exact ⟨0, rfl, Nat.zero_le _, Lib.hid fun j y hj => by omega, Lib.hid (Below.refl _ _)⟩
  case round =>
    obtain ⟨k, rfl, hk, HI, HB⟩ := hrel
    by_cases hlt : k < n
    · obtain ⟨b0, o0, c0, y, he, hb0, hb1, hy, hel⟩ := rd_elem (f := rq) (k := 6) (fun _ => rfl) (by omega) HX.out Hn.out hlt
      injection he with he1 _ he2
      subst he1 he2
      have HQ := Lib.hid (hel wr (HB.out.block b0 hb1))
      have Hy := Lib.hid hy
      have d1 : decide ((k : Int) < (n : Int)) = true := by simp; omega
      clear hel hy
      obtain ⟨sb, hsb⟩ : ∃ sb, Psp.valid y cl = sb := ⟨_, rfl⟩
      go_wp2_with (first | (refine list_load rfl 58 (.tmp 17) rfl b0 (o0 + k * 6) rfl (rq y) _ HQ.out Tryz.underlying58 rfl rst_sizeR ?_))
      refine (rvalid_any y cl wr).mono ?_
      rw [hsb]
      rintro e w2 ⟨rfl, hb2⟩
      have HB2 := Lib.hid (Below.then HB.out hb2 HB.out.size)
      have Hsb := Lib.hid hsb
      clear hb2 hsb HQ
      cases sb with
      | true =>
        have HI2 : Hid (∀ (j : Nat) (z : Psp.Req), j < k + 1 → l[j]? = some z → Psp.valid z cl = true) := Lib.hid fun j z hj hz => by
          by_cases he : j = k
          · subst he; have e1 := Hy.out.symm.trans hz; injection e1 with e1; subst e1; exact Hsb.out
          · exact HI.out j z (by omega) hz
        clear HI
        go_wp2_with fail
        first
          | (go_roundw
             case rel => exact ⟨k + 1, by go_num, by omega, HI2, HB2⟩
             case measure => simp [intOf]; omega)
          | (refine ⟨⟨k + 1, by go_num, by omega, HI2, HB2⟩, ?_⟩
             simp [intOf]; omega)
      | false =>
        have Hf : Hid (Psp.batchB l cl 0 4 = false) := Lib.hid (by unfold Psp.batchB Psp.validsB; rw [Psp.all_not (p := fun r => Psp.valid r cl) Hy.out Hsb.out]; rfl)
        clear HI
        go_wp2_with fail
        go_ret
        exact ⟨by rw [Hf.out]; rfl, HB2.out⟩
    · obtain rfl : k = n := by omega
      have d1 : decide ((k : Int) < (k : Int)) = false := by simp
      have Hf : Hid (Psp.batchB l cl 0 4 = true) := Lib.hid (by
        unfold Psp.batchB Psp.validsB
        rw [Psp.all_take (p := fun r => Psp.valid r cl) (l := l) fun j hj y hy => HI.out j y (by rw [← Hn.out]; exact hj) hy, Hn.out, (Psp.win_iff _ _ _).2 ⟨by omega, by omega⟩]; rfl)
      clear HI
      go_wp2_with fail
      go_ret
      exact ⟨by rw [Hf.out]; rfl, HB.out⟩

set_option maxRecDepth 100000 in
set_option maxHeartbeats 4000000 in
theorem rcert_l (c : Psp.Cert) (vb vo : Value) (f cl : Int) (w : World) (P : Nat → Prop) (hx : CertOk w P ⟨c, vb, vo⟩) (hw : ∀ v ∈ c.o, wfVote v) :
    Calls Tryz.prog 112 #[.agg #[.int .i64 c.v, .int .i64 c.i, .int .i64 c.q, vb, vo], .int .i64 f, .int .i64 cl] w fun e w' => e = .returned (.bool (Psp.certB c f cl)) ∧ Below w.heap.size w w' := by
  obtain ⟨_, A1, c1, e1, _⟩ := RdP.parts hx.1
  obtain ⟨_, A2, c2, e2, _⟩ := RdP.parts hx.2
  dsimp only at e1 e2
  subst e1 e2
  have HX := Lib.hid hx
  have Hw := Lib.hid hw
  have hb0 := alloc_below w (.cells #[.int .i64 c.v, .int .i64 c.i, .int .i64 c.q, .slice A1 c.b.length c1, .slice A2 c.o.length c2] 25)
  have hc0 := heap_alloc_new w (.cells #[.int .i64 c.v, .int .i64 c.i, .int .i64 c.q, .slice A1 c.b.length c1, .slice A2 c.o.length c2] 25)
  clear hx hw
  obtain ⟨b1, hb1⟩ : ∃ x, Psp.placeB c.v c.i c.q f = x := ⟨_, rfl⟩
  obtain ⟨b2, hb2⟩ : ∃ x, Psp.batchB c.b cl 0 4 = x := ⟨_, rfl⟩
  obtain ⟨b3, hb3⟩ : ∃ x, Psp.rising (c.o.map (·.n)) f = x := ⟨_, rfl⟩
  obtain ⟨b4, hb4⟩ : ∃ x, Psp.sealsB c.o = x := ⟨_, rfl⟩
  have Hr : Hid (Psp.certB c f cl = (b1 && (b2 && (b4 && b3)))) := Lib.hid (by unfold Psp.certB Psp.votesB; rw [hb1, hb2, hb3, hb4])
  go_enter Tryz.func112, Tryz.ntmps112
  go_wp2_with fail
  obtain ⟨W0, hW0⟩ : ∃ W, w.alloc (.cells #[.int .i64 c.v, .int .i64 c.i, .int .i64 c.q, .slice A1 c.b.length c1, .slice A2 c.o.length c2] 25) = W := ⟨_, rfl⟩
  rw [hW0] at hb0 hc0 ⊢
  have HB0 := Lib.hid hb0
  have HC0 := Lib.hid hc0
  have hlt := (Array.getElem?_eq_some_iff.1 hc0).1
  clear hW0 hb0 hc0
  refine (rplace_any c.v c.i c.q f W0).mono ?_
  rw [hb1]
  rintro e w1 ⟨rfl, rfl⟩
  have Hb1 := Lib.hid hb1
  clear hb1
  cases b1 with
  | false =>
    go_wp2_with fail
    go_ret
    exact ⟨by rw [Hr.out]; rfl, HB0.out⟩
  | true =>
    have kc : W0.cell? ⟨w.heap.size, 3, none⟩ = some (.slice A1 c.b.length c1) := by rw [cell_of_row _ _ 3 _ _ _ HC0.out]; rfl
    go_wp2_with fail
    clear kc
    refine (rbatch_l c.b c.b.length (.slice A1 c.b.length c1) cl W0 _ (HX.out.1.keeps (Keeps.below HB0.out)) rfl).mono ?_
    rw [hb2]
    rintro e w2 ⟨rfl, hb⟩
    have HB2 := Lib.hid (Below.then HB0.out hb HB0.out.size)
    have HC2 := Lib.hid (box_below' HC0.out hb)
    clear hb hb2
    cases b2 with
    | false =>
      go_wp2_with fail
      go_ret
      exact ⟨by rw [Hr.out]; rfl, HB2.out⟩
    | true =>
      have kc : w2.cell? ⟨w.heap.size, 4, none⟩ = some (.slice A2 c.o.length c2) := by rw [cell_of_row _ _ 4 _ _ _ HC2.out]; rfl
      go_wp2_with fail
      clear kc
      refine (rrising_l c.o c.o.length (.slice A2 c.o.length c2) f w2 _ (HX.out.2.keeps (Keeps.below HB2.out)) rfl Hw.out).mono ?_
      rw [hb3]
      rintro e w3 ⟨rfl, hb⟩
      have HB3 := Lib.hid (Below.then HB2.out hb HB2.out.size)
      have HC3 := Lib.hid (box_below' HC2.out hb)
      clear hb hb3
      cases b3 with
      | false =>
        go_wp2_with fail
        go_ret
        exact ⟨by rw [Hr.out]; simp, HB3.out⟩
      | true =>
        have kc : w3.cell? ⟨w.heap.size, 4, none⟩ = some (.slice A2 c.o.length c2) := by rw [cell_of_row _ _ 4 _ _ _ HC3.out]; rfl
        go_wp2_with fail
        clear kc
        refine (rseals_l c.o c.o.length (.slice A2 c.o.length c2) w3 _ (HX.out.2.keeps (Keeps.below HB3.out)) rfl).mono ?_
        rw [hb4]
        rintro e w4 ⟨rfl, rfl⟩
        clear hb4
        go_wp2_with fail
        go_ret
        exact ⟨by rw [Hr.out]; simp, HB3.out⟩
end Go.Proofs.YtadpkjgjciodnaaGreat
