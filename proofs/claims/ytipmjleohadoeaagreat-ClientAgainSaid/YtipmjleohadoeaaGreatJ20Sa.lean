/- Package msgs: Form, kind by kind. Printed by gen_fg.py. The example of the document's chapter 6. Messages in cells; what a call that parses returns, both ways in one. -/
import Derived.Test.YtipmjleohadoeaaGreatJ18Sa
import Derived.Deep.RegionHeld3
import Derived.Test.YtipmjleohadoeaaGreatOpSa
import Derived.Test.YtipmjleohadoeaaGreatJ14Sa
import Derived.Test.YtipmjleohadoeaaGreatBxSa
import Derived.Test.YtipmjleohadoeaaGreatMqSa
import Derived.Test.YtipmjleohadoeaaGreatGfSa
import Derived.Test.YtipmjleohadoeaaGreatGeSa
import Derived.ChangeSame
section
namespace Go.Proofs.YtipmjleohadoeaaGreat
open Go.RowKit
set_option linter.unusedVariables false
set_option linter.unusedSimpArgs false


set_option maxRecDepth 100000 in
set_option maxHeartbeats 8000000 in
theorem form_10 (m : Psp.Msg) (vb vo vc vp : Value) (f cl : Int) (w : World) (P : Nat → Prop) (hx : MsgOk w P ⟨m, vb, vo, vc, vp⟩) (hw : wfMsg m) (hf : Psp.may f = true) (hk : m.k = 10) (hcl : -9223372036854775808 < cl) (hcl2 : cl ≤ 9223372036854775807) :
    Calls Tryz.prog 61 #[.agg #[.int .i64 m.k, .int .i64 m.f, .int .i64 m.v, .int .i64 m.i, .int .i64 m.q, .int .i64 m.r, vb, vo, vc, vp], .int .i64 f, .int .i64 cl] w fun e w' => e = .returned (.bool (Psp.formM m f cl)) ∧ Below w.heap.size w w' := by
  obtain ⟨Ab, Ao, Ac, Ap, cb, co, cc, cp, rfl, rfl, rfl, rfl⟩ := msg_slices hx
  have HX := Lib.hid hx
  have Hw := Lib.hid hw
  obtain ⟨q, hq⟩ : ∃ q, Psp.nodes f = q := ⟨_, rfl⟩
  have hq0 : (q == 0) = false := by rw [← hq, may_zero, hf]; rfl
  have hbn := b_nodes_any f
  rw [hq] at hbn
  have HNn := Lib.hid hbn
  obtain ⟨nb, hnb⟩ : ∃ x, Psp.nodeB m.f f = x := ⟨_, rfl⟩
  have HNo0 : Hid (∀ w' : World, Calls Tryz.prog 90 #[.agg #[.int .i64 f, .int .i64 cl], .int .i64 m.f] w' fun e w'' => e = .returned (.bool nb) ∧ Below w'.heap.size w' w'') := Lib.hid fun w' => by rw [← hnb]; exact node_any _ _ _ w'

  have t1 : (m.k == 1) = false := by rw [hk]; rfl
  have t2 : (m.k == 2) = false := by rw [hk]; rfl
  have t3 : (m.k == 3) = false := by rw [hk]; rfl
  have t4 : (m.k == 4) = false := by rw [hk]; rfl
  have t5 : (m.k == 5) = false := by rw [hk]; rfl
  have t6 : (m.k == 6) = false := by rw [hk]; rfl
  have t7 : (m.k == 7) = false := by rw [hk]; rfl
  have t8 : (m.k == 8) = false := by rw [hk]; rfl
  have t9 : (m.k == 9) = false := by rw [hk]; rfl
  have t10 : (m.k == 10) = true := by rw [hk]; rfl
  obtain ⟨b0, hb0⟩ : ∃ x, (m.v == 0) = x := ⟨_, rfl⟩
  have hz : (m.v == 0) = b0 := hb0
  obtain ⟨b1, hb1⟩ : ∃ x, Psp.bareB m false false false false = x := ⟨_, rfl⟩
  have HBa : Hid (∀ w' : World, Calls Tryz.prog 88 #[.agg #[.int .i64 m.k, .int .i64 m.f, .int .i64 m.v, .int .i64 m.i, .int .i64 m.q, .int .i64 m.r, .slice Ab m.b.length cb, .slice Ao m.o.length co, .slice Ac m.c.length cc, .slice Ap m.p.length cp], .bool false, .bool false, .bool false, .bool false] w' fun e w'' => e = .returned (.bool b1) ∧ Below w'.heap.size w' w'') := Lib.hid fun w' => by rw [← hb1]; exact bare_n _ _ _ _ _ _ _ _ _ _ _ _ _ _ _ _ _ _ _ _ _ _ w'
  obtain ⟨b2, hb2⟩ : ∃ x, Psp.win m.i 0 (cl - 1) = x := ⟨_, rfl⟩
  have hwina : Psp.win m.i 0 (cl - 1) = b2 := hb2
  obtain ⟨b3, hb3⟩ : ∃ x, Psp.win m.q 1 1048576 = x := ⟨_, rfl⟩
  have hwinb : Psp.win m.q 1 1048576 = b3 := hb3
  obtain ⟨b4, hb4⟩ : ∃ x, Psp.win m.r (-549755813887) 549755813887 = x := ⟨_, rfl⟩
  have hwinc : Psp.win m.r (-549755813887) 549755813887 = b4 := hb4
  have Hr : Hid (Psp.formM m f cl = (nb && (b0 && (b1 && (b2 && (b3 && (b4))))))) := Lib.hid (by unfold Psp.formM; rw [hf, hk, hnb]; simp only [Int.reduceEq, if_false, if_true, or_false, or_true, Bool.true_and, false_or]; rw [hb0, hb1, hb2, hb3, hb4])
  clear hq hbn hnb hx hw hb0 hb1 hb2 hb3 hb4 hk hf
  have HF0 := fb_start w m (.slice Ab m.b.length cb) (.slice Ao m.o.length co) (.slice Ac m.c.length cc) (.slice Ap m.p.length cp) f cl
  obtain ⟨HF, c0, c1, c2, c3, c4, c5, c6, c7, c8, c9, c10, c11⟩ := keepF HF0 (Below.refl _ _)
  go_enter Tryz.func61, Tryz.ntmps61
  go_wp2_with (first | (go_at_call 58; refine (HNn.out _).mono ?_; rintro e w' ⟨rfl, rfl⟩))
  refine (HNo0.out _).mono ?_
  rintro e w2 ⟨rfl, hb'⟩
  obtain ⟨HF, c0, c1, c2, c3, c4, c5, c6, c7, c8, c9, c10, c11⟩ := keepF HF hb'
  clear hb' HF0
  cases nb with
  | false =>
    go_wp2_with fail
    go_ret
    exact ⟨by rw [Hr.out]; rfl, HF.out.be⟩
  | true =>
    cases b0 with
    | false =>
      go_wp2_with (first | (go_at_call 88; refine (HBa.out _).mono ?_; rintro e w' ⟨rfl, hb'⟩; obtain ⟨HF, c0, c1, c2, c3, c4, c5, c6, c7, c8, c9, c10, c11⟩ := keepF HF hb'; clear hb') | (go_at_call 93; refine (win_any _ _ _ _).mono ?_; rintro e w' ⟨rfl, rfl⟩))
      go_ret
      exact ⟨by rw [Hr.out]; rfl, by first | exact HF.out.be | exact below_drewN HF.out.be _⟩
    | true =>
      cases b1 with
      | false =>
        go_wp2_with (first | (go_at_call 88; refine (HBa.out _).mono ?_; rintro e w' ⟨rfl, hb'⟩; obtain ⟨HF, c0, c1, c2, c3, c4, c5, c6, c7, c8, c9, c10, c11⟩ := keepF HF hb'; clear hb') | (go_at_call 93; refine (win_any _ _ _ _).mono ?_; rintro e w' ⟨rfl, rfl⟩))
        go_ret
        exact ⟨by rw [Hr.out]; rfl, by first | exact HF.out.be | exact below_drewN HF.out.be _⟩
      | true =>
        cases b2 with
        | false =>
          go_wp2_with (first | (go_at_call 88; refine (HBa.out _).mono ?_; rintro e w' ⟨rfl, hb'⟩; obtain ⟨HF, c0, c1, c2, c3, c4, c5, c6, c7, c8, c9, c10, c11⟩ := keepF HF hb'; clear hb') | (go_at_call 93; refine (win_any _ _ _ _).mono ?_; rintro e w' ⟨rfl, rfl⟩))
          go_ret
          exact ⟨by rw [Hr.out]; rfl, by first | exact HF.out.be | exact below_drewN HF.out.be _⟩
        | true =>
          cases b3 with
          | false =>
            go_wp2_with (first | (go_at_call 88; refine (HBa.out _).mono ?_; rintro e w' ⟨rfl, hb'⟩; obtain ⟨HF, c0, c1, c2, c3, c4, c5, c6, c7, c8, c9, c10, c11⟩ := keepF HF hb'; clear hb') | (go_at_call 93; refine (win_any _ _ _ _).mono ?_; rintro e w' ⟨rfl, rfl⟩))
            go_ret
            exact ⟨by rw [Hr.out]; rfl, by first | exact HF.out.be | exact below_drewN HF.out.be _⟩
          | true =>
            go_wp2_with (first | (go_at_call 88; refine (HBa.out _).mono ?_; rintro e w' ⟨rfl, hb'⟩; obtain ⟨HF, c0, c1, c2, c3, c4, c5, c6, c7, c8, c9, c10, c11⟩ := keepF HF hb'; clear hb') | (go_at_call 93; refine (win_any _ _ _ _).mono ?_; rintro e w' ⟨rfl, rfl⟩))
            go_ret
            exact ⟨by rw [Hr.out]; rfl, by first | exact HF.out.be | exact below_drewN HF.out.be _⟩

end Go.Proofs.YtipmjleohadoeaaGreat
end
section
namespace Go.Proofs.YtipmjleohadoeaaGreat
open Go.RowKit
set_option linter.unusedVariables false
set_option linter.unusedSimpArgs false

/-- What an envelope that was sealed opens as. -/
theorem open_back {m : Psp.Msg} {s f cl : Int} {K : List Key} (h : Psp.okB m = true) (hs : okE s (Psp.encM m) = true) :
    openM (Psp.encN s ++ Psp.encM m) f cl K = if (Psp.formM m f cl && chkB K (kM m) s) = true then some (m, s) else none := by
  unfold okE at hs
  rw [Bool.and_eq_true, decide_eq_true_eq] at hs
  rw [open_short (by rw [List.length_append]; exact hs.2), codec_N.back hs.1]
  simp only [Option.bind_some, Int.toNat_natCast, List.drop_left, Psp.parse_back h]
  rfl
theorem open_form {m : Psp.Msg} {s f cl : Int} (h : Psp.okB m = true) (hs : Psp.okN s = true) (hF : FormOk f cl m) :
    ∀ n a m', dN (Psp.encN s ++ Psp.encM m) 0 = some (n, a) → Psp.parseM ((Psp.encN s ++ Psp.encM m).drop a.toNat) = some m' → FormOk f cl m' := by
  intro n a m' h1 h2
  rw [codec_N.back hs] at h1
  injection h1 with h1
  injection h1 with h1 h3
  subst h3
  rw [Int.toNat_natCast, List.drop_left, Psp.parse_back h] at h2
  injection h2 with h2
  subst h2
  exact hF

end Go.Proofs.YtipmjleohadoeaaGreat
end
section
namespace Go.Proofs.YtipmjleohadoeaaGreat
open Go.RowKit
set_option linter.unusedVariables false
set_option linter.unusedSimpArgs false

theorem TakenM.any {b : List UInt8} {w w' : World} {e : Ending} (h : TakenM b w e w') : ∃ (m : Psp.Msg) (Ab Ao Ac Ap : Option Addr) (cb co cc cp : Nat),
    e = .returned (.tuple #[.agg #[.int .i64 m.k, .int .i64 m.f, .int .i64 m.v, .int .i64 m.i, .int .i64 m.q, .int .i64 m.r, .slice Ab m.b.length cb, .slice Ao m.o.length co, .slice Ac m.c.length cc, .slice Ap m.p.length cp], .bool (Psp.parseM b).isSome]) ∧
    MsgOk w' (fun k => w.heap.size ≤ k) ⟨m, .slice Ab m.b.length cb, .slice Ao m.o.length co, .slice Ac m.c.length cc, .slice Ap m.p.length cp⟩ ∧ (Psp.parseM b).getD zM = m ∧ Below w.heap.size w w' := by
  obtain ⟨h1, h2, h3⟩ := h
  cases hp : Psp.parseM b with
  | none => exact ⟨zM, none, none, none, none, 0, 0, 0, 0, h2 hp, zM_ok, rfl, h3⟩
  | some m =>
    obtain ⟨vb, vo, vc, vp, he, hm⟩ := h1 m hp
    obtain ⟨Ab, Ao, Ac, Ap, cb, co, cc, cp, rfl, rfl, rfl, rfl⟩ := msg_slices hm
    exact ⟨m, Ab, Ao, Ac, Ap, cb, co, cc, cp, he, hm, rfl, h3⟩
end Go.Proofs.YtipmjleohadoeaaGreat
end
