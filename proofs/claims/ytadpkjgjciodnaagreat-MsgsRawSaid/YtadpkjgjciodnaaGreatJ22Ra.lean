/- The example of the document's chapter 6. How a message, a certificate is opened, as an argument by value. Printed by gen_openm.py. Messages in cells; what a call that parses returns, both ways in one. -/
import Derived.Test.YtadpkjgjciodnaaGreatOpRa
import Derived.Test.YtadpkjgjciodnaaGreatFhRa
import Derived.Test.YtadpkjgjciodnaaGreatGeRa
import Derived.Test.YtadpkjgjciodnaaGreatTkRa
import Derived.Test.YtadpkjgjciodnaaGreatJ19Ra
import Derived.ChangeSame
import Derived.Test.YtadpkjgjciodnaaGreatBalRa
import Derived.Test.YtadpkjgjciodnaaGreatBxRa
import Derived.Test.YtadpkjgjciodnaaGreatMqRa
import Derived.Test.YtadpkjgjciodnaaGreatGfRa
section
namespace Go.Proofs.YtadpkjgjciodnaaGreat
open Go.RowKit
set_option linter.unusedVariables false
set_option linter.unusedSimpArgs false

/-- What an envelope that was sealed opens as. -/
theorem open_back {m : Psp.Msg} {s f cl : Int} {K : List Key} (h : Psp.okB m = true) (hs : okE s (Psp.encM m) = true) :
    openM (Psp.encN s ++ Psp.encM m) f cl K = if (Psp.formM m f cl && chkB K (kM m) s) = true then some (m, s) else none := by
  unfold okE at hs
  rw [Bool.and_eq_true, decide_eq_true_eq] at hs
  rw [open_short (by rw [List.length_append]; exact hs.2), codec_N.back hs.1]
  simp only [Option.bind_some, Int.toNat_natCast, List.drop_left, Psp.parse_back h]
  rfl
theorem open_form {m : Psp.Msg} {s f cl : Int} (h : Psp.okB m = true) (hs : Psp.okN s = true) (hF : FormOk f cl m) :
    ∀ n a m', dN (Psp.encN s ++ Psp.encM m) 0 = some (n, a) → Psp.parseM ((Psp.encN s ++ Psp.encM m).drop a.toNat) = some m' → FormOk f cl m' := by
  intro n a m' h1 h2
  rw [codec_N.back hs] at h1
  injection h1 with h1
  injection h1 with h1 h3
  subst h3
  rw [Int.toNat_natCast, List.drop_left, Psp.parse_back h] at h2
  injection h2 with h2
  subst h2
  exact hF

def mW : Psp.Msg := ⟨6, 2, 1, 0, 0, 0, [], [], [], []⟩
theorem mW_S : Psp.encS 0 = [0] := by
  have h : (Psp.zig 0).toNat = 0 := by decide
  unfold Psp.encS
  rw [h]
  simp [Psp.num]
theorem mW_enc : Psp.encM mW = [6, 2, 1, 0, 0, 0, 0, 0, 0, 0] := by
  unfold Psp.encM mW
  simp only [mW_S, Psp.encL, List.flatMap_nil, List.length_nil, List.append_nil]
  simp [Psp.encN, Psp.num]
theorem mW_ok : Psp.okB mW = true := by
  unfold Psp.okB
  rw [mW_enc]
  decide
theorem mW_form : Psp.formM mW 1 1 = true := by decide
theorem mW_num : sealN [] (kM mW) = 1 := by simp [sealN]
theorem mW_okE : okE 1 (Psp.encM mW) = true := by
  unfold okE
  rw [mW_enc]
  simp [Psp.encN, Psp.num]
  decide
theorem mW_okS : okS [] mW = true := by
  unfold okS
  rw [mW_ok, mW_num, mW_okE]
  rfl
theorem mW_K : sealK [] mW = [kM mW] := by
  unfold sealK
  rw [mW_ok]
  simp [sealL]
theorem mW_open : openM (Psp.encN 1 ++ Psp.encM mW) 1 1 [kM mW] = some (mW, 1) := by
  rw [open_back mW_ok mW_okE, mW_form]
  simp [chkB, num]
theorem mW_FormOk : FormOk 1 1 mW := fun vb vo vc vp w P hx hw => form_6 mW vb vo vc vp 1 1 w P hx hw (by decide) rfl

set_option maxRecDepth 100000 in
set_option maxHeartbeats 1000000 in
theorem wakes06 (w : World) : Calls Tryz.prog 16 #[] w fun e w' => e = .returned (.bool true) ∧ Below w.heap.size w w' := by
  go_enter Tryz.func16, Tryz.ntmps16
  go_wp2_with fail
  refine (parse_m [] _ w ⟨rfl, _, 0, rfl, Nat.le_refl _, Nat.zero_le _, fun h => absurd h (by simp)⟩).mono ?_
  rintro e w1 ⟨_, g2, g3⟩
  obtain rfl := g2 rfl
  have HB1 := Lib.hid g3
  clear g2 g3
  go_wp2_with fail
  have HB2 := Lib.hid (HB1.out.trans ((alloc_below w1 (.cells zs 41)).mono HB1.out.size))
  refine (nt_new _).mono ?_
  rintro e w2 ⟨g, bm, rfl, hN, hb2, hg1, hg2⟩
  have HB3 := Lib.hid (Below.then HB2.out hb2 HB2.out.size)
  have HN := Lib.hid hN
  have hz1 := HB1.out.size
  have hlg := hN.lt
  have hg3 : w.heap.size ≤ bm := by have h := hg2; simp at h; omega
  clear hN hb2 hg1 hg2 HB2
  go_wp2_with fail
  refine (seal_m mW (.slice none 0 0) (.slice none 0 0) (.slice none 0 0) (.slice none 0 0) g bm [] w2 ⟨RdP.none_, RdP.none_, RdC.nil, RdA.nil⟩ ⟨by decide, by decide⟩ HN.out (by simp)).mono ?_
  rintro e w3 ⟨v, rfl, hown, hN3, hf3⟩
  rw [mW_okS, mW_num] at hown
  rw [mW_okS]
  rw [mW_K] at hN3
  have HO := Lib.hid (RdP.of_own hown)
  have HN3 := Lib.hid hN3
  have HB4 := Lib.hid (HB3.out.trans (hf3.to_below (B := w.heap.size) HB3.out.size fun k hk hh => by omega))
  clear hown hN3 hf3 HN HB3
  go_wp2_with fail
  refine (open_m (Psp.encN 1 ++ Psp.encM mW) v 1 1 g bm [kM mW] w3 (HO.out.mono fun b hb hh => hb) HN3.out (open_form mW_ok (by decide) mW_FormOk)).mono ?_
  rintro e w4 ⟨h1, _, h3⟩
  obtain ⟨vb, vo, vc, vp, rfl, hm⟩ := h1 _ _ mW_open
  have HB5 := Lib.hid (Below.then HB4.out h3 HB4.out.size)
  obtain ⟨Ab, Ao, Ac, Ap, cb, co, cc, cp, rfl, rfl, rfl, rfl⟩ := msg_slices hm
  clear h1 h3 hm HO HN3 HB4
  go_wp2_with fail
  go_ret
  exact ⟨rfl, by first | exact HB5.out | exact HB5.out.trans ((alloc_below _ _).mono HB5.out.size)⟩
end Go.Proofs.YtadpkjgjciodnaaGreat
end
section
namespace Go.Proofs.YtadpkjgjciodnaaGreat
open Go.RowKit Go.ChangeShapes Go.WideShapes
set_option linter.unusedVariables false
set_option linter.unusedSimpArgs false

theorem open_valW {P : Program} {t : TypeId} {fs : Array Field} {k : Nat} {α : Type} {f : α → List Value} {wf : α → Prop} {w : World} (hs : P.underlying t = some (.struct fs)) (E : OpensAt P t k f wf w)
    {H : Type} {enc : TypeId × Value → H} {v : Value} {d : DataW H} {ps : List MemPlace} {r : Reach} {b0 : Nat} (h : DataW.Trod enc P w 0 (fun _ => true) true t v d ps) (hv : Value.okWide P w r b0 t v) : ∃ a : α, v = .agg (f a).toArray ∧ wf a := by
  obtain ⟨cs, rfl, _⟩ := okWide_struct hs hv
  obtain ⟨fuel, hf⟩ := h
  obtain ⟨a, ha, hw⟩ := E.get enc fuel _ _ hf
  refine ⟨a, ?_, hw⟩
  have : cs.toList = f a := ha
  rw [← this]

end Go.Proofs.YtadpkjgjciodnaaGreat
end
section
namespace Go.Proofs.YtadpkjgjciodnaaGreat
open Go.RowKit
set_option linter.unusedVariables false
set_option linter.unusedSimpArgs false

theorem box_below {W W' : World} {g : Nat} {o : Obj} {B : Nat} (h : W.heap[g]? = some o) (hb : Below B W W') (hB : W.heap.size ≤ B) : W'.heap[g]? = some o :=
  (hb.block g (Nat.lt_of_lt_of_le (Array.getElem?_eq_some_iff.1 h).1 hB)).trans h

theorem TakenM.any {b : List UInt8} {w w' : World} {e : Ending} (h : TakenM b w e w') : ∃ (m : Psp.Msg) (Ab Ao Ac Ap : Option Addr) (cb co cc cp : Nat),
    e = .returned (.tuple #[.agg #[.int .i64 m.k, .int .i64 m.f, .int .i64 m.v, .int .i64 m.i, .int .i64 m.q, .int .i64 m.r, .slice Ab m.b.length cb, .slice Ao m.o.length co, .slice Ac m.c.length cc, .slice Ap m.p.length cp], .bool (Psp.parseM b).isSome]) ∧
    MsgOk w' (fun k => w.heap.size ≤ k) ⟨m, .slice Ab m.b.length cb, .slice Ao m.o.length co, .slice Ac m.c.length cc, .slice Ap m.p.length cp⟩ ∧ (Psp.parseM b).getD zM = m ∧ Below w.heap.size w w' := by
  obtain ⟨h1, h2, h3⟩ := h
  cases hp : Psp.parseM b with
  | none => exact ⟨zM, none, none, none, none, 0, 0, 0, 0, h2 hp, zM_ok, rfl, h3⟩
  | some m =>
    obtain ⟨vb, vo, vc, vp, he, hm⟩ := h1 m hp
    obtain ⟨Ab, Ao, Ac, Ap, cb, co, cc, cp, rfl, rfl, rfl, rfl⟩ := msg_slices hm
    exact ⟨m, Ab, Ao, Ac, Ap, cb, co, cc, cp, he, hm, rfl, h3⟩
end Go.Proofs.YtadpkjgjciodnaaGreat
end
