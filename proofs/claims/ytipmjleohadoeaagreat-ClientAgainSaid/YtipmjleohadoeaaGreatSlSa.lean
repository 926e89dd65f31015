/- Package msgs: Seal. -/
import Derived.Test.YtipmjleohadoeaaGreatMbSa
import Derived.Test.YtipmjleohadoeaaGreatEnSa
import Derived.Test.YtipmjleohadoeaaGreatGgSa
namespace Go.Proofs.YtipmjleohadoeaaGreat
open Go.RowKit
set_option linter.unusedVariables false

/-- What a message's sender seals, as a key. -/
def kM (m : Psp.Msg) : Key := (m.f, Psp.encM m)
theorem encM_le {m : Psp.Msg} (h : Psp.okB m = true) : (Psp.encM m).length ≤ 65536 := by
  unfold Psp.okB at h
  rw [Bool.and_eq_true, decide_eq_true_eq] at h
  exact h.2
theorem kM_ok {m : Psp.Msg} (hf : isI64 m.f) (h : Psp.okB m = true) : KOk (kM m) := ⟨hf, by have := encM_le h; show (Psp.encM m).length ≤ maxLen; unfold maxLen; omega⟩
/-- The numbers given, when a message has been sealed. -/
def sealK (K : List Key) (m : Psp.Msg) : List Key := if Psp.okB m then sealL K (kM m) else K
/-- May its envelope be? -/
def okS (K : List Key) (m : Psp.Msg) : Bool := Psp.okB m && okE (sealN K (kM m)) (Psp.encM m)
/-- What Seal returns. -/
def Sealed (K : List Key) (m : Psp.Msg) (g bm : Nat) (w : World) (e : Ending) (w' : World) : Prop :=
  ∃ v, e = .returned (.tuple #[v, .bool (okS K m)]) ∧ w'.ownsRow w.heap.size 5 1 v (res (Psp.encN (sealN K (kM m)) ++ Psp.encM m) (okS K m)).length ((res (Psp.encN (sealN K (kM m)) ++ Psp.encM m) (okS K m)).map bv) ∧
    Nt w' g bm (sealK K m) ∧ Fp (fun b => b = bm) w w'

set_option maxRecDepth 100000 in
set_option maxHeartbeats 1000000 in
theorem seal_m (m : Psp.Msg) (vb vo vc vp : Value) (g bm : Nat) (K : List Key) (w : World) (hx : MsgOk w (fun b => b < w.heap.size) ⟨m, vb, vo, vc, vp⟩) (hf : isI64 m.f) (hN : Nt w g bm K) (hK : K.length < 1099511627776) :
    Calls Tryz.prog 57 #[.agg #[.int .i64 m.k, .int .i64 m.f, .int .i64 m.v, .int .i64 m.i, .int .i64 m.q, .int .i64 m.r, vb, vo, vc, vp], .pointer (some ⟨g, 0, none⟩)] w (Sealed K m g bm w) := by
  have o0 : vb.oneCell' = true := RdP.one hx.1
  have o1 : vo.oneCell' = true := RdP.one hx.2.1
  have o2 : vc.oneCell' = true := hx.2.2.1.one
  have o3 : vp.oneCell' = true := hx.2.2.2.one
  obtain ⟨w0, hw0⟩ : ∃ w0, w.alloc (.cells #[.int .i64 m.k, .int .i64 m.f, .int .i64 m.v, .int .i64 m.i, .int .i64 m.q, .int .i64 m.r, vb, vo, vc, vp] 56) = w0 := ⟨_, rfl⟩
  have hb0 := alloc_below w (.cells #[.int .i64 m.k, .int .i64 m.f, .int .i64 m.v, .int .i64 m.i, .int .i64 m.q, .int .i64 m.r, vb, vo, vc, vp] 56)
  have hc0 := heap_alloc_new w (.cells #[.int .i64 m.k, .int .i64 m.f, .int .i64 m.v, .int .i64 m.i, .int .i64 m.q, .int .i64 m.r, vb, vo, vc, vp] 56)
  rw [hw0] at hb0 hc0
  have HX := Lib.hid (hx.keeps (Keeps.on hb0))
  have HB := Lib.hid hb0
  have HC := Lib.hid hc0
  have HN := Lib.hid (hN.below hb0)
  have hlt := (Array.getElem?_eq_some_iff.1 hc0).1
  have hgl := hN.lt
  have x0 : w0.cell? ⟨w.heap.size, 0, none⟩ = some (.int .i64 m.k) := by rw [cell_of_row _ _ 0 _ _ _ hc0]; rfl
  have x1 : w0.cell? ⟨w.heap.size, 1, none⟩ = some (.int .i64 m.f) := by rw [cell_of_row _ _ 1 _ _ _ hc0]; rfl
  have x2 : w0.cell? ⟨w.heap.size, 2, none⟩ = some (.int .i64 m.v) := by rw [cell_of_row _ _ 2 _ _ _ hc0]; rfl
  have x3 : w0.cell? ⟨w.heap.size, 3, none⟩ = some (.int .i64 m.i) := by rw [cell_of_row _ _ 3 _ _ _ hc0]; rfl
  have x4 : w0.cell? ⟨w.heap.size, 4, none⟩ = some (.int .i64 m.q) := by rw [cell_of_row _ _ 4 _ _ _ hc0]; rfl
  have x5 : w0.cell? ⟨w.heap.size, 5, none⟩ = some (.int .i64 m.r) := by rw [cell_of_row _ _ 5 _ _ _ hc0]; rfl
  have x6 : w0.cell? ⟨w.heap.size, 6, none⟩ = some vb := by rw [cell_of_row _ _ 6 _ _ _ hc0]; rfl
  have x7 : w0.cell? ⟨w.heap.size, 7, none⟩ = some vo := by rw [cell_of_row _ _ 7 _ _ _ hc0]; rfl
  have x8 : w0.cell? ⟨w.heap.size, 8, none⟩ = some vc := by rw [cell_of_row _ _ 8 _ _ _ hc0]; rfl
  have x9 : w0.cell? ⟨w.heap.size, 9, none⟩ = some vp := by rw [cell_of_row _ _ 9 _ _ _ hc0]; rfl
  have Hf := Lib.hid hf
  clear hx hb0 hc0 hN hf
  go_enter Tryz.func57, Tryz.ntmps57
  go_wp2_with fail
  clear hw0 x0 x1 x2 x3 x4 x5 x6 x7 x8 x9
  refine (body_m m vb vo vc vp w0 HX.out).mono ?_
  intro e w1 h
  obtain ⟨A, c, rfl, hp, hb⟩ := Bytes.rdb h rfl rfl
  have HN1 := Lib.hid (HN.out.below hb)
  have HB1 := Lib.hid (Below.then HB.out hb HB.out.size)
  have HC1 := Lib.hid ((hb.block _ hlt).trans HC.out)
  have hz := hb.size
  have HP := Lib.hid hp
  clear h hp hb HN HB HC
  cases hok : Psp.okB m with
  | false =>
    have Hk : Hid (okS K m = false ∧ sealK K m = K) := Lib.hid ⟨by unfold okS; rw [hok]; rfl, by unfold sealK; rw [hok]; rfl⟩
    clear hok HP
    go_wp2_with fail
    go_ret2
    exact ⟨_, ret_pair _ Hk.out.1, by rw [Hk.out.1]; exact World.ownsRow_nil _ _ _ _, by rw [Hk.out.2]; exact HN1.out, Fp.of_below HB1.out _⟩
  | true =>
    have hl := encM_le hok
    have hkk := kM_ok Hf.out hok
    have Hk : Hid (okS K m = okE (sealN K (kM m)) (Psp.encM m) ∧ sealK K m = sealL K (kM m)) := Lib.hid ⟨by unfold okS; rw [hok]; rfl, by unfold sealK; rw [hok]; rfl⟩
    have x1 : w1.cell? ⟨w.heap.size, 1, none⟩ = some (.int .i64 m.f) := by rw [cell_of_row _ _ 1 _ _ _ HC1.out]; rfl
    rw [hok, res_yes] at HP
    have Hkk := Lib.hid hkk
    clear hok hkk
    rw [res_yes]
    go_wp2_with fail
    refine (nt_seal g bm K m.f (Psp.encM m) _ w1 _ HN1.out Hkk.out hK HP.out).mono ?_
    rintro e w2 ⟨rfl, hn2, hf2⟩
    have HN2 := Lib.hid hn2
    have HF2 := Lib.hid hf2
    have hz2 := hf2.size
    have HP2 := Lib.hid ((HP.out.fp hf2 (fun b (hb : w0.heap.size ≤ b) he => by omega)).mono (P' := fun b => b < w2.heap.size) fun b hb _ => hb)
    clear hn2 hf2 x1
    go_wp2_with fail
    refine (env_any (sealN K (m.f, Psp.encM m)) (Psp.encM m) _ w2 HP2.out (by omega)).mono ?_
    intro e w3 h
    obtain ⟨A3, c3, rfl, hown, hb3⟩ := h.open_
    have HN3 := Lib.hid (HN2.out.below hb3)
    have HF3 := Lib.hid (((Fp.of_below HB1.out (fun b => b = bm)).trans HF2.out (fun k hk => Or.inl hk)).below hb3)
    have HO := Lib.hid (own_more hown (base' := w.heap.size) (by omega))
    clear h hown hb3
    go_wp2_with fail
    go_ret2
    exact ⟨_, ret_pair _ Hk.out.1, by rw [Hk.out.1]; exact HO.out, by rw [Hk.out.2]; exact HN3.out, HF3.out⟩
end Go.Proofs.YtipmjleohadoeaaGreat
