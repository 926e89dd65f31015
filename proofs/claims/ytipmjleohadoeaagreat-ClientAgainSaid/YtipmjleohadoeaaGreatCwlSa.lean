/- A client with two notaries: what a law's walk asks. Printed by gen_cwl.py. -/
import Derived.Test.YtipmjleohadoeaaGreatCl6Sa
import Derived.Test.YtipmjleohadoeaaGreatJ38Sa
import Derived.Test.YtipmjleohadoeaaGreatRepSa
import Derived.Test.YtipmjleohadoeaaGreatClwSa
import Derived.Test.YtipmjleohadoeaaGreatJ20Sa
namespace Go.Proofs.YtipmjleohadoeaaGreat
open Go.RowKit
set_option linter.unusedVariables false
set_option linter.unusedSimpArgs false

theorem cw_reply (S : Nat → Prop) (g bm h : Nat) (K L : List Key) (k ct : Nat) (c : Cf) (id : Int) (s : CS) (n i q r : Int) (bs : List UInt8) (w : World) (H : Cw w S g bm h K L k ct c id s) (hn : isI64 n) (hl : K.length < 1099511627776) (hl2 : L.length < 1099511627776) (hbs : res (envB K (repM n i q r)) (okS K (repM n i q r)) = bs) :
    Calls Tryz.prog 15 #[.agg #[.pointer (some ⟨g, 0, none⟩), .pointer (some ⟨h, 0, none⟩)], .agg #[.int .i64 0, .int .i64 n, .int .i64 0, .int .i64 i, .int .i64 q, .int .i64 r, .slice none 0 0, .slice none 0 0, .slice none 0 0, .slice none 0 0]] w fun e w' => ∃ A cp S', e = .returned (.slice A bs.length cp) ∧ Cw w' S' g bm h (sealK K (repM n i q r)) (sealK L (repM n i q r)) k ct c id s ∧ (∀ b, S' b → S b ∨ w.heap.size ≤ b) ∧ Fp (fun b => S b ∨ b = bm) w w' ∧ Bk w' S' bm (.slice A bs.length cp) bs := by
  refine (Cw.two (K' := sealK K (repM n i q r)) (L' := sealK L (repM n i q r)) (Q := fun e w' T' => ∃ A cp, e = .returned (.slice A bs.length cp) ∧ RdP w' (fun b => w.heap.size ≤ b ∧ Off w' T' bm b) 1 (.slice A bs.length cp) bs.length (bs.map bv)) H fun T hT => (reply_v T g bm h K L n i q r w hT hn hl hl2).mono ?_).mono ?_
  · rintro e w' ⟨A, cp, S', h1, h2, h3, h4, h5⟩
    rw [hbs] at h1 h5
    exact ⟨S', ⟨A, cp, h1, h5⟩, h2, h3, h4⟩
  · rintro e w' ⟨T', S', ⟨A, cp, h1, h5⟩, h6, h2, h3, h4⟩
    exact ⟨A, cp, S', h1, h2, h3, h4, ⟨h5.mono fun b hb hP => ⟨hb, fun hh => by
      rcases h6 b hh with h7 | h7
      · exact hP.2.2.1 h7
      · have := hP.1; omega, hP.2.2.2⟩⟩⟩
/-- Bytes, whatever they are. -/
theorem take_cn (U : Nat → Prop) (g bm k ct : Nat) (K : List Key) (c : Cf) (id : Int) (s : CS) (b : List UInt8) (v : Value) (w : World) (hb : Bool) (s2 : CS) (h : Cn w U g bm K k ct c id s) (hx : RdP w (fun x => x < w.heap.size) 1 v b.length (b.map bv))
    (hF : ∀ n a m, dN b 0 = some (n, a) → Psp.parseM (b.drop a.toNat) = some m → FormOk c.f c.cl m) (hf : 1 ≤ c.f ∧ c.f ≤ 4) (hl : s.waits = true → s.issued ≠ []) (hlen : s.issued.length ≤ 1000000) (hal : s.ans.length ≤ 1000000) (hcl : s.acc.length ≤ 1000000) (h2 : takeS c id K s b = (hb, s2)) :
    Calls Tryz.prog 14 #[.pointer (some ⟨k, 0, none⟩), v] w fun e w' => e = .returned (.bool hb) ∧ ∃ U', Cn w' U' g bm K k ct c id s2 ∧ (∀ b, U' b → U b ∨ w.heap.size ≤ b) ∧ Fp (fun b => U b ∨ b = bm) w w' := by
  cases hw : s.waits with
  | false =>
    have h3 : takeS c id K s b = (false, s) := by unfold takeS; rw [hw]; rfl
    rw [h3] at h2
    injection h2 with e1 e2
    subst e1 e2
    refine (take_idle U k ct g c id s v w h.cm hw).mono ?_
    rintro e w' ⟨rfl, rfl⟩
    exact ⟨rfl, U, h, fun b hb => .inl hb, Fp.refl _ _⟩
  | true =>
    cases ho : openM b c.f c.cl K with
    | none =>
      have h3 : takeS c id K s b = (false, s) := by unfold takeS; rw [hw, ho]; rfl
      rw [h3] at h2
      injection h2 with e1 e2
      subst e1 e2
      refine (take_shut U g bm k ct K c id s b v w h hw hx hF ho).mono ?_
      rintro e w' ⟨rfl, hb⟩
      exact ⟨rfl, U, h.below hb, fun b hb => .inl hb, Fp.of_below hb _⟩
    | some p =>
      obtain ⟨m, x⟩ := p
      have h3 : takeS c id K s b = if s.hears id m then (true, s.heard c m) else (false, s) := by unfold takeS; rw [hw, ho]; rfl
      rw [h3] at h2
      refine take_some U g bm k ct K c id s b v m x w h hw hx hF ho hf (hl hw) hlen hal hcl hb s2 ?_ ?_
      · cases hh : s.hears id m <;> (rw [hh] at h2; injection h2)
      · cases hh : s.hears id m with
        | false => rw [hh] at h2; injection h2 with e1 e2; subst e1 e2; rfl
        | true => rw [hh] at h2; injection h2 with e1 e2; subst e1 e2; rfl
theorem cw_take (S : Nat → Prop) (g bm h : Nat) (K L : List Key) (k ct : Nat) (c : Cf) (id : Int) (s : CS) (b : List UInt8) (v : Value) (w : World) (hb : Bool) (s2 : CS) (H : Cw w S g bm h K L k ct c id s) (hx : RdP w (fun x => x < w.heap.size) 1 v b.length (b.map bv))
    (hF : ∀ n a m, dN b 0 = some (n, a) → Psp.parseM (b.drop a.toNat) = some m → FormOk c.f c.cl m) (hf : 1 ≤ c.f ∧ c.f ≤ 4) (hl : s.waits = true → s.issued ≠ []) (hlen : s.issued.length ≤ 1000000) (hal : s.ans.length ≤ 1000000) (hcl : s.acc.length ≤ 1000000) (h2 : takeS c id K s b = (hb, s2)) :
    Calls Tryz.prog 14 #[.pointer (some ⟨k, 0, none⟩), v] w fun e w' => e = .returned (.bool hb) ∧ ∃ S', Cw w' S' g bm h K L k ct c id s2 ∧ (∀ b, S' b → S b ∨ w.heap.size ≤ b) ∧ Fp (fun b => S b ∨ b = bm) w w' :=
  Cw.op (Q := fun e _ => e = .returned (.bool hb)) H fun U hU => take_cn U g bm k ct K c id s b v w hb s2 hU hx hF hf hl hlen hal hcl h2
/-- A reply that is right, told. -/
theorem cw_told (S : Nat → Prop) (g bm h : Nat) (K L : List Key) (k ct : Nat) (c : Cf) (id n i q r : Int) (s : CS) (v : Value) (w : World) (hb : Bool) (s2 : CS) (bs : List UInt8) (K2 : List Key) (hbs : envB K (repM n i q r) = bs) (hK2 : sealK K (repM n i q r) = K2) (H : Cw w S g bm h K2 L k ct c id s) (hx : Bk w S bm v bs)
    (hf : 1 ≤ c.f ∧ c.f ≤ 4) (hn : 0 ≤ n ∧ n ≤ 3 * c.f) (hi : 0 ≤ i ∧ i < c.cl) (hcl4 : c.cl ≤ 4) (hq : 1 ≤ q ∧ q ≤ 1048576) (hr : -100000 ≤ r ∧ r ≤ 100000) (hK : K.length < 1000000) (hl : s.waits = true → s.issued ≠ []) (hlen : s.issued.length ≤ 1000000) (hal : s.ans.length ≤ 1000000) (hcl : s.acc.length ≤ 1000000) (h2 : (s.waits && s.hears id (repM n i q r)) = hb) (h3 : s2 = if hb = true then s.heard c (repM n i q r) else s) :
    Calls Tryz.prog 14 #[.pointer (some ⟨k, 0, none⟩), v] w fun e w' => e = .returned (.bool hb) ∧ ∃ S', Cw w' S' g bm h K2 L k ct c id s2 ∧ (∀ b, S' b → S b ∨ w.heap.size ≤ b) ∧ Fp (fun b => S b ∨ b = bm) w w' := by
  subst hbs hK2
  obtain ⟨o1, o2⟩ := rep_ok (n := n) (i := i) (q := q) (r := r) ⟨by omega, by omega⟩ ⟨by omega, by omega⟩ ⟨by omega, by omega⟩ hr
  have hE := okE_of_okS (msgS_small (K := K) o1 o2 hK)
  have hN := hE
  unfold okE at hN
  rw [Bool.and_eq_true] at hN
  refine cw_take S g bm h _ L k ct c id s _ v w hb s2 H hx.all ?_ hf hl hlen hal hcl ?_
  · exact open_form o1 hN.1 (fun vb vo vc vp w P hx hw => form_10 _ vb vo vc vp c.f c.cl w P hx hw (may_of hf) rfl (by omega) (by omega))
  · rw [told hf hcl4 hn hi hq hr hK, h2]
    cases hb <;> (rw [h3]; rfl)
theorem cw_issue (S : Nat → Prop) (g bm h : Nat) (K L : List Key) (k ct : Nat) (c : Cf) (id : Int) (s : CS) (kk y v : Int) (r : Psp.Req) (s2 : CS) (K2 : List Key) (w : World) (H : Cw w S g bm h K L k ct c id s) (hf : 1 ≤ c.f ∧ c.f ≤ 4) (hcl : c.cl ≤ 4) (hid : 0 ≤ id ∧ id < 4) (hw : s.waits = false) (hlen : s.issued.length ≤ 100000) (hol : s.out.length ≤ 1000000) (hK : K.length < 900000)
    (hv : Psp.valid (bareQ id s kk y v) c.cl = true) (hq : r = { bareQ id s kk y v with s := sealN K (kR (bareQ id s kk y v)) }) (h2 : sendS c id (sealL K (kR (bareQ id s kk y v))) { s with issued := s.issued ++ [r], waits := true, at_ := s.now, ans := [] } = (s2, K2)) :
    Calls Tryz.prog 12 #[.pointer (some ⟨k, 0, none⟩), .agg #[.int .i64 kk, .int .i64 y, .int .i64 v]] w fun e w' => e = .returned (.tuple #[.agg #[.int .i64 r.c, .int .i64 r.t, .int .i64 r.k, .int .i64 r.y, .int .i64 r.v, .int .i64 r.s], .int .i64 0]) ∧
      ∃ S', Cw w' S' g bm h K2 L k ct c id s2 ∧ (∀ b, S' b → S b ∨ w.heap.size ≤ b) ∧ Fp (fun b => S b ∨ b = bm) w w' := by
  refine Cw.op (Q := fun e _ => e = .returned (.tuple #[.agg #[.int .i64 r.c, .int .i64 r.t, .int .i64 r.k, .int .i64 r.y, .int .i64 r.v, .int .i64 r.s], .int .i64 0])) H fun U hU => ?_
  have hm := issue_m U g bm k ct K c id s kk y v r w hU hf hcl hid hw hlen hol hK hv hq
  rw [h2] at hm
  exact hm
end Go.Proofs.YtipmjleohadoeaaGreat
