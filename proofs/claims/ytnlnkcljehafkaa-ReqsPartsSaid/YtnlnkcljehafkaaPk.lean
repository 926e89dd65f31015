/- Chapter 2's bytes, in plain words: how things are written, and taken again. No program in sight. -/
import Derived.Test.YtnlnkcljehafkaaCode2
import Derived.Test.YtnlnkcljehafkaaReqs
namespace Psp
set_option linter.unusedVariables false

structure Vote where
  n : Int
  s : Int
deriving DecidableEq
structure Cert where
  v : Int
  i : Int
  q : Int
  b : List Req
  o : List Vote
deriving DecidableEq
structure Part where
  f : Int
  o : List Vote
  c : List Cert
  s : Int
deriving DecidableEq

def okN (n : Int) : Bool := decide (0 ≤ n ∧ n < 1099511627776)
def okS (n : Int) : Bool := decide (-549755813888 ≤ n ∧ n < 549755813888)
def encN (n : Int) : List UInt8 := num n.toNat
def encS (n : Int) : List UInt8 := num (zig n).toNat
def encL {α : Type} (e : α → List UInt8) (l : List α) : List UInt8 := encN l.length ++ l.flatMap e
def okL {α : Type} (ok : α → Bool) (l : List α) : Bool := decide (l.length ≤ 256) && l.all ok
def encR (r : Req) : List UInt8 := encN r.c ++ (encN r.t ++ (encN r.k ++ (encS r.y ++ (encS r.v ++ encN r.s))))
def okR (r : Req) : Bool := okN r.c && (okN r.t && (okN r.k && (okS r.y && (okS r.v && okN r.s))))
def encV (v : Vote) : List UInt8 := encN v.n ++ encN v.s
def okV (v : Vote) : Bool := okN v.n && okN v.s
def encC (c : Cert) : List UInt8 := encN c.v ++ (encN c.i ++ (encN c.q ++ (encL encR c.b ++ encL encV c.o)))
def okC (c : Cert) : Bool := okN c.v && (okN c.i && (okN c.q && (okL okR c.b && okL okV c.o)))
def encP (p : Part) : List UInt8 := encN p.f ++ (encL encV p.o ++ (encL encC p.c ++ encN p.s))
def okP (p : Part) : Bool := okN p.f && (okL okV p.o && (okL okC p.c && okN p.s))

theorem okN_iff (n : Int) : okN n = true ↔ 0 ≤ n ∧ n < 1099511627776 := by simp [okN]
theorem okS_iff (n : Int) : okS n = true ↔ -549755813888 ≤ n ∧ n < 549755813888 := by simp [okS]
theorem encN_len {n : Int} (h : okN n = true) : 1 ≤ (encN n).length ∧ (encN n).length ≤ 6 := by
  obtain ⟨h0, h1⟩ := (okN_iff n).1 h
  exact ⟨num_pos _, num_len6 (by omega)⟩
theorem encS_len (n : Int) : 1 ≤ (encS n).length ∧ (encS n).length ≤ 6 := by
  have := zig_bd n
  exact ⟨num_pos _, num_len6 (by omega)⟩
theorem flat_step {α : Type} (e : α → List UInt8) {l : List α} {k : Nat} (h : k < l.length) : (l.take (k + 1)).flatMap e = (l.take k).flatMap e ++ e l[k] := by
  rw [List.take_succ_eq_append_getElem h, List.flatMap_append]; simp
theorem all_step {α : Type} (p : α → Bool) {l : List α} {k : Nat} (h : k < l.length) : (l.take (k + 1)).all p = ((l.take k).all p && p l[k]) := by
  rw [List.take_succ_eq_append_getElem h, List.all_append]; simp

/-! ### Where bytes stand -/
/-- The bytes e stand in b from a to a'. -/
def At (b : List UInt8) (a a' : Int) (e : List UInt8) : Prop := ∃ pre suf, b = pre ++ (e ++ suf) ∧ a = (pre.length : Int) ∧ a' = ((pre.length + e.length : Nat) : Int)
theorem At.bd {b e : List UInt8} {a a' : Int} (h : At b a a' e) : 0 ≤ a ∧ a' = a + e.length ∧ a' ≤ b.length := by
  obtain ⟨pre, suf, rfl, rfl, rfl⟩ := h
  simp only [List.length_append]
  omega
theorem At.end_eq {b e : List UInt8} {a a' a'' : Int} (h : At b a a' e) (g : At b a a'' e) : a' = a'' := by
  rw [h.bd.2.1, g.bd.2.1]
theorem at_app {b e f : List UInt8} {a c : Int} : At b a c (e ++ f) ↔ ∃ m, At b a m e ∧ At b m c f := by
  constructor
  · rintro ⟨pre, suf, rfl, rfl, rfl⟩
    exact ⟨((pre.length + e.length : Nat) : Int), ⟨pre, f ++ suf, by simp, rfl, rfl⟩, ⟨pre ++ e, suf, by simp, by simp, by simp; omega⟩⟩
  · rintro ⟨m, ⟨pre, suf, h1, rfl, rfl⟩, ⟨pre', suf', h2, h3, rfl⟩⟩
    have hl : pre'.length = (pre ++ e).length := by simp; omega
    have e1 : pre' ++ (f ++ suf') = (pre ++ e) ++ suf := by rw [← h2, h1]; simp
    obtain ⟨rfl, rfl⟩ := List.append_inj e1 hl
    exact ⟨pre, suf', by rw [h1]; simp, rfl, by simp; omega⟩
theorem at_nil {b : List UInt8} {a c : Int} : At b a c [] ↔ 0 ≤ a ∧ a ≤ b.length ∧ c = a := by
  constructor
  · intro h; have := h.bd; simp at this; omega
  · rintro ⟨h0, h1, rfl⟩
    exact ⟨b.take c.toNat, b.drop c.toNat, by simp, by simp; omega, by simp; omega⟩
theorem At.pre {b e : List UInt8} (r : List UInt8) {a c : Int} (h : At b a c e) : At (b ++ r) a c e := by
  obtain ⟨p, s, rfl, rfl, rfl⟩ := h
  exact ⟨p, s ++ r, by simp, rfl, rfl⟩
theorem at_zero (e r : List UInt8) : At (e ++ r) 0 e.length e := ⟨[], r, by simp, rfl, by simp⟩

/-! ### Takers -/
/-- What stands in bytes at a place, and the place behind it. -/
abbrev Dec (α : Type) := List UInt8 → Int → Option (α × Int)
/-- d takes just what e writes of what is ok. -/
def Codec {α : Type} (e : α → List UInt8) (ok : α → Bool) (d : Dec α) : Prop := ∀ b a x a', d b a = some (x, a') ↔ (ok x = true ∧ At b a a' (e x))
end Psp
namespace Go.Proofs.Ytnlnkcljehafkaa
open Psp
def dN : Dec Int := fun b a => (takeAt b a).map fun p => ((p.1 : Int), a + (p.2 : Int))
theorem codec_N : Codec encN okN dN := by
  intro b a x a'
  unfold dN
  constructor
  · intro h
    cases ht : takeAt b a with
    | none => rw [ht] at h; cases h
    | some p =>
      rw [ht] at h
      obtain ⟨v, m⟩ := p
      simp only [Option.map_some, Option.some.injEq, Prod.mk.injEq] at h
      obtain ⟨rfl, rfl⟩ := h
      have hb := takeAt_bd ht
      unfold takeAt at ht
      rw [if_neg (by omega)] at ht
      obtain ⟨h1, h2, r, h3⟩ := take_some ht
      refine ⟨(okN_iff _).2 ⟨by omega, by omega⟩, b.take a.toNat, r, ?_, ?_, ?_⟩
      · unfold encN
        rw [Int.toNat_natCast, ← h3, List.take_append_drop]
      · rw [List.length_take]; omega
      · unfold encN
        rw [Int.toNat_natCast, ← h2, List.length_take]; omega
  · rintro ⟨h, pre, suf, rfl, rfl, rfl⟩
    obtain ⟨h0, h1⟩ := (okN_iff x).1 h
    have : takeAt (pre ++ (encN x ++ suf)) (pre.length : Int) = some (x.toNat, (encN x).length) := by
      unfold takeAt
      rw [if_neg (by omega), Int.toNat_natCast, List.drop_left]
      exact take_num suf (by omega)
    rw [this]
    simp only [Option.map_some, Option.some.injEq, Prod.mk.injEq]
    exact ⟨by omega, by omega⟩
theorem dN_bd {b : List UInt8} {a n a' : Int} (h : dN b a = some (n, a')) : 0 ≤ n ∧ n < 1099511627776 ∧ 0 ≤ a ∧ a < a' ∧ a' ≤ b.length := by
  obtain ⟨h1, h2⟩ := (codec_N b a n a').1 h
  have h3 := (okN_iff n).1 h1
  have h4 := encN_len h1
  have h5 := h2.bd
  omega
end Go.Proofs.Ytnlnkcljehafkaa
namespace Psp
open Go.Proofs.Ytnlnkcljehafkaa
def dS : Dec Int := fun b a => (dN b a).map fun p => (zag p.1, p.2)
theorem codec_S : Codec encS okS dS := by
  intro b a x a'
  unfold dS
  constructor
  · intro h
    cases ht : dN b a with
    | none => rw [ht] at h; cases h
    | some p =>
      rw [ht] at h
      obtain ⟨n, c⟩ := p
      simp only [Option.map_some, Option.some.injEq, Prod.mk.injEq] at h
      obtain ⟨rfl, rfl⟩ := h
      obtain ⟨h1, h2⟩ := (codec_N b a n c).1 ht
      have h3 := (okN_iff n).1 h1
      have h4 := zag_bd n
      refine ⟨(okS_iff _).2 h4, ?_⟩
      unfold encS
      rw [zig_zag h3.1 h3.2]
      exact h2
  · rintro ⟨h, g⟩
    have h1 := (okS_iff x).1 h
    have hz := zig_bd x
    have : dN b a = some (zig x, a') := (codec_N b a _ _).2 ⟨(okN_iff _).2 ⟨hz.1, hz.2⟩, g⟩
    rw [this]
    simp only [Option.map_some, Option.some.injEq, Prod.mk.injEq, and_true]
    exact zag_zig h1.1 h1.2

/-- One behind the other. -/
theorem codec_bind {α β : Type} {d : Dec α} {e : α → List UInt8} {ok : α → Bool} (h : Codec e ok d) {b : List UInt8} {a a' : Int} {f : α × Int → Option (β × Int)} {y : β} :
    (d b a).bind f = some (y, a') ↔ ∃ x m, ok x = true ∧ At b a m (e x) ∧ f (x, m) = some (y, a') := by
  rw [Option.bind_eq_some_iff]
  constructor
  · rintro ⟨⟨x, m⟩, h1, h2⟩
    obtain ⟨h3, h4⟩ := (h b a x m).1 h1
    exact ⟨x, m, h3, h4, h2⟩
  · rintro ⟨x, m, h1, h2, h3⟩
    exact ⟨(x, m), (h b a x m).2 ⟨h1, h2⟩, h3⟩
theorem codec_map {α β : Type} {d : Dec α} {e : α → List UInt8} {ok : α → Bool} (h : Codec e ok d) {b : List UInt8} {a a' : Int} {f : α × Int → β × Int} {y : β} :
    (d b a).map f = some (y, a') ↔ ∃ x m, ok x = true ∧ At b a m (e x) ∧ f (x, m) = (y, a') := by
  rw [Option.map_eq_some_iff]
  constructor
  · rintro ⟨⟨x, m⟩, h1, h2⟩
    obtain ⟨h3, h4⟩ := (h b a x m).1 h1
    exact ⟨x, m, h3, h4, h2⟩
  · rintro ⟨x, m, h1, h2, h3⟩
    exact ⟨(x, m), (h b a x m).2 ⟨h1, h2⟩, h3⟩

def dMany {α : Type} (d : Dec α) (b : List UInt8) : Nat → Int → Option (List α × Int)
  | 0, a => some ([], a)
  | n + 1, a => (d b a).bind fun p => (dMany d b n p.2).map fun q => (p.1 :: q.1, q.2)
def dL {α : Type} (d : Dec α) : Dec (List α) := fun b a => (dN b a).bind fun p => if p.1 ≤ 256 then dMany d b p.1.toNat p.2 else none
theorem dMany_iff {α : Type} {d : Dec α} {e : α → List UInt8} {ok : α → Bool} (h : Codec e ok d) (b : List UInt8) : ∀ (n : Nat) (a : Int) (l : List α) (a' : Int), 0 ≤ a → a ≤ b.length →
    (dMany d b n a = some (l, a') ↔ l.length = n ∧ l.all ok = true ∧ At b a a' (l.flatMap e))
  | 0, a, l, a', h0, h1 => by
    unfold dMany
    constructor
    · intro g
      simp only [Option.some.injEq, Prod.mk.injEq] at g
      obtain ⟨rfl, rfl⟩ := g
      exact ⟨rfl, rfl, at_nil.2 ⟨h0, h1, rfl⟩⟩
    · rintro ⟨g1, g2, g3⟩
      have : l = [] := List.eq_nil_of_length_eq_zero g1
      subst this
      rw [(at_nil.1 g3).2.2]
  | n + 1, a, l, a', h0, h1 => by
    unfold dMany
    rw [codec_bind h]
    constructor
    · rintro ⟨x, m, h2, h3, h4⟩
      obtain ⟨⟨xs, m'⟩, h5, h6⟩ := Option.map_eq_some_iff.1 h4
      simp only [Prod.mk.injEq] at h6
      obtain ⟨rfl, rfl⟩ := h6
      have hb := h3.bd
      obtain ⟨h7, h8, h9⟩ := (dMany_iff h b n m xs m' (by omega) (by omega)).1 h5
      refine ⟨by simp [h7], by simp [h2] at h8 ⊢; exact h8, ?_⟩
      rw [List.flatMap_cons]
      exact at_app.2 ⟨m, h3, h9⟩
    · rintro ⟨h2, h3, h4⟩
      cases l with
      | nil => simp at h2
      | cons x xs =>
        rw [List.flatMap_cons] at h4
        obtain ⟨m, h5, h6⟩ := at_app.1 h4
        rw [List.all_cons, Bool.and_eq_true] at h3
        have hb := h5.bd
        have hb6 := h6.bd
        have := (dMany_iff h b n m xs a' (by omega) (by omega)).2 ⟨by simpa using h2, h3.2, h6⟩
        exact ⟨x, m, h3.1, h5, by rw [this]; rfl⟩
theorem codec_L {α : Type} {d : Dec α} {e : α → List UInt8} {ok : α → Bool} (h : Codec e ok d) : Codec (encL e) (okL ok) (dL d) := by
  intro b a l a'
  unfold dL okL encL
  rw [codec_bind codec_N, Bool.and_eq_true, decide_eq_true_eq]
  constructor
  · rintro ⟨n, m, h1, h2, h3⟩
    by_cases hn : n ≤ 256
    · rw [if_pos hn] at h3
      have hb := h2.bd
      obtain ⟨h4, h5, h6⟩ := (dMany_iff h b n.toNat m l a' (by omega) (by omega)).1 h3
      have h7 := (okN_iff n).1 h1
      have : (l.length : Int) = n := by omega
      exact ⟨⟨by omega, h5⟩, at_app.2 ⟨m, by rw [this]; exact h2, h6⟩⟩
    · rw [if_neg hn] at h3; cases h3
  · rintro ⟨⟨h1, h2⟩, h3⟩
    obtain ⟨m, h4, h5⟩ := at_app.1 h3
    have hb := h4.bd
    have hb5 := h5.bd
    refine ⟨(l.length : Int), m, (okN_iff _).2 ⟨by omega, by omega⟩, h4, ?_⟩
    rw [if_pos (by omega), Int.toNat_natCast]
    exact (dMany_iff h b _ m l a' (by omega) (by omega)).2 ⟨rfl, h2, h5⟩

def dR : Dec Req := fun b a => (dN b a).bind fun c => (dN b c.2).bind fun t => (dN b t.2).bind fun k => (dS b k.2).bind fun y => (dS b y.2).bind fun v => (dN b v.2).map fun s => (⟨c.1, t.1, k.1, y.1, v.1, s.1⟩, s.2)
theorem codec_R : Codec encR okR dR := by
  intro b a x a'
  unfold dR okR encR
  simp only [codec_bind codec_N, codec_bind codec_S, codec_map codec_N, Bool.and_eq_true, at_app, Prod.mk.injEq]
  constructor
  · rintro ⟨c, m1, o1, g1, t, m2, o2, g2, k, m3, o3, g3, y, m4, o4, g4, v, m5, o5, g5, s, m6, o6, g6, rfl, rfl⟩
    exact ⟨⟨o1, o2, o3, o4, o5, o6⟩, m1, g1, m2, g2, m3, g3, m4, g4, m5, g5, g6⟩
  · rintro ⟨⟨o1, o2, o3, o4, o5, o6⟩, m1, g1, m2, g2, m3, g3, m4, g4, m5, g5, g6⟩
    exact ⟨_, m1, o1, g1, _, m2, o2, g2, _, m3, o3, g3, _, m4, o4, g4, _, m5, o5, g5, _, a', o6, g6, rfl, rfl⟩
def dV : Dec Vote := fun b a => (dN b a).bind fun n => (dN b n.2).map fun s => (⟨n.1, s.1⟩, s.2)
theorem codec_V : Codec encV okV dV := by
  intro b a x a'
  unfold dV okV encV
  simp only [codec_bind codec_N, codec_map codec_N, Bool.and_eq_true, at_app, Prod.mk.injEq]
  constructor
  · rintro ⟨c, m1, o1, g1, t, m2, o2, g2, rfl, rfl⟩
    exact ⟨⟨o1, o2⟩, m1, g1, g2⟩
  · rintro ⟨⟨o1, o2⟩, m1, g1, g2⟩
    exact ⟨_, m1, o1, g1, _, a', o2, g2, rfl, rfl⟩
def dC : Dec Cert := fun b a => (dN b a).bind fun v => (dN b v.2).bind fun i => (dN b i.2).bind fun q => (dL dR b q.2).bind fun l => (dL dV b l.2).map fun o => (⟨v.1, i.1, q.1, l.1, o.1⟩, o.2)
theorem codec_C : Codec encC okC dC := by
  intro b a x a'
  unfold dC okC encC
  simp only [codec_bind codec_N, codec_bind (codec_L codec_R), codec_map (codec_L codec_V), Bool.and_eq_true, at_app (f := encL encV x.o), at_app (f := _ ++ _), Prod.mk.injEq]
  constructor
  · rintro ⟨c, m1, o1, g1, t, m2, o2, g2, k, m3, o3, g3, y, m4, o4, g4, v, m5, o5, g5, rfl, rfl⟩
    exact ⟨⟨o1, o2, o3, o4, o5⟩, m1, g1, m2, g2, m3, g3, m4, g4, g5⟩
  · rintro ⟨⟨o1, o2, o3, o4, o5⟩, m1, g1, m2, g2, m3, g3, m4, g4, g5⟩
    exact ⟨_, m1, o1, g1, _, m2, o2, g2, _, m3, o3, g3, _, m4, o4, g4, _, a', o5, g5, rfl, rfl⟩
def dP : Dec Part := fun b a => (dN b a).bind fun f => (dL dV b f.2).bind fun o => (dL dC b o.2).bind fun c => (dN b c.2).map fun s => (⟨f.1, o.1, c.1, s.1⟩, s.2)
theorem codec_P : Codec encP okP dP := by
  intro b a x a'
  unfold dP okP encP
  simp only [codec_bind codec_N, codec_bind (codec_L codec_V), codec_bind (codec_L codec_C), codec_map codec_N, Bool.and_eq_true, at_app (f := encN x.s), at_app (f := _ ++ _), Prod.mk.injEq]
  constructor
  · rintro ⟨c, m1, o1, g1, t, m2, o2, g2, k, m3, o3, g3, y, m4, o4, g4, rfl, rfl⟩
    exact ⟨⟨o1, o2, o3, o4⟩, m1, g1, m2, g2, m3, g3, g4⟩
  · rintro ⟨⟨o1, o2, o3, o4⟩, m1, g1, m2, g2, m3, g3, g4⟩
    exact ⟨_, m1, o1, g1, _, m2, o2, g2, _, m3, o3, g3, _, a', o4, g4, rfl, rfl⟩

section
variable {α : Type} {d : Dec α} {e : α → List UInt8} {ok : α → Bool}
theorem Codec.back (h : Codec e ok d) {x : α} (hx : ok x = true) (r : List UInt8) : d (e x ++ r) 0 = some (x, ((e x).length : Int)) := (h _ _ _ _).2 ⟨hx, at_zero _ _⟩
theorem Codec.inj (h : Codec e ok d) {x y : α} (hx : ok x = true) (hy : ok y = true) (he : e x = e y) : x = y := by
  have h1 := h.back hx []
  have h2 := h.back hy []
  rw [he] at h1
  rw [h1] at h2
  simpa using h2
/-- What is cut is nothing. -/
theorem Codec.cut (h : Codec e ok d) {x : α} (hx : ok x = true) {k : Nat} (hk : k < (e x).length) : d ((e x).take k) 0 = none := by
  cases hd : d ((e x).take k) 0 with
  | none => rfl
  | some p =>
    obtain ⟨y, a⟩ := p
    obtain ⟨h1, h2⟩ := (h _ _ _ _).1 hd
    have h3 := h2.pre ((e x).drop k)
    rw [List.take_append_drop] at h3
    have h4 := (h _ _ _ _).2 ⟨h1, h3⟩
    have h5 := h.back hx []
    rw [List.append_nil] at h5
    rw [h4] at h5
    simp only [Option.some.injEq, Prod.mk.injEq] at h5
    have := h2.bd
    rw [List.length_take] at this
    omega
theorem Codec.bd (h : Codec e ok d) {b : List UInt8} {a a' : Int} {x : α} (g : d b a = some (x, a')) : 0 ≤ a ∧ a ≤ a' ∧ a' ≤ b.length := by
  have := ((h _ _ _ _).1 g).2.bd
  omega
end

/-! ### What is written -/
/-- What writing e (may it be: ok) makes of what was written and of what was bad. -/
structure Wrote (e : List UInt8) (ok : Bool) (bnd : Nat) (out out' : List UInt8) (bad bad' : Bool) : Prop where
  isbad : bad' = (bad || !ok)
  isout : bad' = false → out' = out ++ e
  islen : out'.length ≤ out.length + bnd
theorem Wrote.trans {e f : List UInt8} {ok ok' : Bool} {n m : Nat} {o o' o'' : List UInt8} {b b' b'' : Bool} (h : Wrote e ok n o o' b b') (g : Wrote f ok' m o' o'' b' b'') : Wrote (e ++ f) (ok && ok') (n + m) o o'' b b'' := by
  refine ⟨by rw [g.isbad, h.isbad]; cases b <;> cases ok <;> cases ok' <;> rfl, fun hb => ?_, by have := h.islen; have := g.islen; omega⟩
  have hb' : b' = false := by rw [g.isbad] at hb; cases b' <;> simp_all
  rw [g.isout hb, h.isout hb', List.append_assoc]
theorem Wrote.more {e : List UInt8} {ok : Bool} {n m : Nat} {o o' : List UInt8} {b b' : Bool} (h : Wrote e ok n o o' b b') (hm : n ≤ m) : Wrote e ok m o o' b b' := ⟨h.isbad, h.isout, by have := h.islen; omega⟩
theorem Wrote.nil (o : List UInt8) (b : Bool) : Wrote [] true 0 o o b b := ⟨by simp, fun _ => by simp, by simp⟩
end Psp
