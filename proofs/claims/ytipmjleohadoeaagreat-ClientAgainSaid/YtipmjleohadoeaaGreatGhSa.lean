/- Joined texts: Ix Mp Fm. -/
import Derived.Test.YtipmjleohadoeaaGreatGaSa
import Derived.Test.YtipmjleohadoeaaGreatGbSa
import Derived.Test.YtipmjleohadoeaaGreatGgSa
section
/- An element of an array by value. No function in sight. -/
namespace Go.Proofs.YtipmjleohadoeaaGreat
open Go.RowKit
set_option linter.unusedVariables false

/-- An element of an array by value, of one cell each. -/
theorem wpList_index_arr {P : Program} {ops : Array Oper} {rest : List Oper} {o : Oper} {a : Act} {w : World} {Q : Exit → Act → World → Prop} (hgd : o.guard = none) (t : TypeId) (x y : Operand) (ho : o.op = .index t x y)
    (n : Nat) (e : TypeId) (hu : P.underlying t = some (.array n e)) (hagg : ∀ w, (isAgg e).run P w = .ok false w) (hsz : (P.info? e).map (·.size) = some 1)
    (cs : Array Value) (k : IntKind) (j : Nat) (hx : a.eval x = .agg cs) (hy : a.eval y = .int k (j : Int)) (hj : j < n) (v : Value) (hv : cs[j]? = some v)
    (h : wpList P ops Q rest (a.put o.dst v) w) : wpList P ops Q (o :: rest) a w := by
  refine wpList_plain hgd fun K hK => ?_
  unfold Oper.wp execOp
  obtain ⟨i, hi⟩ : ∃ i, P.info? e = some i := by
    cases hi : P.info? e with
    | none => rw [hi] at hsz; simp at hsz
    | some i => exact ⟨i, rfl⟩
  have hs : i.size = 1 := by rw [hi] at hsz; simpa using hsz
  have hlt : 0 ≤ (j : Int) ∧ (j : Int) < (n : Int) := by omega
  have hrun : (Instr.index t (.agg cs) (.int k (j : Int))).run P w = .ok v w := by
    simp [Instr.index, asIntOf, run_underlying hu, hlt, sizeOf, typeInfo, hi, hs, part, hagg, hv]
    intro h; omega
  simp only [ho, hx, hy, Sem.run_bind, Sem.run_pure, hrun, Result.andThen_ok]
  exact hK _ _ h
end Go.Proofs.YtipmjleohadoeaaGreat

end

section
/- Chapter 6's messages, in plain words: bytes, parsing. No program in sight. -/
namespace Psp
open Go.Proofs.YtipmjleohadoeaaGreat (dN codec_N)
set_option linter.unusedVariables false

structure Msg where
  k : Int
  f : Int
  v : Int
  i : Int
  q : Int
  r : Int
  b : List Req
  o : List Vote
  c : List Cert
  p : List Part
deriving DecidableEq

def encM (m : Msg) : List UInt8 := encN m.k ++ (encN m.f ++ (encN m.v ++ (encN m.i ++ (encN m.q ++ (encS m.r ++ (encL encR m.b ++ (encL encV m.o ++ (encL encC m.c ++ encL encP m.p))))))))
def okM (m : Msg) : Bool := okN m.k && (okN m.f && (okN m.v && (okN m.i && (okN m.q && (okS m.r && (okL okR m.b && (okL okV m.o && (okL okC m.c && okL okP m.p))))))))
/-- Is there a body? -/
def okB (m : Msg) : Bool := okM m && decide ((encM m).length ≤ 65536)
def dM : Dec Msg := fun b a => (dN b a).bind fun k => (dN b k.2).bind fun f => (dN b f.2).bind fun v => (dN b v.2).bind fun i => (dN b i.2).bind fun q => (dS b q.2).bind fun r =>
  (dL dR b r.2).bind fun l => (dL dV b l.2).bind fun o => (dL dC b o.2).bind fun c => (dL dP b c.2).map fun p => (⟨k.1, f.1, v.1, i.1, q.1, r.1, l.1, o.1, c.1, p.1⟩, p.2)
theorem codec_M : Codec encM okM dM := by
  intro b a x a'
  unfold dM okM encM
  simp only [codec_bind codec_N, codec_bind codec_S, codec_bind (codec_L codec_R), codec_bind (codec_L codec_V), codec_bind (codec_L codec_C), codec_map (codec_L codec_P), Bool.and_eq_true, at_app (f := encL encP x.p), at_app (f := _ ++ _), Prod.mk.injEq]
  constructor
  · rintro ⟨k, m1, o1, g1, f, m2, o2, g2, v, m3, o3, g3, i, m4, o4, g4, q, m5, o5, g5, r, m6, o6, g6, l, m7, o7, g7, o, m8, o8, g8, c, m9, o9, g9, p, m10, o10, g10, rfl, rfl⟩
    exact ⟨⟨o1, o2, o3, o4, o5, o6, o7, o8, o9, o10⟩, m1, g1, m2, g2, m3, g3, m4, g4, m5, g5, m6, g6, m7, g7, m8, g8, m9, g9, g10⟩
  · rintro ⟨⟨o1, o2, o3, o4, o5, o6, o7, o8, o9, o10⟩, m1, g1, m2, g2, m3, g3, m4, g4, m5, g5, m6, g6, m7, g7, m8, g8, m9, g9, g10⟩
    exact ⟨_, m1, o1, g1, _, m2, o2, g2, _, m3, o3, g3, _, m4, o4, g4, _, m5, o5, g5, _, m6, o6, g6, _, m7, o7, g7, _, m8, o8, g8, _, m9, o9, g9, _, a', o10, g10, rfl, rfl⟩
/-- The message whose body these bytes are. -/
def parseM (b : List UInt8) : Option Msg := (dM b 0).bind fun p => if p.2 = (b.length : Int) ∧ b.length ≤ 65536 then some p.1 else none
theorem parse_iff (b : List UInt8) (m : Msg) : parseM b = some m ↔ okB m = true ∧ b = encM m := by
  unfold parseM okB
  rw [Option.bind_eq_some_iff, Bool.and_eq_true, decide_eq_true_eq]
  constructor
  · rintro ⟨⟨x, a⟩, h1, h2⟩
    split at h2
    · rename_i h3
      injection h2 with h2
      dsimp only at h2 h3
      subst h2
      obtain ⟨h4, pre, suf, h5, h6, h7⟩ := (codec_M _ _ _ _).1 h1
      have hp : pre = [] := List.eq_nil_of_length_eq_zero (by omega)
      subst hp
      have hl := congrArg List.length h5
      simp only [List.length_append, List.length_nil] at hl h7
      have hs : suf = [] := List.eq_nil_of_length_eq_zero (by omega)
      subst hs
      rw [List.nil_append, List.append_nil] at h5
      exact ⟨⟨h4, by rw [← h5]; exact h3.2⟩, h5⟩
    · cases h2
  · rintro ⟨⟨h1, h2⟩, rfl⟩
    have h3 := codec_M.back h1 []
    rw [List.append_nil] at h3
    exact ⟨_, h3, by rw [if_pos ⟨rfl, h2⟩]⟩
theorem parse_back {m : Msg} (h : okB m = true) : parseM (encM m) = some m := (parse_iff _ _).2 ⟨h, rfl⟩
/-! ### How long -/
theorem lenN {n : Int} (h : okN n = true) : (encN n).length ≤ 6 := (encN_len h).2
theorem flat_bd {α : Type} (e : α → List UInt8) (ok : α → Bool) (k : Nat) (h : ∀ x, ok x = true → (e x).length ≤ k) : ∀ l : List α, l.all ok = true → (l.flatMap e).length ≤ l.length * k
  | [], _ => by simp
  | x :: l, g => by
    rw [List.all_cons, Bool.and_eq_true] at g
    have h1 := h x g.1
    have h2 := flat_bd e ok k h l g.2
    rw [List.flatMap_cons, List.length_append, List.length_cons, Nat.succ_mul]
    omega
theorem lenL {α : Type} {e : α → List UInt8} {ok : α → Bool} {k : Nat} (h : ∀ x, ok x = true → (e x).length ≤ k) {l : List α} (g : okL ok l = true) : (encL e l).length ≤ 6 + 256 * k := by
  unfold okL at g
  rw [Bool.and_eq_true, decide_eq_true_eq] at g
  have h1 := flat_bd e ok k h l g.2
  have h2 := lenN (n := (l.length : Int)) ((okN_iff _).2 (by omega))
  have h3 := Nat.mul_le_mul_right k g.1
  unfold encL
  rw [List.length_append]
  omega
theorem lenR {r : Req} (h : okR r = true) : (encR r).length ≤ 36 := by
  unfold okR at h
  simp only [Bool.and_eq_true] at h
  have h1 := lenN h.1
  have h2 := lenN h.2.1
  have h3 := lenN h.2.2.1
  have h4 := (encS_len r.y).2
  have h5 := (encS_len r.v).2
  have h6 := lenN h.2.2.2.2.2
  unfold encR
  simp only [List.length_append]
  omega
theorem lenV {v : Vote} (h : okV v = true) : (encV v).length ≤ 12 := by
  unfold okV at h
  simp only [Bool.and_eq_true] at h
  have h1 := lenN h.1
  have h2 := lenN h.2
  unfold encV
  simp only [List.length_append]
  omega
theorem lenC {c : Cert} (h : okC c = true) : (encC c).length ≤ 12318 := by
  unfold okC at h
  simp only [Bool.and_eq_true] at h
  have h1 := lenN h.1
  have h2 := lenN h.2.1
  have h3 := lenN h.2.2.1
  have h4 := lenL (k := 36) (e := encR) (fun x hx => lenR hx) h.2.2.2.1
  have h5 := lenL (k := 12) (e := encV) (fun x hx => lenV hx) h.2.2.2.2
  unfold encC
  simp only [List.length_append]
  omega
theorem lenP {p : Part} (h : okP p = true) : (encP p).length ≤ 3160000 := by
  unfold okP at h
  simp only [Bool.and_eq_true] at h
  have h1 := lenN h.1
  have h2 := lenL (k := 12) (e := encV) (fun x hx => lenV hx) h.2.1
  have h3 := lenL (k := 12318) (e := encC) (fun x hx => lenC hx) h.2.2.1
  have h4 := lenN h.2.2.2
  unfold encP
  simp only [List.length_append]
  omega
/-- What a written list may have of bytes. -/
theorem resR (l : List Req) : (if okL okR l then encL encR l else []).length ≤ 10000 := by
  split
  · rename_i h; have := lenL (k := 36) (e := encR) (fun x hx => lenR hx) h; omega
  · simp
theorem resV (l : List Vote) : (if okL okV l then encL encV l else []).length ≤ 10000 := by
  split
  · rename_i h; have := lenL (k := 12) (e := encV) (fun x hx => lenV hx) h; omega
  · simp
theorem resC (l : List Cert) : (if okL okC l then encL encC l else []).length ≤ 10000000 := by
  split
  · rename_i h; have := lenL (k := 12318) (e := encC) (fun x hx => lenC hx) h; omega
  · simp
theorem resP (l : List Part) : (if okL okP l then encL encP l else []).length ≤ 1000000000 := by
  split
  · rename_i h; have := lenL (k := 3160000) (e := encP) (fun x hx => lenP hx) h; omega
  · simp
end Psp

end

section
/- Chapter 6's forms, in plain words. -/
namespace Psp
set_option linter.unusedVariables false

/-- Is a number from one to another one? -/
def win (n lo hi : Int) : Bool := decide (lo ≤ n) && decide (n ≤ hi)
theorem win_iff (n lo hi : Int) : win n lo hi = true ↔ lo ≤ n ∧ n ≤ hi := by simp [win]
theorem win_no (n lo hi : Int) : win n lo hi = false ↔ ¬ (lo ≤ n ∧ n ≤ hi) := by rw [← win_iff]; simp
def sealB (s : Int) : Bool := win s 0 1099511627775
def sealsB (l : List Vote) : Bool := l.all fun v => sealB v.s
def votesB (l : List Vote) (f : Int) : Bool := sealsB l && rising (l.map (·.n)) f
def placeB (v i q f : Int) : Bool := win v 0 12 && (win i 0 f && win q 1 16)
def validsB (l : List Req) (cl : Int) : Bool := l.all fun r => valid r cl
def batchB (l : List Req) (cl lo hi : Int) : Bool := validsB l cl && win l.length lo hi
def certB (c : Cert) (f cl : Int) : Bool := placeB c.v c.i c.q f && (batchB c.b cl 0 4 && votesB c.o f)
/-- One behind the other, by instance and number. -/
def ltC (a b : Cert) : Bool := decide (a.i < b.i ∨ (a.i = b.i ∧ a.q < b.q))
def upC : List Cert → Bool
  | a :: b :: l => ltC a b && upC (b :: l)
  | _ => true
def certsB (view : Int) (l : List Cert) (f cl : Int) : Bool := l.all (fun c => certB c f cl && decide (c.v < view)) && upC l
def changeB (view : Int) (o : List Vote) (c : List Cert) (f cl : Int) : Bool := win view 1 12 && (votesB o f && certsB view c f cl)
def upP : List Part → Bool
  | a :: b :: l => decide (a.f < b.f) && upP (b :: l)
  | _ => true
def nodeB (n f : Int) : Bool := win n 0 (nodes f - 1)
def partB (view : Int) (p : Part) (f cl : Int) : Bool := nodeB p.f f && (sealB p.s && changeB view p.o p.c f cl)
def partsB (view : Int) (l : List Part) (f cl : Int) : Bool := decide ((l.length : Int) = quorum f) && (l.all (fun p => partB view p f cl) && upP l)
/-- Has a message nothing but what is named? -/
def bareB (m : Msg) (b o c p : Bool) : Bool := (b || decide (m.b.length = 0)) && ((o || decide (m.o.length = 0)) && ((c || decide (m.c.length = 0)) && (p || decide (m.p.length = 0))))
/-- The client of the first request. -/
def firstC (l : List Req) : Int := match l with | [] => 0 | r :: _ => r.c
def firstB (l : List Cert) (f cl : Int) : Bool := match l with | [c] => certB c f cl | _ => false
/-- Are these 0? -/
def noB (l : List Int) : Bool := l.all fun n => n == 0
def formM (m : Msg) (f cl : Int) : Bool :=
  may f && (if m.k = 1 then noB [m.v, m.i, m.q, m.r] && (bareB m true false false false && (batchB m.b cl 1 1 && (decide (100 ≤ m.f) && decide (m.f - 100 = firstC m.b))))
  else nodeB m.f f && (if m.k = 2 then noB [m.v, m.i, m.q, m.r] && (bareB m true false false false && batchB m.b cl 1 1)
  else if m.k = 3 then (m.r == 0) && (bareB m true false false false && (placeB m.v m.i m.q f && (batchB m.b cl 1 4 && decide (m.f = primary f m.v m.i))))
  else if m.k = 4 ∨ m.k = 5 then (m.r == 0) && (bareB m true false false false && (placeB m.v m.i m.q f && batchB m.b cl 0 4))
  else if m.k = 6 then noB [m.i, m.q, m.r] && (bareB m false false false false && win m.v 0 11)
  else if m.k = 7 then noB [m.i, m.q, m.r] && (bareB m false true true false && changeB m.v m.o m.c f cl)
  else if m.k = 8 then noB [m.q, m.r] && (bareB m false false false true && (win m.v 1 12 && (win m.i 0 f && (decide (m.f = primary f m.v m.i) && partsB m.v m.p f cl))))
  else if m.k = 9 then noB [m.v, m.i, m.q, m.r] && (bareB m false false true false && firstB m.c f cl)
  else if m.k = 10 then (m.v == 0) && (bareB m false false false false && (win m.i 0 (cl - 1) && (win m.q 1 1048576 && win m.r (-549755813887) 549755813887)))
  else false))

end Psp

end
