/- A client, in plain words: what it has, what it does, which replies open. -/
import Derived.Test.YtipmjleohadoeaaGreatJ22Sa
namespace Go.Proofs.YtipmjleohadoeaaGreat
open Go.RowKit
set_option linter.unusedVariables false
set_option linter.unusedSimpArgs false

/-- A configuration. -/
structure Cf where
  f : Int
  cl : Int
  c2 : Int
  c3 : Int
  c4 : Int
  c5 : Int
  c6 : Int
  c7 : Int
  c8 : Int
  c9 : Int
  c10 : Int
  c11 : Int
  c12 : Int
  c13 : Int
  re : Int
def Cf.ok (c : Cf) : Bool :=
  Psp.win c.f 1 4 && (Psp.win c.cl 1 4 && (Psp.win c.c2 1 4 && (Psp.win c.c3 1 16 && (Psp.win c.c4 1 256 && (Psp.win c.c5 1 64 && (Psp.win c.c6 1 64 && (Psp.win c.c7 2 64 && (Psp.win c.c8 0 8 && (Psp.win c.c9 1 8 && (Psp.win c.c10 2 64 && (Psp.win c.c11 0 64 && (Psp.win c.c12 2 64 && (Psp.win c.c13 1 16 && Psp.win c.re 1 64)))))))))))))
/-- What a client has. -/
structure CS where
  now : Int
  waits : Bool
  issued : List Psp.Req
  at_ : Int
  ans : List (Int × Int)
  acc : List (Psp.Req × Int)
  out : List (Int × List UInt8)
def cs0 : CS := ⟨0, false, [], 0, [], [], []⟩
def zR0 : Psp.Req := ⟨0, 0, 0, 0, 0, 0⟩
/-- What was issued last. -/
def CS.last (s : CS) : Psp.Req := s.issued.getD (s.issued.length - 1) zR0
/-- A request's message. -/
def reqM (id : Int) (r : Psp.Req) : Psp.Msg := ⟨1, 100 + id, 0, 0, 0, 0, [r], [], [], []⟩
/-- A reply. -/
def repM (n i q r : Int) : Psp.Msg := ⟨10, n, 0, i, q, r, [], [], [], []⟩
/-- An envelope. -/
def envB (K : List Key) (m : Psp.Msg) : List UInt8 := Psp.encN (sealN K (kM m)) ++ Psp.encM m
def sendsTo (n : Nat) (b : List UInt8) : List (Int × List UInt8) := (List.range n).map fun (j : Nat) => ((j : Int), b)
def sendS (c : Cf) (id : Int) (K : List Key) (s : CS) : CS × List Key :=
  (if okS K (reqM id s.last) then { s with out := s.out ++ sendsTo (Psp.nodes c.f).toNat (envB K (reqM id s.last)) } else s, sealK K (reqM id s.last))
/-- A request without its seal. -/
def bareQ (id : Int) (s : CS) (k y v : Int) : Psp.Req := ⟨id, (s.issued.length : Int) + 1, k, y, v, 0⟩
/-- Is a message the reply that is waited for? -/
def CS.hears (s : CS) (id : Int) (m : Psp.Msg) : Bool := decide (m.k = 10) && (decide (m.i = id) && (decide (m.q = s.last.t) && !(s.ans.any fun a => a.1 == m.f)))
def CS.same (s : CS) (r : Int) : Int := 1 + ((s.ans.countP fun a => a.2 == r : Nat) : Int)
def CS.heard (s : CS) (c : Cf) (m : Psp.Msg) : CS :=
  if Psp.weak c.f ≤ s.same m.r then { s with ans := s.ans ++ [(m.f, m.r)], acc := s.acc ++ [(s.last, m.r)], waits := false } else { s with ans := s.ans ++ [(m.f, m.r)] }
def takeS (c : Cf) (id : Int) (K : List Key) (s : CS) (b : List UInt8) : Bool × CS :=
  if s.waits then match openM b c.f c.cl K with
    | some (m, _) => if s.hears id m then (true, s.heard c m) else (false, s)
    | none => (false, s)
  else (false, s)
def tickS (c : Cf) (id : Int) (K : List Key) (s : CS) : CS × List Key :=
  if s.now < 1048576 then
    if s.waits = true ∧ (s.now + 1 - s.at_) % c.re = 0 then sendS c id K { s with now := s.now + 1 } else ({ s with now := s.now + 1 }, K)
  else (s, K)
theorem sealN_bd (K : List Key) (k : Key) : 1 ≤ sealN K k ∧ sealN K k ≤ (K.length : Int) + 1 := by
  unfold sealN
  split
  · rename_i h
    have := List.idxOf_lt_length_iff.2 h
    omega
  · omega
theorem sealL_len (K : List Key) (k : Key) : (sealL K k).length ≤ K.length + 1 := by
  unfold sealL
  split
  · omega
  · rw [List.length_append, List.length_singleton]; omega
/-! ### Replies -/
theorem rep_ok {n i q r : Int} (hn : 0 ≤ n ∧ n < 1000) (hi : 0 ≤ i ∧ i < 1000) (hq : 0 ≤ q ∧ q < 2000000) (hr : -100000 ≤ r ∧ r ≤ 100000) : Psp.okB (repM n i q r) = true ∧ (Psp.encM (repM n i q r)).length ≤ 50000 := by
  have a1 : Psp.okN (repM n i q r).k = true := okN_small (by show (0 : Int) ≤ 10; omega) (by show (10 : Int) < _; omega)
  have a2 : Psp.okN (repM n i q r).f = true := okN_small (by show 0 ≤ n; omega) (by show n < _; omega)
  have a3 : Psp.okN (repM n i q r).v = true := rfl
  have a4 : Psp.okN (repM n i q r).i = true := okN_small (by show 0 ≤ i; omega) (by show i < _; omega)
  have a5 : Psp.okN (repM n i q r).q = true := okN_small (by show 0 ≤ q; omega) (by show q < _; omega)
  have a6 : Psp.okS (repM n i q r).r = true := by unfold Psp.okS; exact decide_eq_true ⟨by show _ ≤ r; omega, by show r < _; omega⟩
  have b := nil_sz Psp.okR Psp.encR
  have o := nil_sz Psp.okV Psp.encV
  have c := nil_sz Psp.okC Psp.encC
  have p := nil_sz Psp.okP Psp.encP
  have eb : (repM n i q r).b = [] := rfl
  have eo : (repM n i q r).o = [] := rfl
  have ec : (repM n i q r).c = [] := rfl
  have ep : (repM n i q r).p = [] := rfl
  have hlen : (Psp.encM (repM n i q r)).length ≤ 50000 := by
    unfold Psp.encM
    simp only [List.length_append]
    rw [eb, eo, ec, ep]
    have := Psp.lenN a1
    have := Psp.lenN a2
    have := Psp.lenN a3
    have := Psp.lenN a4
    have := Psp.lenN a5
    have := (Psp.encS_len (repM n i q r).r).2
    omega
  refine ⟨?_, hlen⟩
  unfold Psp.okB Psp.okM
  rw [a1, a2, a3, a4, a5, a6, eb, eo, ec, ep, b.1, o.1, c.1, p.1, Bool.and_eq_true, decide_eq_true_eq]
  exact ⟨rfl, by omega⟩
theorem rep_form {n i q r f cl : Int} (hf : 1 ≤ f ∧ f ≤ 4) (hn : 0 ≤ n ∧ n ≤ 3 * f) (hi : 0 ≤ i ∧ i < cl) (hq : 1 ≤ q ∧ q ≤ 1048576) (hr : -100000 ≤ r ∧ r ≤ 100000) : Psp.formM (repM n i q r) f cl = true := by
  have e : Psp.formM (repM n i q r) f cl = (Psp.may f && (Psp.nodeB n f && (((0 : Int) == 0) && (Psp.bareB (repM n i q r) false false false false && (Psp.win i 0 (cl - 1) && (Psp.win q 1 1048576 && Psp.win r (-549755813887) 549755813887)))))) := rfl
  have h1 : Psp.nodeB n f = true := by unfold Psp.nodeB; rw [nodes_is hf]; exact (Psp.win_iff _ _ _).2 ⟨by omega, by omega⟩
  rw [e, may_of hf, h1, (Psp.win_iff i 0 (cl - 1)).2 ⟨by omega, by omega⟩, (Psp.win_iff q 1 1048576).2 hq, (Psp.win_iff r _ _).2 ⟨by omega, by omega⟩]
  rfl
/-- A reply that was sealed opens. -/
theorem rep_open {K : List Key} {n i q r f cl : Int} (hf : 1 ≤ f ∧ f ≤ 4) (hn : 0 ≤ n ∧ n ≤ 3 * f) (hi : 0 ≤ i ∧ i < cl) (hcl : cl ≤ 4) (hq : 1 ≤ q ∧ q ≤ 1048576) (hr : -100000 ≤ r ∧ r ≤ 100000) (hK : K.length < 1000000) :
    okS K (repM n i q r) = true ∧ openM (envB K (repM n i q r)) f cl (sealK K (repM n i q r)) = some (repM n i q r, sealN K (kM (repM n i q r))) := by
  obtain ⟨h1, h2⟩ := rep_ok (n := n) (i := i) (q := q) (r := r) ⟨by omega, by omega⟩ ⟨by omega, by omega⟩ ⟨by omega, by omega⟩ hr
  exact open_sealed h1 h2 (rep_form hf hn hi hq hr) hK
theorem valid_okR {r : Psp.Req} {cl : Int} (hv : Psp.valid r cl = true) (hcl : cl ≤ 4) : Psp.okR r = true := by
  unfold Psp.valid at hv
  rw [decide_eq_true_eq] at hv
  unfold Psp.okR
  rw [okN_small (n := r.c) (by omega) (by omega), okN_small (n := r.t) (by omega) (by omega), okN_small (n := r.k) (by omega) (by omega), (Psp.okS_iff r.y).2 ⟨by omega, by omega⟩, (Psp.okS_iff r.v).2 ⟨by omega, by omega⟩, okN_small (n := r.s) (by omega) (by omega)]
  rfl
theorem req_ok {id : Int} {r : Psp.Req} {cl : Int} (hid : 0 ≤ id ∧ id < 100) (hv : Psp.valid r cl = true) (hcl : cl ≤ 4) : Psp.okB (reqM id r) = true ∧ (Psp.encM (reqM id r)).length ≤ 50000 := by
  have hR : Psp.okR r = true ∧ (Psp.encR r).length ≤ 60 := ⟨valid_okR hv hcl, by have := Psp.lenR (valid_okR hv hcl); omega⟩
  have b : Psp.okL Psp.okR (reqM id r).b = true ∧ (Psp.encL Psp.encR (reqM id r).b).length ≤ 10000 := by
    have h := encL_le (e := Psp.encR) (l := [r]) (n := 1) (k := 60) (by simp) (by omega) fun x hx => by rw [List.mem_singleton.1 hx]; exact hR.2
    exact ⟨okL_of (by simp [reqM]) (fun x hx => by rw [show x = r from List.mem_singleton.1 hx]; exact hR.1), by show (Psp.encL Psp.encR [r]).length ≤ _; omega⟩
  refine okB_small (m := reqM id r) ?_ ?_ ?_ ?_ ?_ ?_ b (nil_sz _ _) (nil_sz _ _) (nil_sz _ _)
  · show (0 : Int) ≤ 1 ∧ (1 : Int) < 1000; omega
  · show 0 ≤ 100 + id ∧ 100 + id < 1000; omega
  · show (0 : Int) ≤ 0 ∧ (0 : Int) < 1000; omega
  · show (0 : Int) ≤ 0 ∧ (0 : Int) < 1000; omega
  · show (0 : Int) ≤ 0 ∧ (0 : Int) < 1000; omega
  · show (0 : Int) ≤ 0 ∧ (0 : Int) < 1000; omega
/-- A message that is small is sealed. -/
theorem msgS_small {K : List Key} {m : Psp.Msg} (hok : Psp.okB m = true) (hl : (Psp.encM m).length ≤ 50000) (hK : K.length < 1000000) : okS K m = true := by
  have hs := sealed_seal (K := K) hok
  have hsm : sealM K m = sealN K (kM m) := by unfold sealM; rw [if_pos hok]
  rw [hsm] at hs
  have hb := sealed_bd hs
  have hkl := sealK_len K m
  have hN : Psp.okN (sealN K (kM m)) = true := okN_small (by omega) (by omega)
  have hE : okE (sealN K (kM m)) (Psp.encM m) = true := by
    unfold okE
    have := Psp.lenN hN
    rw [hN, Bool.true_and, decide_eq_true_eq]
    omega
  unfold okS
  rw [hok, hE]
  rfl
end Go.Proofs.YtipmjleohadoeaaGreat
