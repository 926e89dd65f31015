/- What is sealed, and small messages, in plain words. Printed by gen_sml.py out of Ky, Chp, Crp: never import it beside these. Package reqs: Body, Make, Sealed; the reference's ReqBody. -/
import Derived.Test.YtipmjleohadoeaaGreatJ21Sa
import Derived.Test.YtipmjleohadoeaaGreatJ20Sa
import Derived.Test.YtipmjleohadoeaaGreatGgSa
section
namespace Go.Proofs.YtipmjleohadoeaaGreat
open Go.RowKit
set_option linter.unusedVariables false
set_option linter.unusedSimpArgs false

theorem chk_iff {K : List Key} {k : Key} {s : Int} : chkB K k s = true ↔ k ∈ K ∧ num K k = s := by unfold chkB; simp
theorem idx_new {K : List Key} {k : Key} (h : k ∉ K) : List.idxOf k (K ++ [k]) = K.length := by
  rw [List.idxOf_append, if_neg h]
  simp
theorem chk_seal (K : List Key) (k : Key) : chkB (sealL K k) k (sealN K k) = true := by
  rw [chk_iff]
  by_cases h : k ∈ K
  · unfold sealL sealN num
    simp only [if_pos h, and_true]
    exact h
  · have hm : k ∈ K ++ [k] := by simp
    unfold sealL sealN num
    simp only [if_neg h, if_pos hm, idx_new h, and_true]
    exact hm
theorem num_at {K : List Key} {k : Key} (h : k ∈ K) : ∃ j : Nat, num K k = (j : Int) + 1 ∧ K[j]? = some k := by
  unfold num
  rw [if_pos h]
  refine ⟨_, rfl, ?_⟩
  have hl : K.idxOf k < K.length := List.idxOf_lt_length_of_mem h
  rw [List.getElem?_eq_getElem hl, List.getElem_idxOf]
theorem chk_bd {K : List Key} {k : Key} {s : Int} (h : chkB K k s = true) : 1 ≤ s ∧ s ≤ (K.length : Int) := by
  rw [chk_iff] at h
  obtain ⟨j, e1, e2⟩ := num_at h.1
  have := (List.getElem?_eq_some_iff.1 e2).1
  have := h.2
  omega
theorem sealed_seal {K : List Key} {m : Psp.Msg} (h : Psp.okB m = true) : sealedB (sealK K m) m (sealM K m) = true := by
  unfold sealedB sealK sealM
  rw [if_pos h, if_pos h, h, chk_seal]
  rfl
theorem sealed_bd {K : List Key} {m : Psp.Msg} {s : Int} (h : sealedB K m s = true) : 1 ≤ s ∧ s ≤ (K.length : Int) := by
  unfold sealedB at h
  rw [Bool.and_eq_true] at h
  exact chk_bd h.2
theorem sealK_len (K : List Key) (m : Psp.Msg) : (sealK K m).length ≤ K.length + 1 := by
  unfold sealK sealL
  split
  · split
    · omega
    · simp
  · omega
theorem may_of {f : Int} (hf : 1 ≤ f ∧ f ≤ 4) : Psp.may f = true := by unfold Psp.may; simp; omega
theorem okN_small {n : Int} (h : 0 ≤ n) (h1 : n < 1099511627776) : Psp.okN n = true := (Psp.okN_iff _).2 ⟨h, h1⟩
theorem okS_small {n : Int} (h : 0 ≤ n) (h1 : n < 1000) : Psp.okS n = true := (Psp.okS_iff _).2 ⟨by omega, by omega⟩
theorem nodes_is {f : Int} (hf : 1 ≤ f ∧ f ≤ 4) : Psp.nodes f = 3 * f + 1 := by unfold Psp.nodes; rw [if_pos hf]
theorem flat_le {α : Type} (e : α → List UInt8) (k : Nat) : ∀ l : List α, (∀ x ∈ l, (e x).length ≤ k) → (l.flatMap e).length ≤ l.length * k
  | [], _ => by simp
  | x :: l, h => by
    have h1 := h x List.mem_cons_self
    have h2 := flat_le e k l fun y hy => h y (List.mem_cons_of_mem _ hy)
    rw [List.flatMap_cons, List.length_append, List.length_cons, Nat.succ_mul]
    omega
theorem encL_le {α : Type} {e : α → List UInt8} {k n : Nat} {l : List α} (hn : l.length ≤ n) (hn2 : n ≤ 256) (h : ∀ x ∈ l, (e x).length ≤ k) : (Psp.encL e l).length ≤ 6 + n * k := by
  have h1 := flat_le e k l h
  have h2 := Psp.lenN (n := (l.length : Int)) ((Psp.okN_iff _).2 (by omega))
  have h3 := Nat.mul_le_mul_right k hn
  unfold Psp.encL
  rw [List.length_append]
  omega
theorem okL_of {α : Type} {ok : α → Bool} {l : List α} (hn : l.length ≤ 256) (h : ∀ x ∈ l, ok x = true) : Psp.okL ok l = true := by
  unfold Psp.okL
  rw [decide_eq_true hn, Bool.true_and, List.all_eq_true]
  exact h
theorem okB_small {m : Psp.Msg} (h1 : 0 ≤ m.k ∧ m.k < 1000) (h2 : 0 ≤ m.f ∧ m.f < 1000) (h3 : 0 ≤ m.v ∧ m.v < 1000) (h4 : 0 ≤ m.i ∧ m.i < 1000) (h5 : 0 ≤ m.q ∧ m.q < 1000) (h6 : 0 ≤ m.r ∧ m.r < 1000)
    (b : Psp.okL Psp.okR m.b = true ∧ (Psp.encL Psp.encR m.b).length ≤ 10000) (o : Psp.okL Psp.okV m.o = true ∧ (Psp.encL Psp.encV m.o).length ≤ 10000) (c : Psp.okL Psp.okC m.c = true ∧ (Psp.encL Psp.encC m.c).length ≤ 10000) (p : Psp.okL Psp.okP m.p = true ∧ (Psp.encL Psp.encP m.p).length ≤ 10000) : Psp.okB m = true ∧ (Psp.encM m).length ≤ 50000 := by
  have a1 : Psp.okN m.k = true := okN_small (by omega) (by omega)
  have a2 : Psp.okN m.f = true := okN_small (by omega) (by omega)
  have a3 : Psp.okN m.v = true := okN_small (by omega) (by omega)
  have a4 : Psp.okN m.i = true := okN_small (by omega) (by omega)
  have a5 : Psp.okN m.q = true := okN_small (by omega) (by omega)
  have a6 : Psp.okS m.r = true := okS_small (by omega) (by omega)
  have hlen : (Psp.encM m).length ≤ 50000 := by
    unfold Psp.encM
    simp only [List.length_append]
    have := Psp.lenN a1
    have := Psp.lenN a2
    have := Psp.lenN a3
    have := Psp.lenN a4
    have := Psp.lenN a5
    have := (Psp.encS_len m.r).2
    omega
  refine ⟨?_, hlen⟩
  unfold Psp.okB Psp.okM
  rw [a1, a2, a3, a4, a5, a6, b.1, o.1, c.1, p.1, Bool.and_eq_true, decide_eq_true_eq]
  exact ⟨rfl, by omega⟩
theorem nil_sz {α : Type} (ok : α → Bool) (e : α → List UInt8) : Psp.okL ok [] = true ∧ (Psp.encL e []).length ≤ 10000 := by
  refine ⟨rfl, ?_⟩
  have := encL_le (e := e) (k := 0) (n := 0) (l := []) (Nat.le_refl _) (by omega) (fun x h => by cases h)
  omega
theorem okE_of_okS {K : List Key} {m : Psp.Msg} (h : okS K m = true) : okE (sealN K (kM m)) (Psp.encM m) = true := by
  unfold okS at h
  rw [Bool.and_eq_true] at h
  exact h.2
/-- What a notary has sealed opens. -/
theorem open_sealed {K : List Key} {m : Psp.Msg} {f cl : Int} (hok : Psp.okB m = true) (hl : (Psp.encM m).length ≤ 50000) (hF : Psp.formM m f cl = true) (hK : K.length < 1000000) :
    okS K m = true ∧ openM (Psp.encN (sealN K (kM m)) ++ Psp.encM m) f cl (sealK K m) = some (m, sealN K (kM m)) := by
  have hs := sealed_seal (K := K) hok
  have hsm : sealM K m = sealN K (kM m) := by unfold sealM; rw [if_pos hok]
  rw [hsm] at hs
  have hb := sealed_bd hs
  have hkl := sealK_len K m
  have hN : Psp.okN (sealN K (kM m)) = true := okN_small (by omega) (by omega)
  have hE : okE (sealN K (kM m)) (Psp.encM m) = true := by
    unfold okE
    have := Psp.lenN hN
    rw [hN, Bool.true_and, decide_eq_true_eq]
    omega
  refine ⟨by unfold okS; rw [hok, hE]; rfl, ?_⟩
  have hc : chkB (sealK K m) (kM m) (sealN K (kM m)) = true := by
    unfold sealedB at hs
    rw [Bool.and_eq_true] at hs
    exact hs.2
  rw [open_back hok hE, hF, hc]
  rfl
end Go.Proofs.YtipmjleohadoeaaGreat
end
section
namespace Go.Proofs.YtipmjleohadoeaaGreat
open Go.RowKit
set_option linter.unusedVariables false

/-- A request without its seal. -/
def bare (r : Psp.Req) : Psp.Req := { r with s := 0 }
/-- What a client seals, as a key. -/
def kR (r : Psp.Req) : Key := (100 + r.c, res (Psp.encR (bare r)) (Psp.okR (bare r)))

set_option maxRecDepth 100000 in
theorem Bytes.from_ {e : List UInt8} {ok : Bool} {w w1 w' : World} {en : Ending} (h : Bytes e ok w1 en w') (hb : Below w.heap.size w w1) : Bytes e ok w en w' := by
  obtain ⟨v, h1, h2, h3⟩ := h
  exact ⟨v, h1, own_more h2 hb.size, hb.trans (h3.mono hb.size)⟩
set_option maxRecDepth 100000 in
theorem body_any (r : Psp.Req) (w : World) : Calls Tryz.prog 55 #[.agg #[.int .i64 r.c, .int .i64 r.t, .int .i64 r.k, .int .i64 r.y, .int .i64 r.v, .int .i64 r.s]] w (Bytes (Psp.encR (bare r)) (Psp.okR (bare r)) w) := by
  have hbl := alloc_below w (.cells #[.int .i64 r.c, .int .i64 r.t, .int .i64 r.k, .int .i64 r.y, .int .i64 r.v, .int .i64 0] 42)
  go_enter Tryz.func55, Tryz.ntmps55
  go_wp2_with fail
  refine (pk_req r.c r.t r.k r.y r.v 0 _).mono ?_
  intro e w1 h
  have H := Lib.hid (h.from_ hbl)
  obtain ⟨A, c, rfl, _, _⟩ := h.open_
  clear h
  go_wp2_with fail
  go_ret2
  exact H.out
end Go.Proofs.YtipmjleohadoeaaGreat
end
