/- A request that is sent again: plain words of ClientAgain; a list that stays (Fst); Out of a client with its notary. -/
import Derived.Test.YtipmjleohadoeaaGreatClwSa
import Derived.Test.YtipmjleohadoeaaGreatCl8Sa
import Derived.Test.YtipmjleohadoeaaGreatJ31Sa
namespace Go.Proofs.YtipmjleohadoeaaGreat
open Go.RowKit
set_option linter.unusedVariables false
set_option linter.unusedSimpArgs false

/-- Sends that lie off a client's blocks. -/
structure Fst (W : World) (U : Nat → Prop) (bm : Nat) (v : Value) (L : List SendV) : Prop where
  ex : ∃ V : Nat → Prop, Outs W V v L ∧ ∀ b, V b → ¬ U b ∧ b ≠ bm ∧ b < W.heap.size
theorem Fst.rds {W : World} {U : Nat → Prop} {bm : Nat} {v : Value} {L : List SendV} (h : Fst W U bm v L) : RdS W v L := by obtain ⟨V, h1, _⟩ := h.ex; exact h1.rds
theorem Fst.below {W W' : World} {U : Nat → Prop} {bm : Nat} {v : Value} {L : List SendV} (h : Fst W U bm v L) (hb : Below W.heap.size W W') : Fst W' U bm v L := by
  obtain ⟨V, h1, h2⟩ := h.ex
  exact ⟨V, h1.keep fun b hb' _ _ => ⟨hb.block b (h2 b hb').2.2, hb'⟩, fun b hb' => ⟨(h2 b hb').1, (h2 b hb').2.1, Nat.lt_of_lt_of_le (h2 b hb').2.2 hb.size⟩⟩
theorem Fst.seal {W W' : World} {U U' : Nat → Prop} {bm : Nat} {v : Value} {L : List SendV} (h : Fst W U bm v L) (hf : Fp (fun b => U b ∨ b = bm) W W') (hS : ∀ b, U' b → U b ∨ W.heap.size ≤ b) : Fst W' U' bm v L := by
  obtain ⟨V, h1, h2⟩ := h.ex
  refine ⟨V, h1.keep fun b hb' _ _ => ⟨hf.block b (h2 b hb').2.2 ?_, hb'⟩, fun b hb' => ⟨fun hu => ?_, (h2 b hb').2.1, Nat.lt_of_lt_of_le (h2 b hb').2.2 hf.size⟩⟩
  · rintro (hh | hh)
    · exact (h2 b hb').1 hh
    · exact (h2 b hb').2.1 hh
  · rcases hS b hu with hh | hh
    · exact (h2 b hb').1 hh
    · have := (h2 b hb').2.2; omega
theorem Cn.lt {W : World} {U : Nat → Prop} {g bm k ct : Nat} {K : List Key} {c : Cf} {id : Int} {s : CS} (h : Cn W U g bm K k ct c id s) : ∀ b, U b → b < W.heap.size := h.cm.lt
/-- What went out since the last time, by a client with its notary. -/
theorem out_cn (U : Nat → Prop) (g bm k ct : Nat) (K : List Key) (c : Cf) (id : Int) (s : CS) (w : World) (h : Cn w U g bm K k ct c id s) :
    Calls Tryz.prog 22 #[.pointer (some ⟨k, 0, none⟩)] w fun e w' => ∃ (A : Option Addr) (cp : Nat) (L : List SendV) (U' : Nat → Prop), e = .returned (.slice A s.out.length cp) ∧ L.map SendV.s = s.out ∧ Cn w' U' g bm K k ct c id { s with out := [] } ∧ (∀ b, U' b → U b ∨ w.heap.size ≤ b) ∧ Fp (fun b => U b ∨ b = bm) w w' ∧ Fst w' U' bm (.slice A s.out.length cp) L := by
  refine (out_m U k ct g c id s w h.cm).mono ?_
  rintro e w' ⟨v, L, rfl, hL, hO, hC, hF⟩
  have hlen : L.length = s.out.length := by rw [← hL, List.length_map]
  obtain ⟨A, cp, rfl, _, _, _⟩ := own_slice hO.own
  rw [hlen] at hO hC ⊢
  have hk1 : ¬ g = k := fun he => h.sep.1 (he ▸ h.cm.uk)
  have hk2 : ¬ bm = k := fun he => h.sep.2 (he ▸ h.cm.uk)
  exact ⟨A, cp, L, _, rfl, hL, ⟨h.nt.fp hF hk1 hk2, hC, fun hh => h.sep.1 hh.1, fun hh => h.sep.2 hh.1⟩, fun b hb => .inl hb.1, hF.mono fun b _ hb => .inl (hb ▸ h.cm.uk), ⟨_, hO, fun b hb => ⟨fun hh => hh.2 hb.2, fun he => h.sep.2 (he ▸ hb.1), Nat.lt_of_lt_of_le (h.cm.lt b hb.1) hF.size⟩⟩⟩
/-! ### The plain law -/
abbrev agC (f re : Int) : Cf := ⟨f, 2, 2, 4, 64, 8, 8, 8, 1, 2, 12, 8, 6, 2, re⟩
theorem ag_ok {f re : Int} (hf : 1 ≤ f ∧ f ≤ 4) (hr : 1 ≤ re ∧ re ≤ 64) : (agC f re).ok = true := by
  unfold Cf.ok
  rw [(Psp.win_iff (agC f re).f 1 4).2 hf, (Psp.win_iff (agC f re).re 1 64).2 hr]
  rfl
def agR : Psp.Req := ⟨0, 1, 5, 0, 0, 1⟩
def agK1 : List Key := [kR ⟨0, 1, 5, 0, 0, 0⟩]
def agK : List Key := sealK agK1 (reqM 0 agR)
def agS (i : Int) : CS := ⟨1 + i, true, [agR], 1, [], [], []⟩
def agB : List UInt8 := envB agK1 (reqM 0 agR)
def agO (f : Int) : List (Int × List UInt8) := sendsTo (Psp.nodes f).toNat agB
theorem ag_okB : Psp.okB (reqM 0 agR) = true ∧ (Psp.encM (reqM 0 agR)).length ≤ 50000 := req_ok (cl := 2) ⟨by decide, by decide⟩ (by decide) (by decide)
theorem seal_again (K : List Key) (k : Key) : sealL (sealL K k) k = sealL K k ∧ sealN (sealL K k) k = sealN K k := by
  unfold sealL sealN
  by_cases h : k ∈ K
  · rw [if_pos h]; exact ⟨if_pos h, rfl⟩
  · rw [if_neg h]
    have h2 : k ∈ K ++ [k] := List.mem_append_right _ List.mem_cons_self
    rw [if_pos h2, if_pos h2, if_neg h, List.idxOf_append, if_neg h]
    exact ⟨rfl, by simp⟩
theorem sealK_again (K : List Key) (m : Psp.Msg) : sealK (sealK K m) m = sealK K m := by
  unfold sealK
  by_cases h : Psp.okB m = true
  · rw [if_pos h, if_pos h]; exact (seal_again K (kM m)).1
  · rw [if_neg h, if_neg h]
theorem env_again {K : List Key} {m : Psp.Msg} (h : Psp.okB m = true) : envB (sealK K m) m = envB K m := by
  unfold envB sealK
  rw [if_pos h, (seal_again K (kM m)).2]
theorem ag_len : agK.length ≤ 2 := by
  have := sealK_len agK1 (reqM 0 agR)
  have e : agK1.length = 1 := rfl
  show (sealK agK1 (reqM 0 agR)).length ≤ 2
  omega
theorem ag_ok1 : okS agK1 (reqM 0 agR) = true := msgS_small ag_okB.1 ag_okB.2 (by decide)
theorem ag_ok2 : okS agK (reqM 0 agR) = true := msgS_small ag_okB.1 ag_okB.2 (by have := ag_len; omega)
theorem ag_env : envB agK (reqM 0 agR) = agB := env_again ag_okB.1
theorem ag_seal1 : sealK agK1 (reqM 0 agR) = agK := rfl
theorem ag_seal2 : sealK agK (reqM 0 agR) = agK := sealK_again _ _
set_option maxRecDepth 100000 in
theorem ag_ne : (Psp.encM (reqM 0 agR)).length ≠ (kR ⟨0, 1, 5, 0, 0, 0⟩).2.length := by
  have e1 : (Psp.encM (reqM 0 agR)).length = 16 := by kernel_rfl
  have e2 : (kR ⟨0, 1, 5, 0, 0, 0⟩).2.length = 6 := by kernel_rfl
  rw [e1, e2]; decide
theorem ag_two : agK.length = 2 := by
  have h : kM (reqM 0 agR) ∉ agK1 := fun h => by
    have h1 := congrArg (fun k : Key => k.2.length) (List.mem_singleton.1 h)
    exact ag_ne h1
  unfold agK sealK sealL
  rw [if_pos ag_okB.1, if_neg h]
  rfl
def agS1 : CS := ⟨1, false, [], 0, [], [], []⟩
theorem ag_tick0 (c : Cf) : tickS c 0 [] cs0 = (agS1, []) := rfl
theorem ag_valid : Psp.valid (bareQ 0 agS1 5 0 0) 2 = true := by decide
theorem ag_issue (f re : Int) : sendS (agC f re) 0 (sealL [] (kR (bareQ 0 agS1 5 0 0))) { agS1 with issued := agS1.issued ++ [agR], waits := true, at_ := agS1.now, ans := [] } = ({ agS 0 with out := agO f }, agK) := by
  have e1 : sealL [] (kR (bareQ 0 agS1 5 0 0)) = agK1 := rfl
  have e2 : ({ agS1 with issued := agS1.issued ++ [agR], waits := true, at_ := agS1.now, ans := [] } : CS) = agS 0 := rfl
  rw [e1, e2]
  unfold sendS
  have e3 : (agS 0).last = agR := rfl
  rw [e3, if_pos ag_ok1, ag_seal1]
  rfl
theorem ag_tick (f re : Int) (i : Nat) (hi : i < 1000) : tickS (agC f re) 0 agK (agS (i : Int)) = (if ((i : Int) + 1) % re = 0 then { agS ((i : Int) + 1) with out := agO f } else agS ((i : Int) + 1), agK) := by
  unfold tickS
  rw [if_pos (by show 1 + (i : Int) < 1048576; omega)]
  have e1 : (agS (i : Int)).now + 1 - (agS (i : Int)).at_ = (i : Int) + 1 := by show 1 + (i : Int) + 1 - 1 = _; omega
  have e2 : (agC f re).re = re := rfl
  have e3 : ({ agS (i : Int) with now := (agS (i : Int)).now + 1 } : CS) = agS ((i : Int) + 1) := by
    show (⟨1 + (i : Int) + 1, true, [agR], 1, [], [], []⟩ : CS) = ⟨1 + ((i : Int) + 1), true, [agR], 1, [], [], []⟩
    rw [Int.add_assoc]
  rw [e1, e2, e3]
  by_cases h : ((i : Int) + 1) % re = 0
  · rw [if_pos ⟨rfl, h⟩, if_pos h]
    unfold sendS
    have e4 : (agS ((i : Int) + 1)).last = agR := rfl
    rw [e4, if_pos ag_ok2, ag_seal2, ag_env]
    rfl
  · rw [if_neg (fun hh => h hh.2), if_neg h]
end Go.Proofs.YtipmjleohadoeaaGreat
