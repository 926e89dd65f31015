/- Two.Votes: a quorum's votes. Printed by gen_vts.py. What has been sealed: keys and their numbers, in plain words. Package reqs: Body, Make, Sealed; the reference's ReqBody. -/
import Derived.Test.YtadpkjgjciodnaaGreatSdVi
import Derived.Test.YtadpkjgjciodnaaGreatJ24Vi
import Derived.Test.YtadpkjgjciodnaaGreatGgVi
section
namespace Go.Proofs.YtadpkjgjciodnaaGreat
open Go.RowKit
set_option linter.unusedVariables false
set_option linter.unusedSimpArgs false

/-- The i-th voter, where those from s on are others. -/
def kI (f s : Int) (i : Nat) : Int := if s ≤ (i : Int) then (i : Int) + Psp.nodes f - Psp.quorum f else (i : Int)
/-- The first votes, and what has been sealed. -/
def vts (f s : Int) (M : Int → Psp.Msg) (K : List Key) : Nat → List Psp.Vote × List Key
  | 0 => ([], K)
  | i + 1 => ((vts f s M K i).1 ++ [⟨kI f s i, sealM (vts f s M K i).2 (M (kI f s i))⟩], sealK (vts f s M K i).2 (M (kI f s i)))
theorem vts_len (f s : Int) (M : Int → Psp.Msg) (K : List Key) : ∀ i, (vts f s M K i).1.length = i
  | 0 => rfl
  | i + 1 => by simp [vts, vts_len f s M K i]
theorem sealK_len (K : List Key) (m : Psp.Msg) : (sealK K m).length ≤ K.length + 1 := by
  unfold sealK sealL
  split
  · split
    · omega
    · simp
  · omega
theorem vts_keys (f s : Int) (M : Int → Psp.Msg) (K : List Key) : ∀ i, (vts f s M K i).2.length ≤ K.length + i
  | 0 => Nat.le_refl _
  | i + 1 => by
    have h1 := vts_keys f s M K i
    have h2 := sealK_len (vts f s M K i).2 (M (kI f s i))
    show (sealK _ _).length ≤ _
    omega

/-- What the loop keeps. -/
structure Vi (w0 wr : World) (S : Nat → Prop) (g bm h : Nat) (B : Nat) (K : List Key) (l : List Psp.Vote) (out : Value) (S' : Nat → Prop) : Prop where
  tw : Tw wr S' g bm h K
  new : ∀ b, S' b → S b ∨ B ≤ b
  own : wr.ownsRow B 54 2 out l.length (l.flatMap vt)
  sep : ∀ b, out.ownBlock = some b → ¬ S' b ∧ b ≠ g ∧ b ≠ bm
  fp : Fp (fun b => S b ∨ b = bm) w0 wr

end Go.Proofs.YtadpkjgjciodnaaGreat
end
section
namespace Go.Proofs.YtadpkjgjciodnaaGreat
open Go.RowKit
set_option linter.unusedVariables false
set_option linter.unusedSimpArgs false

theorem chk_iff {K : List Key} {k : Key} {s : Int} : chkB K k s = true ↔ k ∈ K ∧ num K k = s := by unfold chkB; simp
theorem idx_app {K : List Key} {k : Key} (x : List Key) (h : k ∈ K) : List.idxOf k (K ++ x) = List.idxOf k K := by
  rw [List.idxOf_append, if_pos h]
theorem idx_new {K : List Key} {k : Key} (h : k ∉ K) : List.idxOf k (K ++ [k]) = K.length := by
  rw [List.idxOf_append, if_neg h]
  simp
theorem chk_seal (K : List Key) (k : Key) : chkB (sealL K k) k (sealN K k) = true := by
  rw [chk_iff]
  by_cases h : k ∈ K
  · unfold sealL sealN num
    simp only [if_pos h, and_true]
    exact h
  · have hm : k ∈ K ++ [k] := by simp
    unfold sealL sealN num
    simp only [if_neg h, if_pos hm, idx_new h, and_true]
    exact hm
theorem chk_keep {K : List Key} {k : Key} {s : Int} (h : chkB K k s = true) (k' : Key) : chkB (sealL K k') k s = true := by
  rw [chk_iff] at h ⊢
  obtain ⟨h1, h2⟩ := h
  by_cases hk : k' ∈ K
  · unfold sealL
    rw [if_pos hk]
    exact ⟨h1, h2⟩
  · have hm : k ∈ K ++ [k'] := List.mem_append_left _ h1
    unfold sealL
    rw [if_neg hk]
    refine ⟨hm, ?_⟩
    rw [← h2]
    unfold num
    rw [if_pos hm, if_pos h1, idx_app _ h1]
theorem num_at {K : List Key} {k : Key} (h : k ∈ K) : ∃ j : Nat, num K k = (j : Int) + 1 ∧ K[j]? = some k := by
  unfold num
  rw [if_pos h]
  refine ⟨_, rfl, ?_⟩
  have hl : K.idxOf k < K.length := List.idxOf_lt_length_of_mem h
  rw [List.getElem?_eq_getElem hl, List.getElem_idxOf]
theorem chk_inj {K : List Key} {k k' : Key} {s : Int} (h : chkB K k s = true) (h' : chkB K k' s = true) : k = k' := by
  rw [chk_iff] at h h'
  obtain ⟨j, e1, e2⟩ := num_at h.1
  obtain ⟨j', e1', e2'⟩ := num_at h'.1
  have : j = j' := by have := h.2; have := h'.2; omega
  subst this
  rw [e2] at e2'
  injection e2'
theorem chk_num {K : List Key} {k : Key} {s s' : Int} (h : chkB K k s = true) (h' : chkB K k s' = true) : s = s' := by
  rw [chk_iff] at h h'
  rw [← h.2, ← h'.2]
theorem chk_bd {K : List Key} {k : Key} {s : Int} (h : chkB K k s = true) : 1 ≤ s ∧ s ≤ (K.length : Int) := by
  rw [chk_iff] at h
  obtain ⟨j, e1, e2⟩ := num_at h.1
  have := (List.getElem?_eq_some_iff.1 e2).1
  have := h.2
  omega
/-- What has been sealed stays sealed. -/
def Sub (K K' : List Key) : Prop := ∀ k s, chkB K k s = true → chkB K' k s = true
theorem Sub.refl (K : List Key) : Sub K K := fun _ _ h => h
theorem Sub.trans {K K' K'' : List Key} (h : Sub K K') (g : Sub K' K'') : Sub K K'' := fun k s h' => g k s (h k s h')
theorem sub_seal (K : List Key) (k : Key) : Sub K (sealL K k) := fun _ _ h => chk_keep h k
theorem sub_sealK (K : List Key) (m : Psp.Msg) : Sub K (sealK K m) := by
  unfold sealK
  split
  · exact sub_seal _ _
  · exact Sub.refl _
theorem sealed_seal {K : List Key} {m : Psp.Msg} (h : Psp.okB m = true) : sealedB (sealK K m) m (sealM K m) = true := by
  unfold sealedB sealK sealM
  rw [if_pos h, if_pos h, h, chk_seal]
  rfl
theorem sealed_sub {K K' : List Key} {m : Psp.Msg} {s : Int} (h : sealedB K m s = true) (g : Sub K K') : sealedB K' m s = true := by
  unfold sealedB at h ⊢
  rw [Bool.and_eq_true] at h ⊢
  exact ⟨h.1, g _ _ h.2⟩
/-- Two messages have not one seal. -/
theorem sealed_inj {K : List Key} {m m' : Psp.Msg} {s : Int} (h : sealedB K m s = true) (h' : sealedB K m' s = true) : m = m' := by
  unfold sealedB at h h'
  rw [Bool.and_eq_true] at h h'
  have e := chk_inj h.2 h'.2
  unfold kM at e
  injection e with _ e
  exact Psp.encM_inj h.1 h'.1 e
theorem sealed_num {K : List Key} {m : Psp.Msg} {s s' : Int} (h : sealedB K m s = true) (h' : sealedB K m s' = true) : s = s' := by
  unfold sealedB at h h'
  rw [Bool.and_eq_true] at h h'
  exact chk_num h.2 h'.2
theorem sealed_bd {K : List Key} {m : Psp.Msg} {s : Int} (h : sealedB K m s = true) : 1 ≤ s ∧ s ≤ (K.length : Int) := by
  unfold sealedB at h
  rw [Bool.and_eq_true] at h
  exact chk_bd h.2
theorem vts_sub (f s : Int) (M : Int → Psp.Msg) (K : List Key) : ∀ i, Sub K (vts f s M K i).2
  | 0 => Sub.refl _
  | i + 1 => (vts_sub f s M K i).trans (sub_sealK _ _)
theorem vts_n (f s : Int) (M : Int → Psp.Msg) (K : List Key) : ∀ i, (vts f s M K i).1.map (·.n) = (List.range i).map (kI f s)
  | 0 => rfl
  | i + 1 => by
    show ((vts f s M K i).1 ++ [_]).map _ = _
    rw [List.map_append, vts_n f s M K i, List.range_succ, List.map_append]
    rfl
end Go.Proofs.YtadpkjgjciodnaaGreat
end
section
namespace Go.Proofs.YtadpkjgjciodnaaGreat
open Go.RowKit
set_option linter.unusedVariables false

/-- A request without its seal. -/
def bare (r : Psp.Req) : Psp.Req := { r with s := 0 }
/-- What a client seals, as a key. -/
def kR (r : Psp.Req) : Key := (100 + r.c, res (Psp.encR (bare r)) (Psp.okR (bare r)))

set_option maxRecDepth 100000 in
theorem Bytes.from_ {e : List UInt8} {ok : Bool} {w w1 w' : World} {en : Ending} (h : Bytes e ok w1 en w') (hb : Below w.heap.size w w1) : Bytes e ok w en w' := by
  obtain ⟨v, h1, h2, h3⟩ := h
  exact ⟨v, h1, own_more h2 hb.size, hb.trans (h3.mono hb.size)⟩
set_option maxRecDepth 100000 in
theorem body_any (r : Psp.Req) (w : World) : Calls Tryz.prog 141 #[.agg #[.int .i64 r.c, .int .i64 r.t, .int .i64 r.k, .int .i64 r.y, .int .i64 r.v, .int .i64 r.s]] w (Bytes (Psp.encR (bare r)) (Psp.okR (bare r)) w) := by
  have hbl := alloc_below w (.cells #[.int .i64 r.c, .int .i64 r.t, .int .i64 r.k, .int .i64 r.y, .int .i64 r.v, .int .i64 0] 58)
  go_enter Tryz.func141, Tryz.ntmps141
  go_wp2_with fail
  refine (pk_req r.c r.t r.k r.y r.v 0 _).mono ?_
  intro e w1 h
  have H := Lib.hid (h.from_ hbl)
  obtain ⟨A, c, rfl, _, _⟩ := h.open_
  clear h
  go_wp2_with fail
  go_ret2
  exact H.out
set_option maxRecDepth 100000 in
theorem rbody_any (r : Psp.Req) (w : World) : Calls Tryz.prog 117 #[.agg #[.int .i64 r.c, .int .i64 r.t, .int .i64 r.k, .int .i64 r.y, .int .i64 r.v, .int .i64 r.s]] w (Bytes (Psp.encR (bare r)) (Psp.okR (bare r)) w) := by
  have hbl := alloc_below w (.cells #[.int .i64 r.c, .int .i64 r.t, .int .i64 r.k, .int .i64 r.y, .int .i64 r.v, .int .i64 0] 58)
  go_enter Tryz.func117, Tryz.ntmps117
  go_wp2_with fail
  refine (rf_req r.c r.t r.k r.y r.v 0 _).mono ?_
  intro e w1 h
  have H := Lib.hid (h.from_ hbl)
  obtain ⟨A, c, rfl, _, _⟩ := h.open_
  clear h
  go_wp2_with fail
  go_ret2
  exact H.out

set_option maxRecDepth 100000 in
set_option maxHeartbeats 1000000 in
theorem sealed_any (r : Psp.Req) (clients : Int) (g bm : Nat) (l : List Key) (w : World) (hN : Nt w g bm l) : 
    Calls Tryz.prog 102 #[.agg #[.int .i64 r.c, .int .i64 r.t, .int .i64 r.k, .int .i64 r.y, .int .i64 r.v, .int .i64 r.s], .int .i64 clients, .pointer (some ⟨g, 0, none⟩)] w fun e w' =>
      e = .returned (.bool (Psp.valid r clients && (Psp.okR (bare r) && (decide (kR r ∈ l) && decide (num l (kR r) = r.s))))) ∧ Below w.heap.size w w' := by
  have hbl0 := (alloc_below w (.cells #[.int .i64 r.c, .int .i64 r.t, .int .i64 r.k, .int .i64 r.y, .int .i64 r.v, .int .i64 r.s] 58))
  have HB0 := Lib.hid hbl0
  have HN := Lib.hid hN
  have HC0 := Lib.hid (heap_alloc_new w (.cells #[.int .i64 r.c, .int .i64 r.t, .int .i64 r.k, .int .i64 r.y, .int .i64 r.v, .int .i64 r.s] 58))
  clear hN hbl0
  go_enter Tryz.func102, Tryz.ntmps102
  go_wp2_with fail
  refine (valid_any r clients _).mono ?_
  rintro e w1 ⟨rfl, hb⟩
  have HB1 := Lib.hid (Below.then HB0.out hb HB0.out.size)
  have HC1 := Lib.hid ((hb.block w.heap.size (by simp)).trans HC0.out)
  clear hb HB0 HC0
  by_cases hv : Psp.valid r clients = true
  case' neg =>
    have hv' : Psp.valid r clients = false := by simpa using hv
    rw [hv']
    go_wp2_with fail
    go_ret
    exact ⟨by rw [hv']; rfl, HB1.out⟩
  case' pos =>
    rw [hv]
    obtain ⟨x0, x1, x2, x3, x4, x5, _⟩ := rst_cells HC1.out
    go_wp2_with fail
    refine (body_any r w1).mono ?_
    intro e w2 h
    obtain ⟨ob, hob⟩ : ∃ ob, ob = Psp.okR (bare r) := ⟨_, rfl⟩
    obtain ⟨bb, hbb⟩ : ∃ bb, bb = res (Psp.encR (bare r)) (Psp.okR (bare r)) := ⟨_, rfl⟩
    obtain ⟨A, c, rfl, hp, hb⟩ := Bytes.rd h hbb.symm hob.symm
    have hkr : kR r = (100 + r.c, bb) := by rw [hbb]; rfl
    have hlb : bb.length ≤ 36 := by rw [hbb]; exact res_len (bare r)
    have HP := Lib.hid hp
    have HB2 := Lib.hid (Below.then HB1.out hb HB1.out.size)
    have hw1 : w.heap.size < w1.heap.size := (Array.getElem?_eq_some_iff.1 HC1.out).1
    have HC2 := Lib.hid ((hb.block w.heap.size hw1).trans HC1.out)
    have hc : ob = true → r.c < 1099511627776 ∧ 0 ≤ r.c := by
      intro h1
      rw [hob] at h1
      unfold Psp.okR at h1
      rw [Bool.and_eq_true, Psp.okN_iff] at h1
      exact ⟨h1.1.2, h1.1.1⟩
    have Hfin := Lib.hid (show (Psp.valid r clients && (Psp.okR (bare r) && (decide (kR r ∈ l) && decide (num l (kR r) = r.s)))) = (true && (ob && (decide ((100 + r.c, bb) ∈ l) && decide (num l (100 + r.c, bb) = r.s)))) by rw [hv, hkr, ← hob])
    clear h hp hb HB1 HC1 x0 x1 x2 x3 x4 x5 hw1 hbb hob hkr
    cases ob
    case' false =>
      clear hc
      go_wp2_with fail
      go_ret
      exact ⟨by rw [Hfin.out]; rfl, HB2.out⟩
    case' true =>
      obtain ⟨c1, c2⟩ := hc rfl
      have HK : Hid (KOk (100 + r.c, bb)) := Lib.hid ⟨⟨by show -9223372036854775808 ≤ 100 + r.c; omega, by show 100 + r.c ≤ 9223372036854775807; omega⟩, by show bb.length ≤ _; unfold maxLen; omega⟩
      obtain ⟨x0, x1, x2, x3, x4, x5, _⟩ := rst_cells HC2.out
      clear hc
      go_wp2_with fail
      refine (nt_check g bm l (100 + r.c) bb r.s _ w2 _ (HN.out.below HB2.out) HK.out HP.out).mono ?_
      rintro e w3 ⟨rfl, q, rfl⟩
      go_wp2_with fail
      go_ret
      exact ⟨by rw [Hfin.out]; rfl, below_drewN HB2.out q⟩
end Go.Proofs.YtadpkjgjciodnaaGreat
end
