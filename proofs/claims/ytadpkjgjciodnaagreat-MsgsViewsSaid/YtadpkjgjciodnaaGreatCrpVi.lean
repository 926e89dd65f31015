/- Certificates and view changes that are made so, in plain words: they are right; turned they are not. -/
import Derived.Test.YtadpkjgjciodnaaGreatTcVi
import Derived.Test.YtadpkjgjciodnaaGreatV7Vi
import Derived.Test.YtadpkjgjciodnaaGreatCtVi
import Derived.Test.YtadpkjgjciodnaaGreatJ40Vi
import Derived.Test.YtadpkjgjciodnaaGreatJ24Vi
namespace Go.Proofs.YtadpkjgjciodnaaGreat
open Go.RowKit
set_option linter.unusedVariables false
set_option linter.unusedSimpArgs false

/-! ### Requests -/
/-- A request's numbers are in their ranges. -/
def CutR (cl : Int) (r : Psp.Req) : Prop := (0 ≤ r.c ∧ r.c < cl) ∧ (1 ≤ r.t ∧ r.t ≤ 50) ∧ r.k = 1 ∧ (0 ≤ r.y ∧ r.y < 64) ∧ 0 ≤ r.v ∧ r.v < 100
theorem cutR_is {cl : Int} (h : 1 ≤ cl) (r : Psp.Req) : CutR cl (Psp.cutR cl r) := by
  have h1 := Psp.within_lo r.c cl
  have h2 := Psp.within_hi r.c cl (by omega)
  have h3 := Psp.within_lo r.t 50
  have h4 := Psp.within_hi r.t 50 (by omega)
  have h5 := Psp.within_lo r.y 64
  have h6 := Psp.within_hi r.y 64 (by omega)
  have h7 := Psp.within_lo r.v 100
  have h8 := Psp.within_hi r.v 100 (by omega)
  exact ⟨⟨h1, h2⟩, ⟨by show 1 ≤ 1 + _; omega, by show 1 + _ ≤ 50; omega⟩, rfl, ⟨h5, h6⟩, h7, h8⟩
theorem okN_small {n : Int} (h : 0 ≤ n) (h1 : n < 1099511627776) : Psp.okN n = true := (Psp.okN_iff _).2 ⟨h, h1⟩
theorem okS_small {n : Int} (h : 0 ≤ n) (h1 : n < 1000) : Psp.okS n = true := (Psp.okS_iff _).2 ⟨by omega, by omega⟩
theorem CutR.bare {cl : Int} {r : Psp.Req} (h : CutR cl r) (hcl : cl ≤ 4) : Psp.okR (bare r) = true := by
  obtain ⟨⟨a1, a2⟩, ⟨b1, b2⟩, c1, ⟨d1, d2⟩, e1, e2⟩ := h
  unfold Psp.okR
  have k1 : Psp.okN (Go.Proofs.YtadpkjgjciodnaaGreat.bare r).c = true := okN_small (show 0 ≤ r.c from a1) (show r.c < _ by omega)
  have k2 : Psp.okN (Go.Proofs.YtadpkjgjciodnaaGreat.bare r).t = true := okN_small (show 0 ≤ r.t by omega) (show r.t < _ by omega)
  have k3 : Psp.okN (Go.Proofs.YtadpkjgjciodnaaGreat.bare r).k = true := okN_small (show 0 ≤ r.k by omega) (show r.k < _ by omega)
  have k4 : Psp.okS (Go.Proofs.YtadpkjgjciodnaaGreat.bare r).y = true := okS_small (show 0 ≤ r.y from d1) (show r.y < _ by omega)
  have k5 : Psp.okS (Go.Proofs.YtadpkjgjciodnaaGreat.bare r).v = true := okS_small (show 0 ≤ r.v from e1) (show r.v < _ by omega)
  have k6 : Psp.okN (Go.Proofs.YtadpkjgjciodnaaGreat.bare r).s = true := okN_small (show (0 : Int) ≤ 0 by omega) (show (0 : Int) < _ by omega)
  rw [k1, k2, k3, k4, k5, k6]
  rfl
/-- A request with its client's seal. -/
def SR (cl : Int) (K : List Key) (r : Psp.Req) : Prop := CutR cl r ∧ chkB K (kR r) r.s = true
theorem SR.sub {cl : Int} {K K' : List Key} {r : Psp.Req} (h : SR cl K r) (g : Sub K K') : SR cl K' r := ⟨h.1, g _ _ h.2⟩
theorem SR.okR {cl : Int} {K : List Key} {r : Psp.Req} (h : SR cl K r) (hcl : cl ≤ 4) (hK : K.length < 1099511627776) : Psp.okR r = true := by
  obtain ⟨⟨⟨a1, a2⟩, ⟨b1, b2⟩, c1, ⟨d1, d2⟩, e1, e2⟩, hs⟩ := h
  have hb := chk_bd hs
  unfold Psp.okR
  rw [okN_small (n := r.c) (by omega) (by omega), okN_small (n := r.t) (by omega) (by omega), okN_small (n := r.k) (by omega) (by omega), okS_small (n := r.y) (by omega) (by omega), okS_small (n := r.v) (by omega) (by omega), okN_small (n := r.s) (by omega) (by omega)]
  rfl
theorem SR.sealed {cl : Int} {K : List Key} {r : Psp.Req} (h : SR cl K r) (hcl : cl ≤ 4) (hK : K.length < 1099511627776) : sealedRB cl K r = true := by
  have hok := h.1.bare hcl
  obtain ⟨⟨⟨a1, a2⟩, ⟨b1, b2⟩, c1, ⟨d1, d2⟩, e1, e2⟩, hs⟩ := h
  have hb := chk_bd hs
  have hv : Psp.valid r cl = true := by
    unfold Psp.valid
    rw [decide_eq_true_eq]
    exact ⟨a1, a2, b1, by omega, by omega, by omega, d1, d2, by omega, by omega, .inl c1⟩
  have h2 := chk_iff.1 hs
  unfold sealedRB
  rw [hv, hok, decide_eq_true h2.1, decide_eq_true h2.2]
  rfl
theorem sub_reqK (K : List Key) (r : Psp.Req) : Sub K (reqK K r) := by
  unfold reqK
  split
  · exact sub_seal _ _
  · exact Sub.refl _
theorem reqsF_sub (K : List Key) (l : List Psp.Req) : ∀ k, k ≤ l.length → Sub K (reqsF K (l.take k)).2
  | 0, _ => Sub.refl _
  | k + 1, h => by
    rw [reqsF_step (List.getElem?_eq_getElem (show k < l.length by omega))]
    exact (reqsF_sub K l k (by omega)).trans (sub_reqK _ _)
theorem reqsF_sr {cl : Int} (hcl : cl ≤ 4) (K : List Key) (l : List Psp.Req) (hl : ∀ r ∈ l, CutR cl r) : ∀ k, k ≤ l.length → ∀ r ∈ (reqsF K (l.take k)).1, SR cl (reqsF K (l.take k)).2 r
  | 0, _, r, hr => by cases hr
  | k + 1, h, r, hr => by
    rw [reqsF_step (List.getElem?_eq_getElem (show k < l.length by omega))] at hr ⊢
    rcases List.mem_append.1 hr with h1 | h1
    · exact (reqsF_sr hcl K l hl k (by omega) r h1).sub (sub_reqK _ _)
    · have hm : l[k]'(by omega) ∈ l := List.getElem_mem (by omega)
      have hc := hl _ hm
      rw [List.mem_singleton.1 h1]
      generalize l[k]'(by omega) = x at hc
      have hok := hc.bare hcl
      refine ⟨hc, ?_⟩
      show chkB (reqK _ x) (kR (reqS _ x)) (reqSn _ x) = true
      have e : ∀ K', kR (reqS K' x) = kR x := fun _ => rfl
      rw [e]
      unfold reqK reqSn
      rw [if_pos hok, if_pos hok]
      exact chk_seal _ _

/-! ### Votes -/
theorem quorum_is {f : Int} (hf : 1 ≤ f ∧ f ≤ 4) : Psp.quorum f = 2 * f + 1 := by unfold Psp.quorum; rw [if_pos hf]
theorem nodes_is {f : Int} (hf : 1 ≤ f ∧ f ≤ 4) : Psp.nodes f = 3 * f + 1 := by unfold Psp.nodes; rw [if_pos hf]
theorem vts_all {f s : Int} (hf : 1 ≤ f ∧ f ≤ 4) {M : Int → Psp.Msg} (hM : ∀ n, 0 ≤ n → n ≤ 12 → Psp.okB (M n) = true) (K : List Key) : ∀ i : Nat, (i : Int) ≤ 2 * f + 1 → ∀ x ∈ (vts f s M K i).1, (0 ≤ x.n ∧ x.n ≤ 12) ∧ sealedB (vts f s M K i).2 (M x.n) x.s = true
  | 0, _, x, hx => by cases hx
  | i + 1, h, x, hx => by
    have hb := kI_bd (s := s) hf (i := i) (by omega)
    rcases List.mem_append.1 (show x ∈ (vts f s M K i).1 ++ [_] from hx) with h1 | h1
    · have h2 := vts_all hf hM K i (by omega) x h1
      exact ⟨h2.1, sealed_sub h2.2 (sub_sealK _ _)⟩
    · rw [List.mem_singleton.1 h1]
      exact ⟨⟨hb.1, by show kI f s i ≤ 12; omega⟩, sealed_seal (hM _ hb.1 (by omega))⟩
theorem rise_of {f s : Int} (hf : 1 ≤ f ∧ f ≤ 4) {l : List Psp.Vote} {q : Nat} (hq : (q : Int) = 2 * f + 1) (hl : l.map (·.n) = (List.range q).map (kI f s)) : Psp.rising (l.map (·.n)) f = true := by
  unfold Psp.rising
  have hlen : (l.map (·.n)).length = q := by rw [hl]; simp
  rw [may_of hf, Bool.true_and, hlen, quorum_is hf, nodes_is hf, decide_eq_true hq, Bool.true_and, hl, List.range_eq_range']
  exact upTo_range hf q 0 (-1) (fun j hj => (kI_bd hf (by omega)).2) (by have := (kI_bd (s := s) hf (i := 0) (by omega)).1; omega) (Or.inr trivial)
theorem upTo_pair : ∀ {N last : Int} {l : List Int}, Psp.upTo N last l = true → (∀ x ∈ l, last < x ∧ x < N) ∧ l.Pairwise (· < ·)
  | _, _, [], _ => ⟨fun x h => (by cases h), List.Pairwise.nil⟩
  | N, last, x :: l, h => by
    unfold Psp.upTo at h
    split at h
    · cases h
    · rename_i hn
      obtain ⟨h1, h2⟩ := upTo_pair h
      refine ⟨fun y hy => ?_, List.pairwise_cons.2 ⟨fun y hy => (h1 y hy).1, h2⟩⟩
      rcases List.mem_cons.1 hy with rfl | hy
      · omega
      · have := h1 y hy; omega
theorem rising_pair {l : List Int} {f : Int} (h : Psp.rising l f = true) : (l.length : Int) = Psp.quorum f ∧ (∀ x ∈ l, 0 ≤ x ∧ x < Psp.nodes f) ∧ l.Pairwise (· < ·) := by
  unfold Psp.rising at h
  simp only [Bool.and_eq_true, decide_eq_true_eq] at h
  obtain ⟨h1, h2⟩ := upTo_pair h.2.2
  exact ⟨h.2.1, fun x hx => by have := h1 x hx; omega, h2⟩

/-! ### A certificate that is made so -/
structure CF (K : List Key) (kind f cl : Int) (a : Psp.Cert) : Prop where
  pl : (0 ≤ a.v ∧ a.v ≤ 12) ∧ (0 ≤ a.i ∧ a.i ≤ f) ∧ (1 ≤ a.q ∧ a.q ≤ 16)
  sb : a.b.length ≤ 3
  rs : ∀ r ∈ a.b, SR cl K r
  up : Psp.rises a.b = true
  ri : Psp.rising (a.o.map (·.n)) f = true
  vs : ∀ x ∈ a.o, (0 ≤ x.n ∧ x.n ≤ 12) ∧ sealedB K (balM kind x.n a) x.s = true
theorem CF.sub {K K' : List Key} {kind f cl : Int} {a : Psp.Cert} (h : CF K kind f cl a) (g : Sub K K') : CF K' kind f cl a :=
  ⟨h.pl, h.sb, fun r hr => (h.rs r hr).sub g, h.up, h.ri, fun x hx => ⟨(h.vs x hx).1, sealed_sub (h.vs x hx).2 g⟩⟩
theorem CF.len {K : List Key} {kind f cl : Int} {a : Psp.Cert} (h : CF K kind f cl a) (hf : 1 ≤ f ∧ f ≤ 4) : (a.o.length : Int) = 2 * f + 1 := by
  have := (rising_pair h.ri).1
  rw [List.length_map, quorum_is hf] at this
  exact this
theorem CF.place {K : List Key} {kind f cl : Int} {a : Psp.Cert} (h : CF K kind f cl a) : Psp.placeB a.v a.i a.q f = true := by
  unfold Psp.placeB
  rw [(Psp.win_iff _ _ _).2 h.pl.1, (Psp.win_iff _ _ _).2 h.pl.2.1, (Psp.win_iff _ _ _).2 h.pl.2.2]
  rfl
theorem CF.voted {K : List Key} {kind f cl : Int} {a : Psp.Cert} (h : CF K kind f cl a) : votedB K kind a f = true := by
  unfold votedB
  rw [h.ri, Bool.true_and, List.all_eq_true]
  exact fun x hx => (h.vs x hx).2
theorem CF.certified {K : List Key} {kind f cl : Int} {a : Psp.Cert} (h : CF K kind f cl a) (hcl : cl ≤ 4) (hK : K.length < 1099511627776) : certifiedB K kind a f cl = true := by
  unfold certifiedB
  rw [h.place, h.voted, right_yes (by have := h.sb; omega) h.up (fun j x hx => (h.rs x (List.mem_of_getElem? hx)).sealed hcl hK)]
  rfl
/-- A vote's seal is another message's. -/
theorem voted_no {K : List Key} {kind f : Int} {d : Psp.Cert} {x : Psp.Vote} {m : Psp.Msg} (hx : x ∈ d.o) (h : sealedB K m x.s = true) (hne : balM kind x.n d ≠ m) : votedB K kind d f = false := by
  unfold votedB
  have : (d.o.all fun v => sealedB K (balM kind v.n d) v.s) = false := List.all_eq_false.2 ⟨x, hx, fun h' => hne (sealed_inj h' h)⟩
  rw [this, Bool.and_false]
theorem CF.other {K : List Key} {kind f cl : Int} {a : Psp.Cert} (h : CF K kind f cl a) (hf : 1 ≤ f ∧ f ≤ 4) {k2 : Int} (hne : k2 ≠ kind) : votedB K k2 a f = false := by
  have hl := h.len hf
  have hx : a.o[0]'(by omega) ∈ a.o := List.getElem_mem _
  refine voted_no hx (h.vs _ hx).2 fun he => ?_
  unfold balM at he
  injection he with h1
  exact hne h1
/-! ### Its size -/
theorem flat_le {α : Type} (e : α → List UInt8) (k : Nat) : ∀ l : List α, (∀ x ∈ l, (e x).length ≤ k) → (l.flatMap e).length ≤ l.length * k
  | [], _ => by simp
  | x :: l, h => by
    have h1 := h x List.mem_cons_self
    have h2 := flat_le e k l fun y hy => h y (List.mem_cons_of_mem _ hy)
    rw [List.flatMap_cons, List.length_append, List.length_cons, Nat.succ_mul]
    omega
theorem encL_le {α : Type} {e : α → List UInt8} {k n : Nat} {l : List α} (hn : l.length ≤ n) (hn2 : n ≤ 256) (h : ∀ x ∈ l, (e x).length ≤ k) : (Psp.encL e l).length ≤ 6 + n * k := by
  have h1 := flat_le e k l h
  have h2 := Psp.lenN (n := (l.length : Int)) ((Psp.okN_iff _).2 (by omega))
  have h3 := Nat.mul_le_mul_right k hn
  unfold Psp.encL
  rw [List.length_append]
  omega
theorem okL_of {α : Type} {ok : α → Bool} {l : List α} (hn : l.length ≤ 256) (h : ∀ x ∈ l, ok x = true) : Psp.okL ok l = true := by
  unfold Psp.okL
  rw [decide_eq_true hn, Bool.true_and, List.all_eq_true]
  exact h
theorem okB_small {m : Psp.Msg} (h1 : 0 ≤ m.k ∧ m.k < 1000) (h2 : 0 ≤ m.f ∧ m.f < 1000) (h3 : 0 ≤ m.v ∧ m.v < 1000) (h4 : 0 ≤ m.i ∧ m.i < 1000) (h5 : 0 ≤ m.q ∧ m.q < 1000) (h6 : 0 ≤ m.r ∧ m.r < 1000)
    (b : Psp.okL Psp.okR m.b = true ∧ (Psp.encL Psp.encR m.b).length ≤ 10000) (o : Psp.okL Psp.okV m.o = true ∧ (Psp.encL Psp.encV m.o).length ≤ 10000) (c : Psp.okL Psp.okC m.c = true ∧ (Psp.encL Psp.encC m.c).length ≤ 10000) (p : Psp.okL Psp.okP m.p = true ∧ (Psp.encL Psp.encP m.p).length ≤ 10000) : Psp.okB m = true ∧ (Psp.encM m).length ≤ 50000 := by
  have a1 : Psp.okN m.k = true := okN_small (by omega) (by omega)
  have a2 : Psp.okN m.f = true := okN_small (by omega) (by omega)
  have a3 : Psp.okN m.v = true := okN_small (by omega) (by omega)
  have a4 : Psp.okN m.i = true := okN_small (by omega) (by omega)
  have a5 : Psp.okN m.q = true := okN_small (by omega) (by omega)
  have a6 : Psp.okS m.r = true := okS_small (by omega) (by omega)
  have hlen : (Psp.encM m).length ≤ 50000 := by
    unfold Psp.encM
    simp only [List.length_append]
    have := Psp.lenN a1
    have := Psp.lenN a2
    have := Psp.lenN a3
    have := Psp.lenN a4
    have := Psp.lenN a5
    have := (Psp.encS_len m.r).2
    omega
  refine ⟨?_, hlen⟩
  unfold Psp.okB Psp.okM
  rw [a1, a2, a3, a4, a5, a6, b.1, o.1, c.1, p.1, Bool.and_eq_true, decide_eq_true_eq]
  exact ⟨rfl, by omega⟩
theorem nil_sz {α : Type} (ok : α → Bool) (e : α → List UInt8) : Psp.okL ok [] = true ∧ (Psp.encL e []).length ≤ 10000 := by
  refine ⟨rfl, ?_⟩
  have := encL_le (e := e) (k := 0) (n := 0) (l := []) (Nat.le_refl _) (by omega) (fun x h => by cases h)
  omega
theorem reqs_sz {cl : Int} {K : List Key} {l : List Psp.Req} (hl : l.length ≤ 3) (h : ∀ r ∈ l, SR cl K r) (hcl : cl ≤ 4) (hK : K.length < 1099511627776) : Psp.okL Psp.okR l = true ∧ (Psp.encL Psp.encR l).length ≤ 114 := by
  have h1 : ∀ r ∈ l, Psp.okR r = true := fun r hr => (h r hr).okR hcl hK
  exact ⟨okL_of (by omega) h1, encL_le (n := 3) (k := 36) hl (by omega) fun r hr => Psp.lenR (h1 r hr)⟩
theorem votes_sz {K : List Key} {l : List Psp.Vote} (M : Int → Psp.Msg) (hl : l.length ≤ 9) (h : ∀ x ∈ l, (0 ≤ x.n ∧ x.n ≤ 12) ∧ sealedB K (M x.n) x.s = true) (hK : K.length < 1099511627776) : Psp.okL Psp.okV l = true ∧ (Psp.encL Psp.encV l).length ≤ 114 := by
  have h1 : ∀ x ∈ l, Psp.okV x = true := fun x hx => by
    have hb := sealed_bd (h x hx).2
    have hn := (h x hx).1
    unfold Psp.okV
    rw [okN_small (by omega) (by omega), okN_small (by omega) (by omega)]
    rfl
  exact ⟨okL_of (by omega) h1, encL_le (n := 9) (k := 12) hl (by omega) fun r hr => Psp.lenV (h1 r hr)⟩
theorem bal_ok {cl : Int} {K : List Key} {kind n f : Int} {a : Psp.Cert} (hk : kind = 4 ∨ kind = 5) (hn : 0 ≤ n ∧ n ≤ 12) (hf : f ≤ 4) (pl : (0 ≤ a.v ∧ a.v ≤ 12) ∧ (0 ≤ a.i ∧ a.i ≤ f) ∧ (1 ≤ a.q ∧ a.q ≤ 16)) (sb : a.b.length ≤ 3) (rs : ∀ r ∈ a.b, SR cl K r) (hcl : cl ≤ 4) (hK : K.length < 1099511627776) : Psp.okB (balM kind n a) = true := by
  have h1 := reqs_sz sb rs hcl hK
  refine (okB_small (m := balM kind n a) ?_ ?_ ?_ ?_ ?_ ?_ ⟨h1.1, by show (Psp.encL Psp.encR a.b).length ≤ _; omega⟩ (nil_sz _ _) (nil_sz _ _) (nil_sz _ _)).1
  · show 0 ≤ kind ∧ kind < 1000; omega
  · show 0 ≤ n ∧ n < 1000; omega
  · show 0 ≤ a.v ∧ a.v < 1000; omega
  · show 0 ≤ a.i ∧ a.i < 1000; omega
  · show 0 ≤ a.q ∧ a.q < 1000; omega
  · show (0 : Int) ≤ 0 ∧ (0 : Int) < 1000; omega
theorem CF.sz {K : List Key} {kind f cl : Int} {a : Psp.Cert} (h : CF K kind f cl a) (hf : 1 ≤ f ∧ f ≤ 4) (hcl : cl ≤ 4) (hK : K.length < 1099511627776) : Psp.okC a = true ∧ (Psp.encC a).length ≤ 300 := by
  have hl := h.len hf
  have h1 := reqs_sz h.sb h.rs hcl hK
  have h2 := votes_sz (fun n => balM kind n a) (by omega) h.vs hK
  have hp := h.pl
  have n1 : Psp.okN a.v = true := okN_small (by omega) (by omega)
  have n2 : Psp.okN a.i = true := okN_small (by omega) (by omega)
  have n3 : Psp.okN a.q = true := okN_small (by omega) (by omega)
  have l1 := Psp.lenN n1
  have l2 := Psp.lenN n2
  have l3 := Psp.lenN n3
  unfold Psp.okC Psp.encC
  rw [n1, n2, n3, h1.1, h2.1]
  refine ⟨rfl, ?_⟩
  simp only [List.length_append]
  omega

/-- A certificate's numbers are in their ranges. -/
structure CutC (f cl : Int) (c : Psp.Cert) : Prop where
  pl : (0 ≤ c.v ∧ c.v ≤ 12) ∧ (0 ≤ c.i ∧ c.i ≤ f) ∧ (1 ≤ c.q ∧ c.q ≤ 16)
  sb : c.b.length ≤ 3
  rs : ∀ r ∈ c.b, CutR cl r
theorem cutC_is {f cl : Int} (hf : 1 ≤ f ∧ f ≤ 4) (hcl : 1 ≤ cl) (c : Psp.Cert) : CutC f cl (Psp.cutC c f cl) := by
  have h1 := Psp.within_lo c.v 13
  have h2 := Psp.within_hi c.v 13 (by omega)
  have h3 := Psp.within_lo c.i (f + 1)
  have h4 := Psp.within_hi c.i (f + 1) (by omega)
  have h5 := Psp.within_lo c.q 16
  have h6 := Psp.within_hi c.q 16 (by omega)
  refine ⟨⟨⟨h1, by show Psp.within c.v 13 ≤ 12; omega⟩, ⟨h3, by show Psp.within c.i (f + 1) ≤ f; omega⟩, ⟨by show 1 ≤ 1 + Psp.within c.q 16; omega, by show 1 + Psp.within c.q 16 ≤ 16; omega⟩⟩, ?_, fun r hr => ?_⟩
  · show ((c.b.take 3).map _).length ≤ 3
    rw [List.length_map, List.length_take]
    omega
  · obtain ⟨x, _, rfl⟩ := List.mem_map.1 (show r ∈ (c.b.take 3).map (Psp.cutR cl) from hr)
    exact cutR_is hcl x
theorem certS_cf {K : List Key} {kind f cl skip : Int} {c : Psp.Cert} (hk : kind = 4 ∨ kind = 5) (hf : 1 ≤ f ∧ f ≤ 4) (hcl : cl ≤ 4) (hc : CutC f cl c) (hK : K.length < 1000000) :
    CF (certS K kind f skip c).2 kind f cl (certS K kind f skip c).1 ∧ Sub K (certS K kind f skip c).2 ∧ (certS K kind f skip c).2.length ≤ K.length + 12 := by
  obtain ⟨s, hs⟩ : ∃ s, Psp.within skip (f + 1) = s := ⟨_, rfl⟩
  obtain ⟨q, hq⟩ : ∃ q, (Psp.quorum f).toNat = q := ⟨_, rfl⟩
  have hqf : (q : Int) = 2 * f + 1 := by have := quorum_is hf; omega
  obtain ⟨K1, hK1⟩ : ∃ K1, (reqsF K c.b).2 = K1 := ⟨_, rfl⟩
  obtain ⟨L1, hL1⟩ : ∃ L1, (reqsF K c.b).1 = L1 := ⟨_, rfl⟩
  have htl : c.b.take c.b.length = c.b := List.take_length
  have hs1 := reqsF_sub K c.b c.b.length (Nat.le_refl _)
  have hr1 := reqsF_sr hcl K c.b hc.rs c.b.length (Nat.le_refl _)
  have hl1 := reqsF_len K c.b c.b.length (Nat.le_refl _)
  have hk1 := reqsF_keys K c.b c.b.length (Nat.le_refl _)
  rw [htl, hK1] at hs1 hk1
  rw [htl, hK1, hL1] at hr1
  rw [htl, hL1] at hl1
  have hsb := hc.sb
  have hol : (Psp.ordR L1).length ≤ 3 := by
    have := Psp.ord_len L1 []
    simp only [List.length_nil] at this
    unfold Psp.ordR
    omega
  have hor : ∀ r ∈ Psp.ordR L1, SR cl K1 r := fun r hr => hr1 r ((Psp.ord_mem_iff _ _).1 hr)
  have hM : ∀ n, 0 ≤ n → n ≤ 12 → Psp.okB (balM kind n ⟨c.v, c.i, c.q, Psp.ordR L1, c.o⟩) = true := fun n h0 h1 => bal_ok (cl := cl) (K := K1) (f := f) hk ⟨h0, h1⟩ (by omega) hc.pl hol hor hcl (by omega)
  unfold certS
  rw [hs, hq, hL1, hK1]
  have hva := vts_all (s := s) hf hM K1 q (by omega)
  have hvn := vts_n f s (fun k => balM kind k ⟨c.v, c.i, c.q, Psp.ordR L1, c.o⟩) K1 q
  have hvs := vts_sub f s (fun k => balM kind k ⟨c.v, c.i, c.q, Psp.ordR L1, c.o⟩) K1 q
  have hvk := vts_keys f s (fun k => balM kind k ⟨c.v, c.i, c.q, Psp.ordR L1, c.o⟩) K1 q
  refine ⟨⟨hc.pl, hol, fun r hr => (hor r hr).sub hvs, Psp.up_rises (Psp.ord_up _), rise_of hf hqf hvn, hva⟩, hs1.trans hvs, ?_⟩
  show (vts f s _ K1 q).2.length ≤ _
  omega
/-! ### Messages that hold it -/
theorem SR.valid {cl : Int} {K : List Key} {r : Psp.Req} (h : SR cl K r) (hK : K.length < 1099511627776) : Psp.valid r cl = true := by
  obtain ⟨⟨⟨a1, a2⟩, ⟨b1, b2⟩, c1, ⟨d1, d2⟩, e1, e2⟩, hs⟩ := h
  have hb := chk_bd hs
  unfold Psp.valid
  rw [decide_eq_true_eq]
  exact ⟨a1, a2, b1, by omega, by omega, by omega, d1, d2, by omega, by omega, .inl c1⟩
theorem sealsB_of {K : List Key} {l : List Psp.Vote} (M : Int → Psp.Msg) (h : ∀ x ∈ l, (0 ≤ x.n ∧ x.n ≤ 12) ∧ sealedB K (M x.n) x.s = true) (hK : K.length < 1099511627776) : Psp.sealsB l = true := by
  unfold Psp.sealsB
  rw [List.all_eq_true]
  intro x hx
  have hb := sealed_bd (h x hx).2
  exact (Psp.win_iff _ _ _).2 ⟨by omega, by omega⟩
theorem CF.form {K : List Key} {kind f cl : Int} {a : Psp.Cert} (h : CF K kind f cl a) (hK : K.length < 1099511627776) : Psp.certB a f cl = true := by
  have hsb := h.sb
  have h2 : Psp.validsB a.b cl = true := by
    unfold Psp.validsB
    rw [List.all_eq_true]
    exact fun r hr => (h.rs r hr).valid hK
  have h3 : Psp.win (a.b.length : Int) 0 4 = true := (Psp.win_iff _ _ _).2 ⟨by omega, by omega⟩
  unfold Psp.certB Psp.batchB Psp.votesB
  rw [h.place, h2, h3, sealsB_of (fun n => balM kind n a) h.vs hK, h.ri]
  rfl
theorem i64_small {n : Int} (h : 0 ≤ n) (h1 : n < 1099511627776) : isI64 n := ⟨by omega, by omega⟩
theorem SR.wf {cl : Int} {K : List Key} {r : Psp.Req} (h : SR cl K r) (hcl : cl ≤ 4) (hK : K.length < 1099511627776) : wfReq r := by
  obtain ⟨⟨⟨a1, a2⟩, ⟨b1, b2⟩, c1, ⟨d1, d2⟩, e1, e2⟩, hs⟩ := h
  have hb := chk_bd hs
  exact ⟨i64_small (by omega) (by omega), i64_small (by omega) (by omega), i64_small (by omega) (by omega), i64_small (by omega) (by omega), i64_small (by omega) (by omega), i64_small (by omega) (by omega)⟩
theorem votes_wf {K : List Key} {l : List Psp.Vote} (M : Int → Psp.Msg) (h : ∀ x ∈ l, (0 ≤ x.n ∧ x.n ≤ 12) ∧ sealedB K (M x.n) x.s = true) (hK : K.length < 1099511627776) : ∀ x ∈ l, wfVote x := fun x hx => by
  have hb := sealed_bd (h x hx).2
  have hn := (h x hx).1
  exact ⟨i64_small (by omega) (by omega), i64_small (by omega) (by omega)⟩
theorem CF.wf {K : List Key} {kind f cl : Int} {a : Psp.Cert} (h : CF K kind f cl a) (hf : f ≤ 4) (hcl : cl ≤ 4) (hK : K.length < 1099511627776) : wfCert a := by
  have hp := h.pl
  exact ⟨i64_small (by omega) (by omega), i64_small (by omega) (by omega), i64_small (by omega) (by omega), fun r hr => (h.rs r hr).wf hcl hK, votes_wf (fun n => balM kind n a) h.vs hK⟩
theorem ch_small {n v : Int} (hn : 0 ≤ n ∧ n < 1000) (hv : 0 ≤ v ∧ v < 1000) : Psp.okB (chM n v) = true ∧ (Psp.encM (chM n v)).length ≤ 50000 :=
  okB_small (m := chM n v) (by show (0 : Int) ≤ 6 ∧ (6 : Int) < 1000; omega) (by show 0 ≤ n ∧ n < 1000; omega) (by show 0 ≤ v ∧ v < 1000; omega) (by show (0 : Int) ≤ 0 ∧ (0 : Int) < 1000; omega) (by show (0 : Int) ≤ 0 ∧ (0 : Int) < 1000; omega) (by show (0 : Int) ≤ 0 ∧ (0 : Int) < 1000; omega) (nil_sz _ _) (nil_sz _ _) (nil_sz _ _) (nil_sz _ _)
theorem okE_of_okS {K : List Key} {m : Psp.Msg} (h : okS K m = true) : okE (sealN K (kM m)) (Psp.encM m) = true := by
  unfold okS at h
  rw [Bool.and_eq_true] at h
  exact h.2
/-- What a notary has sealed opens. -/
theorem open_sealed {K : List Key} {m : Psp.Msg} {f cl : Int} (hok : Psp.okB m = true) (hl : (Psp.encM m).length ≤ 50000) (hF : Psp.formM m f cl = true) (hK : K.length < 1000000) :
    okS K m = true ∧ openM (Psp.encN (sealN K (kM m)) ++ Psp.encM m) f cl (sealK K m) = some (m, sealN K (kM m)) := by
  have hs := sealed_seal (K := K) hok
  have hsm : sealM K m = sealN K (kM m) := by unfold sealM; rw [if_pos hok]
  rw [hsm] at hs
  have hb := sealed_bd hs
  have hkl := sealK_len K m
  have hN : Psp.okN (sealN K (kM m)) = true := okN_small (by omega) (by omega)
  have hE : okE (sealN K (kM m)) (Psp.encM m) = true := by
    unfold okE
    have := Psp.lenN hN
    rw [hN, Bool.true_and, decide_eq_true_eq]
    omega
  refine ⟨by unfold okS; rw [hok, hE]; rfl, ?_⟩
  have hc : chkB (sealK K m) (kM m) (sealN K (kM m)) = true := by
    unfold sealedB at hs
    rw [Bool.and_eq_true] at hs
    exact hs.2
  rw [open_back hok hE, hF, hc]
  rfl
end Go.Proofs.YtadpkjgjciodnaaGreat
