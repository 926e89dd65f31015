/- The rows of certificates and of parts of MsgsViews, and its new view, in plain words. -/
import Derived.Test.YtadpkjgjciodnaaGreatVwsVi
namespace Go.Proofs.YtadpkjgjciodnaaGreat
open Go.RowKit
set_option linter.unusedVariables false
set_option linter.unusedSimpArgs false

/-- The certificate that is asked for. -/
def vC (f cl view : Int) (i : Nat) (c : Psp.Cert) : Psp.Cert := { Psp.cutC c f cl with v := (Psp.cutC c f cl).v % view, i := 0, q := 1 + 2 * (i : Int) }
theorem vC_cut {f cl view : Int} {i : Nat} {c : Psp.Cert} (hf : 1 ≤ f ∧ f ≤ 4) (hcl : 1 ≤ cl) (hv : 1 ≤ view ∧ view ≤ 12) (hi : i ≤ 4) : CutC f cl (vC f cl view i c) := by
  have h := cutC_is hf hcl c
  have h1 := Int.emod_nonneg (Psp.cutC c f cl).v (show view ≠ 0 by omega)
  have h2 := Int.emod_lt_of_pos (Psp.cutC c f cl).v (show 0 < view by omega)
  refine ⟨⟨⟨h1, ?_⟩, ⟨Int.le_refl _, by show (0 : Int) ≤ f; omega⟩, ⟨?_, ?_⟩⟩, h.sb, h.rs⟩
  · show (Psp.cutC c f cl).v % view ≤ 12; omega
  · show 1 ≤ 1 + 2 * (i : Int); omega
  · show 1 + 2 * (i : Int) ≤ 16; omega
/-- The first certificates, and what has been sealed. -/
def cts (K : List Key) (f cl view skip : Int) (l : List Psp.Cert) : Nat → List Psp.Cert × List Key
  | 0 => ([], K)
  | i + 1 => match l[i]? with
    | some c => ((cts K f cl view skip l i).1 ++ [(certS (cts K f cl view skip l i).2 4 f skip (vC f cl view i c)).1], (certS (cts K f cl view skip l i).2 4 f skip (vC f cl view i c)).2)
    | none => cts K f cl view skip l i
theorem cts_step {K : List Key} {f cl view skip : Int} {l : List Psp.Cert} {i : Nat} {c : Psp.Cert} (h : l[i]? = some c) :
    cts K f cl view skip l (i + 1) = ((cts K f cl view skip l i).1 ++ [(certS (cts K f cl view skip l i).2 4 f skip (vC f cl view i c)).1], (certS (cts K f cl view skip l i).2 4 f skip (vC f cl view i c)).2) := by
  rw [cts, h]
theorem upC_snoc {l : List Psp.Cert} {c : Psp.Cert} (h : Psp.upC l = true) (hc : ∀ a, l[l.length - 1]? = some a → Psp.ltC a c = true) : Psp.upC (l ++ [c]) = true := by
  rw [Psp.upC_iff] at h ⊢
  intro k a b ha hb
  by_cases hk : k + 1 < l.length
  · rw [List.getElem?_append_left (by omega)] at ha
    rw [List.getElem?_append_left hk] at hb
    exact h k a b ha hb
  · have hlt : k + 1 < (l ++ [c]).length := (List.getElem?_eq_some_iff.1 hb).1
    rw [List.length_append, List.length_singleton] at hlt
    have hke : k + 1 = l.length := by omega
    rw [List.getElem?_append_right (by omega), hke, Nat.sub_self] at hb
    rw [List.getElem?_append_left (by omega)] at ha
    have he : b = c := by simpa using hb.symm
    rw [he]
    refine hc a ?_
    rw [← ha]
    congr 1
    omega
theorem cts_cl {K : List Key} {f cl view skip : Int} {l : List Psp.Cert} (hf : 1 ≤ f ∧ f ≤ 4) (hcl : 1 ≤ cl ∧ cl ≤ 4) (hv : 1 ≤ view ∧ view ≤ 12) (hK : K.length < 100000) : ∀ i, i ≤ l.length → i ≤ 4 →
    CL (cts K f cl view skip l i).2 f cl view (cts K f cl view skip l i).1 ∧ Sub K (cts K f cl view skip l i).2 ∧ (cts K f cl view skip l i).2.length ≤ K.length + 12 * i ∧ (cts K f cl view skip l i).1.length = i ∧ (∀ a ∈ (cts K f cl view skip l i).1, a.i = 0 ∧ a.q < 1 + 2 * (i : Int))
  | 0, _, _ => ⟨⟨by show 0 ≤ 4; omega, fun c h => (by cases h), fun c h => (by cases h), rfl⟩, Sub.refl _, Nat.le_refl _, rfl, fun c h => (by cases h)⟩
  | i + 1, hi, h4 => by
    obtain ⟨hC, hS, hk, hn, hq⟩ := cts_cl (l := l) (skip := skip) hf hcl hv hK i (by omega) (by omega)
    have hil : i < l.length := by omega
    rw [cts_step (l := l) (List.getElem?_eq_getElem hil)]
    obtain ⟨T, hT⟩ : ∃ T, cts K f cl view skip l i = T := ⟨_, rfl⟩
    obtain ⟨c, hc⟩ : ∃ c, vC f cl view i (l[i]'hil) = c := ⟨_, rfl⟩
    have hcut : CutC f cl c := hc ▸ vC_cut hf hcl.1 hv (by omega)
    have hcv : c.v < view := by rw [← hc]; exact Int.emod_lt_of_pos _ (by omega)
    have hci : c.i = 0 := by rw [← hc]; rfl
    have hcq : c.q = 1 + 2 * (i : Int) := by rw [← hc]; rfl
    rw [hT] at hC hS hk hn hq ⊢
    rw [hc]
    have hcf := certS_cf (kind := 4) (skip := skip) (.inl rfl) hf hcl.2 hcut (K := T.2) (by omega)
    have e1 : (certS T.2 4 f skip c).1.v = c.v := rfl
    have e2 : (certS T.2 4 f skip c).1.i = c.i := rfl
    have e3 : (certS T.2 4 f skip c).1.q = c.q := rfl
    obtain ⟨D, hD⟩ : ∃ D, certS T.2 4 f skip c = D := ⟨_, rfl⟩
    rw [hD] at hcf e1 e2 e3 ⊢
    refine ⟨⟨?_, ?_, ?_, ?_⟩, hS.trans hcf.2.1, ?_, ?_, ?_⟩
    · show (T.1 ++ [D.1]).length ≤ 4
      rw [List.length_append, List.length_singleton]; omega
    · intro x hx
      rcases List.mem_append.1 hx with h | h
      · exact (hC.cf x h).sub hcf.2.1
      · rw [List.mem_singleton.1 h]; exact hcf.1
    · intro x hx
      rcases List.mem_append.1 hx with h | h
      · exact hC.lt x h
      · rw [List.mem_singleton.1 h, e1]; exact hcv
    · refine upC_snoc hC.up fun a ha => ?_
      have := hq a (List.mem_of_getElem? ha)
      unfold Psp.ltC
      rw [decide_eq_true_eq]
      exact .inr ⟨by omega, by omega⟩
    · show D.2.length ≤ _
      have := hcf.2.2
      omega
    · show (T.1 ++ [D.1]).length = _
      rw [List.length_append, List.length_singleton]; omega
    · intro x hx
      rcases List.mem_append.1 hx with h | h
      · have := hq x h
        exact ⟨this.1, by omega⟩
      · rw [List.mem_singleton.1 h]
        exact ⟨by omega, by omega⟩
/-- The first parts, and what has been sealed. -/
def pts (K : List Key) (f view skip : Int) (lc : List Psp.Cert) : Nat → List Psp.Part × List Key
  | 0 => ([], K)
  | i + 1 => ((pts K f view skip lc i).1 ++ [(partS (pts K f view skip lc i).2 f view (i : Int) skip lc).1], (partS (pts K f view skip lc i).2 f view (i : Int) skip lc).2)
theorem pts_pf {K : List Key} {f cl view skip : Int} {lc : List Psp.Cert} (hf : 1 ≤ f ∧ f ≤ 4) (hcl : cl ≤ 4) (hv : 1 ≤ view ∧ view ≤ 12) (hl : CL K f cl view lc) (hK : K.length < 100000) : ∀ i : Nat, (i : Int) ≤ 2 * f + 1 →
    (∀ p ∈ (pts K f view skip lc i).1, PF (pts K f view skip lc i).2 f cl view p) ∧ Sub K (pts K f view skip lc i).2 ∧ (pts K f view skip lc i).2.length ≤ K.length + 10 * i ∧ (pts K f view skip lc i).1.map (·.f) = (List.range i).map fun (j : Nat) => (j : Int)
  | 0, _ => ⟨fun c h => (by cases h), Sub.refl _, Nat.le_refl _, rfl⟩
  | i + 1, hi => by
    obtain ⟨hC, hS, hk, hn⟩ := pts_pf (skip := skip) hf hcl hv hl hK i (by omega)
    unfold pts
    obtain ⟨T, hT⟩ : ∃ T, pts K f view skip lc i = T := ⟨_, rfl⟩
    rw [hT] at hC hS hk hn ⊢
    have hp := partS_pf (K := T.2) (skip := skip) (from_ := (i : Int)) hf hcl hv ⟨by omega, by omega⟩ (hl.sub hS) (by omega)
    have e1 : (partS T.2 f view (i : Int) skip lc).1.f = (i : Int) := rfl
    obtain ⟨D, hD⟩ : ∃ D, partS T.2 f view (i : Int) skip lc = D := ⟨_, rfl⟩
    rw [hD] at hp e1 ⊢
    refine ⟨?_, hS.trans hp.2.1, ?_, ?_⟩
    · intro x hx
      rcases List.mem_append.1 hx with h | h
      · exact (hC x h).sub hp.2.1
      · rw [List.mem_singleton.1 h]; exact hp.1
    · show D.2.length ≤ _
      have := hp.2.2
      omega
    · show (T.1 ++ [D.1]).map _ = _
      rw [List.map_append, hn, List.range_succ, List.map_append]
      simp [e1]
theorem pts_len {K : List Key} {f view skip : Int} {lc : List Psp.Cert} : ∀ i, (pts K f view skip lc i).1.length = i
  | 0 => rfl
  | i + 1 => by rw [pts, List.length_append, List.length_singleton, pts_len i]
/-- The message of a new view. -/
def nvM (f view : Int) (ps : List Psp.Part) : Psp.Msg := ⟨8, Psp.primary f view 0, view, 0, 0, 0, [], [], [], ps⟩
theorem prim_bd {f view : Int} (hf : 1 ≤ f ∧ f ≤ 4) (hv : 1 ≤ view ∧ view ≤ 12) : 0 ≤ Psp.primary f view 0 ∧ Psp.primary f view 0 ≤ 3 * f := by
  unfold Psp.primary
  rw [if_pos (by omega)]
  exact ⟨Int.emod_nonneg _ (by omega), by have := Int.emod_lt_of_pos (view + 0) (show 0 < 3 * f + 1 by omega); omega⟩
theorem PF.sz {K : List Key} {f cl view : Int} {p : Psp.Part} (h : PF K f cl view p) (hf : 1 ≤ f ∧ f ≤ 4) (hcl : cl ≤ 4) (hK : K.length < 1099511627776) : Psp.okP p = true ∧ (Psp.encP p).length ≤ 1400 := by
  have hl := h.len hf
  have h1 := votes_sz (fun n => chM n (view - 1)) (by omega) h.vs hK
  have h2 := h.cs.sz hf hcl hK
  have hb := sealed_bd h.se
  have hn := h.nd
  have n1 : Psp.okN p.f = true := okN_small (by omega) (by omega)
  have n2 : Psp.okN p.s = true := okN_small (by omega) (by omega)
  have l1 := Psp.lenN n1
  have l2 := Psp.lenN n2
  unfold Psp.okP Psp.encP
  rw [n1, n2, h1.1, h2.1]
  refine ⟨rfl, ?_⟩
  simp only [List.length_append]
  omega
theorem nv_ok {K : List Key} {f cl view : Int} {ps : List Psp.Part} (hf : 1 ≤ f ∧ f ≤ 4) (hcl : cl ≤ 4) (hv : 1 ≤ view ∧ view ≤ 12) (hn : ps.length ≤ 9) (h : ∀ p ∈ ps, PF K f cl view p) (hK : K.length < 1099511627776) : Psp.okB (nvM f view ps) = true ∧ (Psp.encM (nvM f view ps)).length ≤ 50000 := by
  have hp := prim_bd hf hv
  have a1 : Psp.okN (nvM f view ps).k = true := okN_small (by show (0 : Int) ≤ 8; omega) (by show (8 : Int) < _; omega)
  have a2 : Psp.okN (nvM f view ps).f = true := okN_small (by show 0 ≤ Psp.primary f view 0; omega) (by show Psp.primary f view 0 < _; omega)
  have a3 : Psp.okN (nvM f view ps).v = true := okN_small (by show 0 ≤ view; omega) (by show view < _; omega)
  have a4 : Psp.okN (nvM f view ps).i = true := rfl
  have a5 : Psp.okN (nvM f view ps).q = true := rfl
  have a6 : Psp.okS (nvM f view ps).r = true := rfl
  have b := nil_sz Psp.okR Psp.encR
  have o := nil_sz Psp.okV Psp.encV
  have c := nil_sz Psp.okC Psp.encC
  have pz : Psp.okL Psp.okP ps = true ∧ (Psp.encL Psp.encP ps).length ≤ 12606 := ⟨okL_of (by omega) (fun x hx => ((h x hx).sz hf hcl hK).1), encL_le (n := 9) (k := 1400) hn (by omega) fun x hx => ((h x hx).sz hf hcl hK).2⟩
  have eb : (nvM f view ps).b = [] := rfl
  have eo : (nvM f view ps).o = [] := rfl
  have ec : (nvM f view ps).c = [] := rfl
  have ep : (nvM f view ps).p = ps := rfl
  have hlen : (Psp.encM (nvM f view ps)).length ≤ 50000 := by
    unfold Psp.encM
    simp only [List.length_append]
    rw [eb, eo, ec, ep]
    have := Psp.lenN a1
    have := Psp.lenN a2
    have := Psp.lenN a3
    have := Psp.lenN a4
    have := Psp.lenN a5
    have := (Psp.encS_len (nvM f view ps).r).2
    omega
  refine ⟨?_, hlen⟩
  unfold Psp.okB Psp.okM
  rw [a1, a2, a3, a4, a5, a6, eb, eo, ec, ep, b.1, o.1, c.1, pz.1, Bool.and_eq_true, decide_eq_true_eq]
  exact ⟨rfl, by omega⟩
theorem PF.part {K : List Key} {f cl view : Int} {p : Psp.Part} (h : PF K f cl view p) (hf : 1 ≤ f ∧ f ≤ 4) (hK : K.length < 1099511627776) : Psp.partB view p f cl = true := by
  have hb := sealed_bd h.se
  unfold Psp.partB
  rw [h.node hf, h.change hK, show Psp.sealB p.s = true from (Psp.win_iff _ _ _).2 ⟨by omega, by omega⟩]
  rfl
theorem nv_form {K : List Key} {f cl view : Int} {ps : List Psp.Part} {q : Nat} (hf : 1 ≤ f ∧ f ≤ 4) (hv : 1 ≤ view ∧ view ≤ 12) (hq : (q : Int) = 2 * f + 1) (hn : ps.map (·.f) = (List.range q).map fun (j : Nat) => (j : Int)) (h : ∀ p ∈ ps, PF K f cl view p) (hK : K.length < 1099511627776) : Psp.formM (nvM f view ps) f cl = true := by
  have hp := prim_bd hf hv
  have e : Psp.formM (nvM f view ps) f cl = (Psp.may f && (Psp.nodeB (Psp.primary f view 0) f && (Psp.noB [0, 0] && (Psp.bareB (nvM f view ps) false false false true && (Psp.win view 1 12 && (Psp.win 0 0 f && (decide (Psp.primary f view 0 = Psp.primary f view 0) && Psp.partsB view ps f cl))))))) := rfl
  have h1 : Psp.nodeB (Psp.primary f view 0) f = true := by unfold Psp.nodeB; rw [nodes_is hf]; exact (Psp.win_iff _ _ _).2 ⟨by omega, by omega⟩
  have hl : ps.length = q := by have := congrArg List.length hn; simpa using this
  have hat : ∀ (k : Nat) (a : Psp.Part), ps[k]? = some a → a.f = (k : Int) := by
    intro k a ha
    have h2 : (ps.map (·.f))[k]? = some a.f := by rw [List.getElem?_map, ha]; rfl
    have hk : k < q := by have := (List.getElem?_eq_some_iff.1 ha).1; omega
    rw [hn, List.getElem?_map, List.getElem?_range hk] at h2
    exact (Option.some.inj h2).symm
  have h3 : Psp.partsB view ps f cl = true := by
    unfold Psp.partsB
    rw [quorum_is hf, hl, decide_eq_true hq, Bool.true_and, Bool.and_eq_true]
    refine ⟨List.all_eq_true.2 fun p hp => (h p hp).part hf hK, (Psp.upP_iff _).2 fun k a b ha hb => ?_⟩
    rw [hat k a ha, hat (k + 1) b hb]
    omega
  rw [e, may_of hf, h1, (Psp.win_iff _ _ _).2 hv, (Psp.win_iff 0 0 f).2 ⟨by omega, by omega⟩, h3, decide_eq_true rfl]
  rfl
end Go.Proofs.YtadpkjgjciodnaaGreat
