/- View changes that are made so, and with one thing turned, in plain words. -/
import Derived.Test.YtadpkjgjciodnaaGreatCrpVi
import Derived.Test.YtadpkjgjciodnaaGreatTpVi
import Derived.Test.YtadpkjgjciodnaaGreatV7Vi
namespace Go.Proofs.YtadpkjgjciodnaaGreat
open Go.RowKit
set_option linter.unusedVariables false
set_option linter.unusedSimpArgs false

/-- Certificates that a view change may hold. -/
structure CL (K : List Key) (f cl view : Int) (l : List Psp.Cert) : Prop where
  n4 : l.length ≤ 4
  cf : ∀ c ∈ l, CF K 4 f cl c
  lt : ∀ c ∈ l, c.v < view
  up : Psp.upC l = true
theorem CL.sub {K K' : List Key} {f cl view : Int} {l : List Psp.Cert} (h : CL K f cl view l) (g : Sub K K') : CL K' f cl view l :=
  ⟨h.n4, fun c hc => (h.cf c hc).sub g, h.lt, h.up⟩
/-- A part that is made so. -/
structure PF (K : List Key) (f cl view : Int) (p : Psp.Part) : Prop where
  nd : 0 ≤ p.f ∧ p.f ≤ 3 * f
  vw : 1 ≤ view ∧ view ≤ 12
  ri : Psp.rising (p.o.map (·.n)) f = true
  vs : ∀ x ∈ p.o, (0 ≤ x.n ∧ x.n ≤ 12) ∧ sealedB K (chM x.n (view - 1)) x.s = true
  cs : CL K f cl view p.c
  se : sealedB K (vcM view p) p.s = true
theorem PF.sub {K K' : List Key} {f cl view : Int} {p : Psp.Part} (h : PF K f cl view p) (g : Sub K K') : PF K' f cl view p :=
  ⟨h.nd, h.vw, h.ri, fun x hx => ⟨(h.vs x hx).1, sealed_sub (h.vs x hx).2 g⟩, h.cs.sub g, sealed_sub h.se g⟩
theorem PF.len {K : List Key} {f cl view : Int} {p : Psp.Part} (h : PF K f cl view p) (hf : 1 ≤ f ∧ f ≤ 4) : (p.o.length : Int) = 2 * f + 1 := by
  have := (rising_pair h.ri).1
  rw [List.length_map, quorum_is hf] at this
  exact this
theorem CL.sz {K : List Key} {f cl view : Int} {l : List Psp.Cert} (h : CL K f cl view l) (hf : 1 ≤ f ∧ f ≤ 4) (hcl : cl ≤ 4) (hK : K.length < 1099511627776) : Psp.okL Psp.okC l = true ∧ (Psp.encL Psp.encC l).length ≤ 1206 :=
  ⟨okL_of (by have := h.n4; omega) (fun x hx => ((h.cf x hx).sz hf hcl hK).1), encL_le (n := 4) (k := 300) h.n4 (by omega) fun x hx => ((h.cf x hx).sz hf hcl hK).2⟩
theorem change_ok {K : List Key} {f cl view : Int} {p : Psp.Part} (hf : 1 ≤ f ∧ f ≤ 4) (nd : 0 ≤ p.f ∧ p.f ≤ 3 * f) (vw : 1 ≤ view ∧ view ≤ 12) (hl : p.o.length ≤ 9) (vs : ∀ x ∈ p.o, (0 ≤ x.n ∧ x.n ≤ 12) ∧ sealedB K (chM x.n (view - 1)) x.s = true) (cs : CL K f cl view p.c) (hcl : cl ≤ 4) (hK : K.length < 1099511627776) : Psp.okB (vcM view p) = true := by
  have h1 := votes_sz (fun n => chM n (view - 1)) hl vs hK
  have h2 := cs.sz hf hcl hK
  refine (okB_small (m := vcM view p) ?_ ?_ ?_ ?_ ?_ ?_ (nil_sz _ _) ⟨h1.1, by show (Psp.encL Psp.encV p.o).length ≤ _; omega⟩ ⟨h2.1, by show (Psp.encL Psp.encC p.c).length ≤ _; omega⟩ (nil_sz _ _)).1
  · show (0 : Int) ≤ 7 ∧ (7 : Int) < 1000; omega
  · show 0 ≤ p.f ∧ p.f < 1000; omega
  · show 0 ≤ view ∧ view < 1000; omega
  · show (0 : Int) ≤ 0 ∧ (0 : Int) < 1000; omega
  · show (0 : Int) ≤ 0 ∧ (0 : Int) < 1000; omega
  · show (0 : Int) ≤ 0 ∧ (0 : Int) < 1000; omega
theorem PF.change {K : List Key} {f cl view : Int} {p : Psp.Part} (h : PF K f cl view p) (hK : K.length < 1099511627776) : Psp.changeB view p.o p.c f cl = true := by
  have h1 : Psp.votesB p.o f = true := by
    unfold Psp.votesB
    rw [sealsB_of (fun n => chM n (view - 1)) h.vs hK, h.ri]
    rfl
  have h2 : Psp.certsB view p.c f cl = true := by
    unfold Psp.certsB
    rw [h.cs.up, Bool.and_true, List.all_eq_true]
    intro c hc
    rw [(h.cs.cf c hc).form hK, decide_eq_true (h.cs.lt c hc)]
    rfl
  unfold Psp.changeB
  rw [(Psp.win_iff _ _ _).2 h.vw, h1, h2]
  rfl
theorem PF.node {K : List Key} {f cl view : Int} {p : Psp.Part} (h : PF K f cl view p) (hf : 1 ≤ f ∧ f ≤ 4) : Psp.nodeB p.f f = true := by
  have := h.nd
  unfold Psp.nodeB; rw [nodes_is hf]; exact (Psp.win_iff _ _ _).2 ⟨by omega, by omega⟩
theorem PF.changed {K : List Key} {f cl view : Int} {p : Psp.Part} (h : PF K f cl view p) : changedB K (view - 1) p.o f = true := by
  have hv := h.vw
  unfold changedB
  rw [(Psp.win_iff _ _ _).2 ⟨by omega, by omega⟩, h.ri, Bool.true_and, Bool.true_and, List.all_eq_true]
  exact fun x hx => (h.vs x hx).2
theorem PF.viewed {K : List Key} {f cl view : Int} {p : Psp.Part} (h : PF K f cl view p) (hf : 1 ≤ f ∧ f ≤ 4) (hcl : cl ≤ 4) (hK : K.length < 1099511627776) : viewedB K view p f cl = true := by
  have h1 : (p.c.all fun c => certifiedB K 4 c f cl) = true := by
    rw [List.all_eq_true]
    exact fun c hc => (h.cs.cf c hc).certified hcl hK
  unfold viewedB
  rw [h.se, h.changed, h1, vc_form, may_of hf, h.node hf, h.change hK]
  rfl
theorem partS_pf {K : List Key} {f cl view from_ skip : Int} {l : List Psp.Cert} (hf : 1 ≤ f ∧ f ≤ 4) (hcl : cl ≤ 4) (hv : 1 ≤ view ∧ view ≤ 12) (hfr : 0 ≤ from_ ∧ from_ ≤ 3 * f) (hl : CL K f cl view l) (hK : K.length < 1000000) :
    PF (partS K f view from_ skip l).2 f cl view (partS K f view from_ skip l).1 ∧ Sub K (partS K f view from_ skip l).2 ∧ (partS K f view from_ skip l).2.length ≤ K.length + 10 := by
  obtain ⟨s, hs⟩ : ∃ s, Psp.within skip (f + 1) = s := ⟨_, rfl⟩
  obtain ⟨q, hq⟩ : ∃ q, (Psp.quorum f).toNat = q := ⟨_, rfl⟩
  have hqf : (q : Int) = 2 * f + 1 := by have := quorum_is hf; omega
  unfold partS
  rw [hs, hq]
  have hva := vts_all (s := s) hf (M := fun k => chM k (view - 1)) (fun n h0 h1 => (ch_small (by omega) (by omega)).1) K q (by omega)
  have hvn := vts_n f s (fun k => chM k (view - 1)) K q
  have hvs := vts_sub f s (fun k => chM k (view - 1)) K q
  have hvk := vts_keys f s (fun k => chM k (view - 1)) K q
  have hvl := vts_len f s (fun k => chM k (view - 1)) K q
  obtain ⟨V, hV⟩ : ∃ V, vts f s (fun k => chM k (view - 1)) K q = V := ⟨_, rfl⟩
  rw [hV] at hva hvn hvs hvk hvl ⊢
  have hok : Psp.okB (vcM view ⟨from_, V.1, l, 0⟩) = true := change_ok (K := V.2) (cl := cl) hf hfr hv (by show V.1.length ≤ 9; omega) hva (hl.sub hvs) hcl (by omega)
  have hkl := sealK_len V.2 (vcM view ⟨from_, V.1, l, 0⟩)
  have hg := sub_sealK V.2 (vcM view ⟨from_, V.1, l, 0⟩)
  refine ⟨⟨hfr, hv, rise_of hf hqf hvn, fun x hx => ⟨(hva x hx).1, sealed_sub (hva x hx).2 hg⟩, (hl.sub hvs).sub hg, sealed_seal hok⟩, hvs.trans hg, ?_⟩
  show (sealK V.2 _).length ≤ _
  omega
/-! ### One thing turned -/
theorem vw_no {K : List Key} {f cl v : Int} {q : Psp.Part} {m : Psp.Msg} (h : sealedB K m q.s = true) (hne : vcM v q ≠ m) : viewedB K v q f cl = false := by
  have : sealedB K (vcM v q) q.s = false := by
    cases hs : sealedB K (vcM v q) q.s with
    | false => rfl
    | true => exact absurd (sealed_inj hs h) hne
  unfold viewedB
  rw [this, Bool.false_and, Bool.and_false]
theorem tp_from {K : List Key} {f cl view v : Int} {p : Psp.Part} (h : PF K f cl view p) {n : Int} (hn : n ≠ p.f) : viewedB K v { p with f := n } f cl = false :=
  vw_no (q := { p with f := n }) h.se fun he => by unfold vcM at he; injection he with _ he; exact hn he
theorem tp_votes {K : List Key} {f cl view v : Int} {p : Psp.Part} (h : PF K f cl view p) (hf : 1 ≤ f ∧ f ≤ 4) : viewedB K v { p with o := p.o.drop 1 } f cl = false :=
  vw_no (q := { p with o := p.o.drop 1 }) h.se fun he => by
    unfold vcM at he
    injection he with _ _ _ _ _ _ _ he
    have h1 := congrArg List.length he
    have h2 := h.len hf
    simp only [List.length_drop] at h1
    omega
theorem tp_certs {K : List Key} {f cl view v : Int} {p : Psp.Part} (h : PF K f cl view p) (x : Psp.Cert) : viewedB K v { p with c := p.c ++ [x] } f cl = false :=
  vw_no (q := { p with c := p.c ++ [x] }) h.se fun he => by
    unfold vcM at he
    injection he with _ _ _ _ _ _ _ _ he
    have h1 := congrArg List.length he
    simp at h1
theorem tp_seal {K : List Key} {f cl view : Int} {p : Psp.Part} (h : PF K f cl view p) : viewedB K view { p with s := p.s + 1 } f cl = false := by
  have : sealedB K (vcM view { p with s := p.s + 1 }) (p.s + 1) = false := by
    cases hs : sealedB K (vcM view { p with s := p.s + 1 }) (p.s + 1) with
    | false => rfl
    | true => exact absurd (sealed_num (show sealedB K (vcM view p) (p.s + 1) = true from hs) h.se) (by omega)
  unfold viewedB
  rw [this, Bool.false_and, Bool.and_false]
/-- For another view, the votes are not right. -/
theorem tp_view {K : List Key} {f cl view v : Int} {p q : Psp.Part} (h : PF K f cl view p) {x : Psp.Vote} (hx : x ∈ p.o) (hq : x ∈ q.o) (hv : v ≠ view) : viewedB K v q f cl = false := by
  have h1 : (q.o.all fun y => sealedB K (chM y.n (v - 1)) y.s) = false := List.all_eq_false.2 ⟨x, hq, fun h' => by
    have he := sealed_inj h' (h.vs x hx).2
    unfold chM at he
    injection he with _ _ he
    omega⟩
  unfold viewedB changedB
  rw [h1, Bool.and_false, Bool.and_false, Bool.false_and, Bool.and_false, Bool.and_false]
theorem other_view {view : Int} (h : 1 ≤ view ∧ view ≤ 12) : view % 12 + 1 ≠ view := by omega
theorem other_from {f n : Int} (hf : 1 ≤ f ∧ f ≤ 4) (h : 0 ≤ n ∧ n ≤ 3 * f) : (n + 1) % Psp.nodes f ≠ n := by
  rw [nodes_is hf]
  by_cases hn : n = 3 * f
  · rw [hn, Int.emod_self]; omega
  · rw [Int.emod_eq_of_lt (by omega) (by omega)]; omega
end Go.Proofs.YtadpkjgjciodnaaGreat
