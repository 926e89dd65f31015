/- A reader's certificates, parts, lists of them. Printed by gen_rd4.py. -/
import Derived.Test.YtadaejpodjhkdaaRd3
namespace Go.Proofs.Ytadaejpodjhkdaa
open Go.RowKit
set_option linter.unusedVariables false

theorem RdR.keeps {w w' : World} {P P' : Nat → Prop} {v : Value} {l : List Psp.Req} (h : RdR w P v l) (g : Keeps P P' w w') : RdR w' P' v l := RdP.keeps h g
theorem RdV.keeps {w w' : World} {P P' : Nat → Prop} {v : Value} {l : List Psp.Vote} (h : RdV w P v l) (g : Keeps P P' w w') : RdV w' P' v l := RdP.keeps h g
theorem RdR.form {w : World} {P : Nat → Prop} {v : Value} {l : List Psp.Req} (h : RdR w P v l) : ∃ A n c, v = .slice A n c := by obtain ⟨_, A, c, e, _⟩ := h; exact ⟨A, _, c, e⟩
theorem RdV.form {w : World} {P : Nat → Prop} {v : Value} {l : List Psp.Vote} (h : RdV w P v l) : ∃ A n c, v = .slice A n c := by obtain ⟨_, A, c, e, _⟩ := h; exact ⟨A, _, c, e⟩
theorem RdC.form {w : World} {P : Nat → Prop} {v : Value} {l : List Psp.Cert} (h : RdC w P v l) : ∃ A n c, v = .slice A n c := by obtain ⟨L, _, ⟨_, A, c, e, _⟩, _⟩ := h; exact ⟨A, _, c, e⟩
theorem Keeps.fpg {w0 W W' : World} {g : Nat} (h : Fp (fun k => k = g) W W') (hg : g < w0.heap.size) : Keeps (fun k => w0.heap.size + 2 ≤ k) (fun k => w0.heap.size + 2 ≤ k) W W' := ⟨h.size, fun b hb hlt => ⟨h.block b hlt (by omega), hb⟩⟩
theorem Keeps.var (w0 W : World) (i : Nat) (v : Value) : Keeps (fun k => w0.heap.size + 2 ≤ k) (fun k => w0.heap.size + 2 ≤ k) W (W.setCell ⟨w0.heap.size + 1, i, none⟩ v) := ⟨by simp [World.setCell], fun b hb hlt => ⟨Below.heap_setCell W ⟨w0.heap.size + 1, i, none⟩ _ b (by simp; omega), hb⟩⟩
theorem Keeps.new2 {w0 W W' : World} (hs : w0.heap.size + 1 < W.heap.size) : Keeps (fun k => W.heap.size ≤ k) (fun k => w0.heap.size + 2 ≤ k) W' W' := ⟨Nat.le_refl _, fun b hb hlt => ⟨rfl, by omega⟩⟩
theorem setCells_size (g : Nat) : ∀ (l : List Value) (k : Nat) (W : World), (W.setCells g k l).heap.size = W.heap.size
  | [], _, _ => rfl
  | v :: l, k, W => (setCells_size g l (k + 1) _).trans (by simp [World.setCell])
theorem Keeps.res {w0 W W' : World} (hs : W.heap.size ≤ W'.heap.size) (h : ∀ b, b ≠ w0.heap.size → W'.heap[b]? = W.heap[b]?) : Keeps (fun k => w0.heap.size + 2 ≤ k) (fun k => w0.heap.size ≤ k) W W' := ⟨hs, fun b hb hlt => ⟨h b (by omega), by omega⟩⟩
/-- What a call that reads a certificate, a part leaves behind. -/
def TookC (RT : TypeId) (b : List UInt8) (x : Value) (g : Nat) (o : Option Int) (w : World) (e : Ending) (w' : World) : Prop :=
  ∃ y : CertV, e = .returned (.agg (cv y).toArray) ∧ CertOk w' (fun k => w.heap.size ≤ k) y ∧ Psp.Is Psp.dC b o y.c ∧ Rs RT w' g x (Psp.nxt Psp.dC b o) ∧ Fp (fun k => k = g) w w'
def TookA (RT : TypeId) (b : List UInt8) (x : Value) (g : Nat) (o : Option Int) (w : World) (e : Ending) (w' : World) : Prop :=
  ∃ y : PartV, e = .returned (.agg (pv y).toArray) ∧ PartOk w' (fun k => w.heap.size ≤ k) y ∧ Psp.Is Psp.dP b o y.p ∧ Rs RT w' g x (Psp.nxt Psp.dP b o) ∧ Fp (fun k => k = g) w w'

set_option maxRecDepth 100000 in
set_option maxHeartbeats 1000000 in
theorem rd_cert (b : List UInt8) (x : Value) (g : Nat) (o : Option Int) (w : World) (hx : RdP w (fun k => k ≠ g) 1 x b.length (b.map bv)) (hR : Rs 102 w g x o) :
    Calls Try.prog 60 #[.pointer (some ⟨g, 0, none⟩)] w (TookC 102 b x g o w) := by
  have hg := hR.lt
  have t0 := Two.new hR #[.int .i64 0, .int .i64 0, .int .i64 0, .slice none 0 0, .slice none 0 0] 87
  have HX := Lib.hid hx
  have T0 := Lib.hid t0
  clear hx hR t0
  go_enter Try.func60, Try.ntmps60
  go_wp2_with fail
  refine (rd_number b x g _ _ (fun k => k ≠ g) (HX.out.fp T0.out.fp (fun k hk => hk)) T0.out.rs).mono ?_
  rintro e w1 ⟨v, rfl, h1, h2, h3, h4, h5⟩
  have t1 := T0.out.call h4 h5
  obtain ⟨x0, z0⟩ := t1.cell 0 (by simp)
  simp only [List.getElem_toArray, List.getElem_cons_zero] at x0
  have T1 := Lib.hid (t1.store 0 (.int .i64 v) (cs' := #[.int .i64 v, .int .i64 0, .int .i64 0, .slice none 0 0, .slice none 0 0]) rfl)
  have E0 := Lib.hid h3
  clear h1 h2 h3 h4 h5 t1
  go_wp2_with fail
  refine (rd_number b x g _ _ (fun k => k ≠ g) (HX.out.fp T1.out.fp (fun k hk => hk)) T1.out.rs).mono ?_
  rintro e w2 ⟨i, rfl, h1, h2, h3, h4, h5⟩
  have t1 := T1.out.call h4 h5
  obtain ⟨x1, z1⟩ := t1.cell 1 (by simp)
  simp only [List.getElem_toArray, List.getElem_cons_zero, List.getElem_cons_succ] at x1
  have T2 := Lib.hid (t1.store 1 (.int .i64 i) (cs' := #[.int .i64 v, .int .i64 i, .int .i64 0, .slice none 0 0, .slice none 0 0]) rfl)
  have E1 := Lib.hid h3
  clear h1 h2 h3 h4 h5 t1 x0 z0
  go_wp2_with fail
  refine (rd_number b x g _ _ (fun k => k ≠ g) (HX.out.fp T2.out.fp (fun k hk => hk)) T2.out.rs).mono ?_
  rintro e w3 ⟨q, rfl, h1, h2, h3, h4, h5⟩
  have t1 := T2.out.call h4 h5
  obtain ⟨x2, z2⟩ := t1.cell 2 (by simp)
  simp only [List.getElem_toArray, List.getElem_cons_zero, List.getElem_cons_succ] at x2
  have T3 := Lib.hid (t1.store 2 (.int .i64 q) (cs' := #[.int .i64 v, .int .i64 i, .int .i64 q, .slice none 0 0, .slice none 0 0]) rfl)
  have E2 := Lib.hid h3
  clear h1 h2 h3 h4 h5 t1 x1 z1
  go_wp2_with fail
  refine (rd_takenR b x g _ _ (HX.out.fp T3.out.fp (fun k hk => hk)) T3.out.rs).mono ?_
  rintro e w4 ⟨vl, l, rfl, hL, h3, h4, h5⟩
  obtain ⟨Al, nl, cl, el⟩ := hL.form
  subst el
  have hL2 := hL.keeps (Keeps.new2 T3.out.lt1)
  have t1 := T3.out.call h4 h5
  obtain ⟨x3, z3⟩ := t1.cell 3 (by simp)
  simp only [List.getElem_toArray, List.getElem_cons_zero, List.getElem_cons_succ] at x3
  have Ql_4 := Lib.hid (hL2.keeps (Keeps.var w w4 3 (.slice Al nl cl)))
  have T4 := Lib.hid (t1.store 3 (.slice Al nl cl) (cs' := #[.int .i64 v, .int .i64 i, .int .i64 q, .slice Al nl cl, .slice none 0 0]) rfl)
  have E3 := Lib.hid h3
  clear hL hL2 h3 h4 h5 t1 x2 z2
  go_wp2_with fail
  refine (rd_takenV b x g _ _ (HX.out.fp T4.out.fp (fun k hk => hk)) T4.out.rs).mono ?_
  rintro e w5 ⟨vm, m, rfl, hL, h3, h4, h5⟩
  obtain ⟨Am, nm, cm, em⟩ := hL.form
  subst em
  have hL2 := hL.keeps (Keeps.new2 T4.out.lt1)
  have t1 := T4.out.call h4 h5
  obtain ⟨x4, z4⟩ := t1.cell 4 (by simp)
  simp only [List.getElem_toArray, List.getElem_cons_zero, List.getElem_cons_succ] at x4
  have Ql_5 := Lib.hid ((Ql_4.out.keeps (Keeps.fpg h5 hg)).keeps (Keeps.var w w5 4 (.slice Am nm cm)))
  have Qm_5 := Lib.hid (hL2.keeps (Keeps.var w w5 4 (.slice Am nm cm)))
  have T5 := Lib.hid (t1.store 4 (.slice Am nm cm) (cs' := #[.int .i64 v, .int .i64 i, .int .i64 q, .slice Al nl cl, .slice Am nm cm]) rfl)
  have E4 := Lib.hid h3
  clear hL hL2 h3 h4 h5 t1 x3 z3
  have hrg := T5.out.range [.int .i64 v, .int .i64 i, .int .i64 q, .slice Al nl cl, .slice Am nm cm] rfl
  have Hrg := Lib.hid hrg
  have hth := T5.out.there
  have Hth := Lib.hid hth
  clear hrg hth
  go_wp2_with (first | (refine list_load rfl 87 (.tmp 3) rfl (w.heap.size + 1) 0 rfl [.int .i64 v, .int .i64 i, .int .i64 q, .slice Al nl cl, .slice Am nm cm] _ ?_ Try.underlying87 rfl sizeC ?_; exact Hrg.out) | (refine wpList_store_mid rfl 87 (.tmp 2) _ rfl w.heap.size 0 #[.int .i64 v, .int .i64 i, .int .i64 q, .slice Al nl cl, .slice Am nm cm] rfl rfl Hth.out sizeC (by simp [Value.oneCell']) ?_))
  obtain ⟨r1, r2, r3, r4⟩ := T5.out.result [.int .i64 v, .int .i64 i, .int .i64 q, .slice Al nl cl, .slice Am nm cm] rfl
  refine bodyPost_ret (v := .agg #[.int .i64 v, .int .i64 i, .int .i64 q, .slice Al nl cl, .slice Am nm cm]) ?_ rfl ?_
  · exact results_cell_row Try.results60 _ _ w.heap.size _ _ _ _ rfl r1 Try.underlying87 rfl sizeC
  · obtain ⟨c1, c2⟩ := chain_C E0.out E1.out E2.out E3.out E4.out
    have Fl := Ql_5.out.keeps (Keeps.res (by rw [setCells_size]; exact Nat.le_refl _) r4)
    have Fm := Qm_5.out.keeps (Keeps.res (by rw [setCells_size]; exact Nat.le_refl _) r4)
    exact ⟨⟨⟨v, i, q, l, m⟩, .slice Al nl cl, .slice Am nm cm⟩, rfl, ⟨Fl, Fm⟩, c1, by rw [c2]; exact r2, r3⟩

theorem zeroC (t : CertV) : (Try.prog.info? 87).map (fun i => (i.zero.map (·.cells.size), i.size)) = some (some (cv t).length, (cv t).length) := by
  show _ = some (some 5, 5)
  kernel_rfl
theorem zeroP (t : PartV) : (Try.prog.info? 109).map (fun i => (i.zero.map (·.cells.size), i.size)) = some (some (pv t).length, (pv t).length) := by
  show _ = some (some 4, 4)
  kernel_rfl
theorem certE : Elem Try.prog 35 87 5 72 := ⟨Try.underlying35, by kernel_rfl, by decide⟩
theorem partE : Elem Try.prog 64 109 4 64 := ⟨Try.underlying64, by kernel_rfl, by decide⟩
theorem cv_one {w : World} {P : Nat → Prop} {t : CertV} (h : CertOk w P t) : ∀ u ∈ (cv t).toArray.toList, u.oneCell' = true := by
  intro u hu
  simp [cv, iv] at hu
  rcases hu with rfl | rfl | rfl | rfl | rfl
  · rfl
  · rfl
  · rfl
  · exact h.1.one
  · exact h.2.one
theorem pv_one {w : World} {P : Nat → Prop} {t : PartV} (h : PartOk w P t) : ∀ u ∈ (pv t).toArray.toList, u.oneCell' = true := by
  intro u hu
  simp [pv, iv] at hu
  rcases hu with rfl | rfl | rfl | rfl
  · rfl
  · exact h.1.one
  · exact h.2.one
  · rfl

/-- What the loop keeps. -/
structure TInvC (b : List UInt8) (x : Value) (g : Nat) (o o1 : Option Int) (n : Nat) (w w' : World) (out : Value) (xs : List CertV) (o' : Option Int) : Prop where
  n256 : n ≤ 256
  le : xs.length ≤ n
  own : w'.ownsRow w.heap.size 87 5 out xs.length (xs.flatMap cv)
  many : Psp.Many Psp.dC b n o1 (xs.map (·.c)) o'
  rs : Rs 102 w' g x o'
  fp : Fp (fun k => k = g) w w'
  inner : ∀ y ∈ xs, CertOk w' (fun k => w.heap.size ≤ k ∧ out.ownBlock ≠ some k) y
/-- How the rounds of taken go: to the end, or to the next round. -/
def TJC (b : List UInt8) (x : Value) (g : Nat) (o o1 : Option Int) (n : Nat) (w : World) (lab : Nat) (a' : Act) (w' : World) : Prop :=
  (lab = 0 ∧ o.bind (Psp.dL Psp.dC b) = none ∧ Fp (fun k => k = g) w w' ∧ (∃ o', Rs 102 w' g x o') ∧ ∃ u1 u2 u3 u5 u6 u7 u8 u9 u10 u11 u12 u13 u14 u15 u16 u17 u18 u19 u20 u21 u22 u23 u24 u25 u26 u27 u28 : Value, a' = { tmps := #[.pointer (some ⟨g, 0, none⟩), u1, u2, u3, .slice none 0 0, u5, u6, u7, u8, u9, u10, u11, u12, u13, u14, u15, u16, u17, u18, u19, u20, u21, u22, u23, u24, u25, u26, u27, u28], defers := [] }) ∨
  (lab = 1 ∧ ∃ (out : Value) (xs : List CertV) (o' : Option Int), TInvC b x g o o1 n w w' out xs o' ∧ ∃ u2 u3 u7 u8 u9 u10 u11 u12 u13 u14 u15 u16 u17 u18 u19 u20 u21 u22 u23 u24 u25 u26 u27 u28 : Value, a' = { tmps := #[.pointer (some ⟨g, 0, none⟩), .func (.func 60) #[] #[], u2, u3, .slice none 0 0, out, .int .i64 (n : Int), u7, u8, u9, u10, u11, u12, u13, u14, u15, u16, u17, u18, u19, u20, u21, u22, u23, u24, u25, u26, u27, u28], defers := [] })

theorem TInvC.next {b : List UInt8} {x : Value} {g : Nat} {o o1 : Option Int} {n m c5 : Nat} {w w' w1 w2 : World} {A5 : Option Addr} {xs : List CertV} {a : Int} {t : CertV} {v' : Value} (h : TInvC b x g o o1 n w w' (.slice A5 m c5) xs (some a))
    (hm : xs.length = m) (hlt : m < n) (h0 : CertOk w1 (fun k => w'.heap.size ≤ k) t) (h3 : Psp.Is Psp.dC b (some a) t.c) (h4 : Rs 102 w1 g x (Psp.nxt Psp.dC b (some a))) (h5 : Fp (fun k => k = g) w' w1) (hg : g < w.heap.size) (hown1 : w1.ownsRow w.heap.size 87 5 (.slice A5 m c5) m (xs.flatMap cv))
    (hown2 : w2.ownsRow w.heap.size 87 5 v' (m + 1) (xs.flatMap cv ++ (cv t).toArray.toList)) (hg2 : w1.grownBy w2 (Value.slice A5 m c5).ownBlock) (hv2 : v'.ownBlock = (Value.slice A5 m c5).ownBlock ∨ v'.ownBlock = some (w1.heap.size + 1)) :
    TInvC b x g o o1 n w w2 v' (xs ++ [t]) (Psp.nxt Psp.dC b (some a)) := by
  have hz := h.fp.size
  have hz1 := h5.size
  have hgo : (Value.slice A5 m c5).ownBlock ≠ some g := fun he => by have := (hown1.lt g he).1; omega
  have k1 : Keeps (fun k => w.heap.size ≤ k ∧ (Value.slice A5 m c5).ownBlock ≠ some k) (fun k => w.heap.size ≤ k ∧ v'.ownBlock ≠ some k) w' w2 := by
    refine ⟨Nat.le_trans hz1 hg2.size, fun b hb hlt => ⟨(hg2.block b (by omega) (fun he => hb.2 he.symm)).trans (h5.block b hlt (by have := hb.1; omega)), hb.1, fun he => ?_⟩⟩
    rcases hv2 with hv | hv
    · rw [hv] at he; exact hb.2 he
    · rw [hv] at he; injection he with he; omega
  have k2 : Keeps (fun k => w'.heap.size ≤ k) (fun k => w.heap.size ≤ k ∧ v'.ownBlock ≠ some k) w1 w2 := by
    refine ⟨hg2.size, fun b hb hlt => ⟨hg2.block b hlt (fun he => ?_), by omega, fun he => ?_⟩⟩
    · have := (h.own.lt b (by rw [← he])).2; omega
    · rcases hv2 with hv | hv
      · rw [hv] at he; have := (h.own.lt b he).2; omega
      · rw [hv] at he; injection he with he; omega
  refine ⟨h.n256, by rw [List.length_append]; simp; omega, ?_, ?_, h4.keep (hg2.block g (by omega) (fun he => hgo he.symm)), (h.fp.trans h5 fun k hk => Or.inl hk).grown hg2 fun k hk => Or.inr (hown1.lt k hk).1, fun y hy => ?_⟩
  · rw [List.length_append, List.flatMap_append, hm]
    simpa using hown2
  · rw [List.map_append]
    exact h.many.step (by rw [List.length_map]; omega) h3
  · rcases List.mem_append.1 hy with hy | hy
    · exact (h.inner y hy).keeps k1
    · rw [List.mem_singleton.1 hy]
      exact h0.keeps k2

set_option maxRecDepth 100000 in
set_option maxHeartbeats 2000000 in
theorem rd_takenC (b : List UInt8) (x : Value) (g : Nat) (o : Option Int) (w : World) (hx : RdP w (fun k => k ≠ g) 1 x b.length (b.map bv)) (hR : Rs 102 w g x o) :
    Calls Try.prog 78 #[.pointer (some ⟨g, 0, none⟩), .func (.func 60) #[] #[]] w (TookL 102 Psp.dC RdC b x g o w) := by
  have HX := Lib.hid hx
  have HR := Lib.hid hR
  have hg := hR.lt
  clear hx hR
  go_enter Try.func78, Try.ntmps78
  go_wp2_with fail
  refine wp_scope_hops (fun lab a' w' => ∃ n : Nat, Psp.Is dN b o (n : Int) ∧ TJC b x g o (Psp.nxt dN b o) n w lab a' w') (fun lab a' _ => if lab = 0 then 0 else 300 - lenOf (a'.tmps.getD 5 undef)) ?_ ?_
  · rintro lab a' w' ⟨n, hn, ⟨rfl, hnone, hF, ⟨o', hrs⟩, u1, u2, u3, u5, u6, u7, u8, u9, u10, u11, u12, u13, u14, u15, u16, u17, u18, u19, u20, u21, u22, u23, u24, u25, u26, u27, u28, rfl⟩ | ⟨rfl, out, xs, o', hI, u2, u3, u7, u8, u9, u10, u11, u12, u13, u14, u15, u16, u17, u18, u19, u20, u21, u22, u23, u24, u25, u26, u27, u28, rfl⟩⟩
    · refine ⟨_, rfl, ?_⟩
      obtain ⟨a, bad, k0, k1, k2, z1, z2, _, _, _⟩ := hrs.cells
      have Hrs := Lib.hid hrs
      have HF := Lib.hid hF
      have Hno := Lib.hid hnone
      clear hrs hF hnone hn k0 k1 z1
      go_wp2_with fail
      go_ret
      obtain ⟨f1, f2⟩ := Hrs.out.fail
      obtain ⟨q1, q2⟩ := Psp.nxt_not Hno.out
      exact ⟨_, [], rfl, nil_C _ _, q2 _, by rw [q1]; exact f1, HF.out.trans f2 fun k hk => Or.inl hk⟩
    · refine ⟨_, rfl, ?_⟩
      obtain ⟨A5, c5, e5, _, _, _⟩ := own_slice hI.own
      subst e5
      obtain ⟨a, bad, k0, k1, k2, z1, z2, _, hs, hnn⟩ := hI.rs.cells
      have hle := hI.le
      have h256 := hI.n256
      have HI := Lib.hid hI
      have Hn := Lib.hid hn
      cases o' with
      | none =>
        have hbad := hnn rfl
        subst hbad
        have hdn : o.bind (Psp.dL Psp.dC b) = none := by
          rw [Psp.dL_of Hn.out (by omega), Int.toNat_natCast]
          exact HI.out.many.no rfl
        have Hdn := Lib.hid hdn
        clear hI hn hs hnn hdn k0 k1 z1
        go_wp2_with fail
        go_step3
        exact ⟨⟨n, Hn.out, .inl ⟨rfl, Hdn.out, HI.out.fp, ⟨_, HI.out.rs⟩, _, _, _, _, _, _, _, _, _, _, _, _, _, _, _, _, _, _, _, _, _, _, _, _, _, _, _, rfl⟩⟩, by simp [lenOf]; omega⟩
      | some p =>
        obtain ⟨hap, hbad⟩ := hs p rfl
        subst hap hbad
        clear hI hn hs hnn k0 k1 z1
        by_cases hk : xs.length = n
        · have hkb : ((xs.length : Int) == (n : Int)) = true := by simp; omega
          have hd := Psp.nxt_of ((Psp.dL_of (d := Psp.dC) Hn.out (by omega)).trans (by rw [Int.toNat_natCast]; exact HI.out.many.done (by rw [List.length_map]; exact hk)))
          have Hd := Lib.hid hd
          obtain ⟨m, hm⟩ : ∃ m, xs.length = m := ⟨_, rfl⟩
          have hfin : RdC w' (fun k => w.heap.size ≤ k) (.slice A5 m c5) (xs.map (·.c)) := by rw [← hm]; exact ⟨xs, rfl, (RdP.of_own HI.out.own).mono (fun b _ hb => hb.2), fun y hy => (HI.out.inner y hy).keeps (Keeps.mono fun b _ hb => hb.1)⟩
          have Hfin := Lib.hid hfin
          clear hfin
          have Hm := Lib.hid hm
          rw [hm] at hkb
          rw [hm]
          clear hd hk hm hle
          go_wp2_with fail
          go_ret
          exact ⟨_, _, rfl, Hfin.out, Hd.out.2, by rw [Hd.out.1]; exact HI.out.rs, HI.out.fp⟩
        · have hkb : ((xs.length : Int) == (n : Int)) = false := by simp; omega
          have hlt : xs.length < n := by omega
          have hz := HI.out.fp.size
          obtain ⟨m, hm⟩ : ∃ m, xs.length = m := ⟨_, rfl⟩
          have Hm := Lib.hid hm
          rw [hm] at hkb hlt HI
          rw [hm]
          clear hk hm hle
          go_wp2_with fail
          refine (rd_cert b x g _ _ (HX.out.fp HI.out.fp (fun k hk => hk)) HI.out.rs).mono ?_
          rintro e w1 ⟨t, rfl, h0, h3, h4, h5⟩
          have hz1 := h5.size
          have hown1 : w1.ownsRow w.heap.size 87 5 (.slice A5 m c5) m (xs.flatMap cv) := by have h := HI.out.own; rw [Hm.out] at h; exact own_keep h fun b hb => h5.block b (HI.out.own.lt b hb).2 (by have := (HI.out.own.lt b hb).1; omega)
          have Hown1 := Lib.hid hown1
          have H0 := Lib.hid h0
          have H3 := Lib.hid h3
          have H4 := Lib.hid h4
          have H5 := Lib.hid h5
          clear hown1 h0 h3 h4 h5
          go_wp2_with (first | (refine list_build1 rfl 35 (.tmp 23) rfl 87 (cv t) rfl Try.underlying35 (zeroC t) (by simp [cv]) (by simp [cv]) ?_) | (at_builtin; refine wpList_app1 certE rfl _ _ rfl w.heap.size _ m _ rfl Hown1.out (cv t).toArray rfl rfl (cv_one H0.out) (by omega) (by decide) (by omega) ?_; intro v' w2 hown2 hg2 hb2 hv2; have HN := Lib.hid (TInvC.next HI.out Hm.out hlt H0.out H3.out H4.out H5.out hg Hown1.out hown2 hg2 hv2); clear hown2 hg2 hb2 hv2; obtain ⟨A6, c6, e6, _, _, _⟩ := own_slice HN.out.own; have E6 := Lib.hid e6; clear e6))
          go_step3
          refine ⟨⟨n, Hn.out, .inr ⟨rfl, _, _, _, HN.out, _, _, _, _, _, _, _, _, _, _, _, _, _, _, _, _, _, _, _, _, _, _, _, _, rfl⟩⟩, ?_⟩
          show 300 - lenOf _ < 300 - _
          rw [show lenOf _ = m + 1 from by rw [E6.out]; simp [lenOf, Hm.out]]
          show 300 - (m + 1) < 300 - m
          omega
  · intro H
    have HH := Lib.hid H
    clear H
    go_wp2_with fail
    refine (rd_number b x g o _ (fun k => k ≠ g) HX.out HR.out).mono ?_
    rintro e w1 ⟨n0, rfl, h1, h2, h3, h4, h5⟩
    obtain ⟨n, rfl⟩ : ∃ n : Nat, n0 = (n : Int) := ⟨n0.toNat, by omega⟩
    have H3 := Lib.hid h3
    have H4 := Lib.hid h4
    have H5 := Lib.hid h5
    clear h3 h4 h5
    by_cases h256 : 256 < n
    · have d1 : decide (256 < (n : Int)) = true := by simp; omega
      go_wp2_with fail
      go_step3
      exact ⟨n, H3.out, .inl ⟨rfl, Psp.dL_big H3.out (by omega), H5.out, ⟨_, H4.out⟩, _, _, _, _, _, _, _, _, _, _, _, _, _, _, _, _, _, _, _, _, _, _, _, _, _, _, _, rfl⟩⟩
    · have d1 : decide (256 < (n : Int)) = false := by simp; omega
      have hst : TInvC b x g o (Psp.nxt dN b o) n w w1 (.slice none 0 0) [] (Psp.nxt dN b o) := ⟨by omega, by simp, World.ownsRow_nil _ _ _ _, Psp.Many.start, H4.out, H5.out, fun y hy => by cases hy⟩
      have Hst := Lib.hid hst
      clear hst
      go_wp2_with fail
      go_step3
      simp only [Exit.then]
      rename_i hK
      refine hK _ _ (HH.out 1 _ _ ⟨n, H3.out, .inr ⟨rfl, _, _, _, Hst.out, _, _, _, _, _, _, _, _, _, _, _, _, _, _, _, _, _, _, _, _, _, _, _, _, rfl⟩⟩ _ rfl)

set_option maxRecDepth 100000 in
set_option maxHeartbeats 1000000 in
theorem rd_part (b : List UInt8) (x : Value) (g : Nat) (o : Option Int) (w : World) (hx : RdP w (fun k => k ≠ g) 1 x b.length (b.map bv)) (hR : Rs 102 w g x o) :
    Calls Try.prog 62 #[.pointer (some ⟨g, 0, none⟩)] w (TookA 102 b x g o w) := by
  have hg := hR.lt
  have t0 := Two.new hR #[.int .i64 0, .slice none 0 0, .slice none 0 0, .int .i64 0] 109
  have HX := Lib.hid hx
  have T0 := Lib.hid t0
  clear hx hR t0
  go_enter Try.func62, Try.ntmps62
  go_wp2_with fail
  refine (rd_number b x g _ _ (fun k => k ≠ g) (HX.out.fp T0.out.fp (fun k hk => hk)) T0.out.rs).mono ?_
  rintro e w1 ⟨f, rfl, h1, h2, h3, h4, h5⟩
  have t1 := T0.out.call h4 h5
  obtain ⟨x0, z0⟩ := t1.cell 0 (by simp)
  simp only [List.getElem_toArray, List.getElem_cons_zero] at x0
  have T1 := Lib.hid (t1.store 0 (.int .i64 f) (cs' := #[.int .i64 f, .slice none 0 0, .slice none 0 0, .int .i64 0]) rfl)
  have E0 := Lib.hid h3
  clear h1 h2 h3 h4 h5 t1
  go_wp2_with fail
  refine (rd_takenV b x g _ _ (HX.out.fp T1.out.fp (fun k hk => hk)) T1.out.rs).mono ?_
  rintro e w2 ⟨vm, m, rfl, hL, h3, h4, h5⟩
  obtain ⟨Am, nm, cm, em⟩ := hL.form
  subst em
  have hL2 := hL.keeps (Keeps.new2 T1.out.lt1)
  have t1 := T1.out.call h4 h5
  obtain ⟨x1, z1⟩ := t1.cell 1 (by simp)
  simp only [List.getElem_toArray, List.getElem_cons_zero, List.getElem_cons_succ] at x1
  have Qm_2 := Lib.hid (hL2.keeps (Keeps.var w w2 1 (.slice Am nm cm)))
  have T2 := Lib.hid (t1.store 1 (.slice Am nm cm) (cs' := #[.int .i64 f, .slice Am nm cm, .slice none 0 0, .int .i64 0]) rfl)
  have E1 := Lib.hid h3
  clear hL hL2 h3 h4 h5 t1 x0 z0
  go_wp2_with fail
  refine (rd_takenC b x g _ _ (HX.out.fp T2.out.fp (fun k hk => hk)) T2.out.rs).mono ?_
  rintro e w3 ⟨vl, l, rfl, hL, h3, h4, h5⟩
  obtain ⟨Al, nl, cl, el⟩ := hL.form
  subst el
  have hL2 := hL.keeps (Keeps.new2 T2.out.lt1)
  have t1 := T2.out.call h4 h5
  obtain ⟨x2, z2⟩ := t1.cell 2 (by simp)
  simp only [List.getElem_toArray, List.getElem_cons_zero, List.getElem_cons_succ] at x2
  have Qm_3 := Lib.hid ((Qm_2.out.keeps (Keeps.fpg h5 hg)).keeps (Keeps.var w w3 2 (.slice Al nl cl)))
  have Ql_3 := Lib.hid (hL2.keeps (Keeps.var w w3 2 (.slice Al nl cl)))
  have T3 := Lib.hid (t1.store 2 (.slice Al nl cl) (cs' := #[.int .i64 f, .slice Am nm cm, .slice Al nl cl, .int .i64 0]) rfl)
  have E2 := Lib.hid h3
  clear hL hL2 h3 h4 h5 t1 x1 z1
  go_wp2_with fail
  refine (rd_number b x g _ _ (fun k => k ≠ g) (HX.out.fp T3.out.fp (fun k hk => hk)) T3.out.rs).mono ?_
  rintro e w4 ⟨s, rfl, h1, h2, h3, h4, h5⟩
  have t1 := T3.out.call h4 h5
  obtain ⟨x3, z3⟩ := t1.cell 3 (by simp)
  simp only [List.getElem_toArray, List.getElem_cons_zero, List.getElem_cons_succ] at x3
  have Qm_4 := Lib.hid ((Qm_3.out.keeps (Keeps.fpg h5 hg)).keeps (Keeps.var w w4 3 (.int .i64 s)))
  have Ql_4 := Lib.hid ((Ql_3.out.keeps (Keeps.fpg h5 hg)).keeps (Keeps.var w w4 3 (.int .i64 s)))
  have T4 := Lib.hid (t1.store 3 (.int .i64 s) (cs' := #[.int .i64 f, .slice Am nm cm, .slice Al nl cl, .int .i64 s]) rfl)
  have E3 := Lib.hid h3
  clear h1 h2 h3 h4 h5 t1 x2 z2
  have hrg := T4.out.range [.int .i64 f, .slice Am nm cm, .slice Al nl cl, .int .i64 s] rfl
  have Hrg := Lib.hid hrg
  have hth := T4.out.there
  have Hth := Lib.hid hth
  clear hrg hth
  go_wp2_with (first | (refine list_load rfl 109 (.tmp 3) rfl (w.heap.size + 1) 0 rfl [.int .i64 f, .slice Am nm cm, .slice Al nl cl, .int .i64 s] _ ?_ Try.underlying109 rfl sizeP ?_; exact Hrg.out) | (refine wpList_store_mid rfl 109 (.tmp 2) _ rfl w.heap.size 0 #[.int .i64 f, .slice Am nm cm, .slice Al nl cl, .int .i64 s] rfl rfl Hth.out sizeP (by simp [Value.oneCell']) ?_))
  obtain ⟨r1, r2, r3, r4⟩ := T4.out.result [.int .i64 f, .slice Am nm cm, .slice Al nl cl, .int .i64 s] rfl
  refine bodyPost_ret (v := .agg #[.int .i64 f, .slice Am nm cm, .slice Al nl cl, .int .i64 s]) ?_ rfl ?_
  · exact results_cell_row Try.results62 _ _ w.heap.size _ _ _ _ rfl r1 Try.underlying109 rfl sizeP
  · obtain ⟨c1, c2⟩ := chain_P E0.out E1.out E2.out E3.out
    have Fm := Qm_4.out.keeps (Keeps.res (by rw [setCells_size]; exact Nat.le_refl _) r4)
    have Fl := Ql_4.out.keeps (Keeps.res (by rw [setCells_size]; exact Nat.le_refl _) r4)
    exact ⟨⟨⟨f, m, l, s⟩, .slice Am nm cm, .slice Al nl cl⟩, rfl, ⟨Fm, Fl⟩, c1, by rw [c2]; exact r2, r3⟩

/-- What the loop keeps. -/
structure TInvP (b : List UInt8) (x : Value) (g : Nat) (o o1 : Option Int) (n : Nat) (w w' : World) (out : Value) (xs : List PartV) (o' : Option Int) : Prop where
  n256 : n ≤ 256
  le : xs.length ≤ n
  own : w'.ownsRow w.heap.size 109 4 out xs.length (xs.flatMap pv)
  many : Psp.Many Psp.dP b n o1 (xs.map (·.p)) o'
  rs : Rs 102 w' g x o'
  fp : Fp (fun k => k = g) w w'
  inner : ∀ y ∈ xs, PartOk w' (fun k => w.heap.size ≤ k ∧ out.ownBlock ≠ some k) y
/-- How the rounds of taken go: to the end, or to the next round. -/
def TJP (b : List UInt8) (x : Value) (g : Nat) (o o1 : Option Int) (n : Nat) (w : World) (lab : Nat) (a' : Act) (w' : World) : Prop :=
  (lab = 0 ∧ o.bind (Psp.dL Psp.dP b) = none ∧ Fp (fun k => k = g) w w' ∧ (∃ o', Rs 102 w' g x o') ∧ ∃ u1 u2 u3 u5 u6 u7 u8 u9 u10 u11 u12 u13 u14 u15 u16 u17 u18 u19 u20 u21 u22 u23 u24 u25 u26 u27 u28 : Value, a' = { tmps := #[.pointer (some ⟨g, 0, none⟩), u1, u2, u3, .slice none 0 0, u5, u6, u7, u8, u9, u10, u11, u12, u13, u14, u15, u16, u17, u18, u19, u20, u21, u22, u23, u24, u25, u26, u27, u28], defers := [] }) ∨
  (lab = 1 ∧ ∃ (out : Value) (xs : List PartV) (o' : Option Int), TInvP b x g o o1 n w w' out xs o' ∧ ∃ u2 u3 u7 u8 u9 u10 u11 u12 u13 u14 u15 u16 u17 u18 u19 u20 u21 u22 u23 u24 u25 u26 u27 u28 : Value, a' = { tmps := #[.pointer (some ⟨g, 0, none⟩), .func (.func 62) #[] #[], u2, u3, .slice none 0 0, out, .int .i64 (n : Int), u7, u8, u9, u10, u11, u12, u13, u14, u15, u16, u17, u18, u19, u20, u21, u22, u23, u24, u25, u26, u27, u28], defers := [] })

theorem TInvP.next {b : List UInt8} {x : Value} {g : Nat} {o o1 : Option Int} {n m c5 : Nat} {w w' w1 w2 : World} {A5 : Option Addr} {xs : List PartV} {a : Int} {t : PartV} {v' : Value} (h : TInvP b x g o o1 n w w' (.slice A5 m c5) xs (some a))
    (hm : xs.length = m) (hlt : m < n) (h0 : PartOk w1 (fun k => w'.heap.size ≤ k) t) (h3 : Psp.Is Psp.dP b (some a) t.p) (h4 : Rs 102 w1 g x (Psp.nxt Psp.dP b (some a))) (h5 : Fp (fun k => k = g) w' w1) (hg : g < w.heap.size) (hown1 : w1.ownsRow w.heap.size 109 4 (.slice A5 m c5) m (xs.flatMap pv))
    (hown2 : w2.ownsRow w.heap.size 109 4 v' (m + 1) (xs.flatMap pv ++ (pv t).toArray.toList)) (hg2 : w1.grownBy w2 (Value.slice A5 m c5).ownBlock) (hv2 : v'.ownBlock = (Value.slice A5 m c5).ownBlock ∨ v'.ownBlock = some (w1.heap.size + 1)) :
    TInvP b x g o o1 n w w2 v' (xs ++ [t]) (Psp.nxt Psp.dP b (some a)) := by
  have hz := h.fp.size
  have hz1 := h5.size
  have hgo : (Value.slice A5 m c5).ownBlock ≠ some g := fun he => by have := (hown1.lt g he).1; omega
  have k1 : Keeps (fun k => w.heap.size ≤ k ∧ (Value.slice A5 m c5).ownBlock ≠ some k) (fun k => w.heap.size ≤ k ∧ v'.ownBlock ≠ some k) w' w2 := by
    refine ⟨Nat.le_trans hz1 hg2.size, fun b hb hlt => ⟨(hg2.block b (by omega) (fun he => hb.2 he.symm)).trans (h5.block b hlt (by have := hb.1; omega)), hb.1, fun he => ?_⟩⟩
    rcases hv2 with hv | hv
    · rw [hv] at he; exact hb.2 he
    · rw [hv] at he; injection he with he; omega
  have k2 : Keeps (fun k => w'.heap.size ≤ k) (fun k => w.heap.size ≤ k ∧ v'.ownBlock ≠ some k) w1 w2 := by
    refine ⟨hg2.size, fun b hb hlt => ⟨hg2.block b hlt (fun he => ?_), by omega, fun he => ?_⟩⟩
    · have := (h.own.lt b (by rw [← he])).2; omega
    · rcases hv2 with hv | hv
      · rw [hv] at he; have := (h.own.lt b he).2; omega
      · rw [hv] at he; injection he with he; omega
  refine ⟨h.n256, by rw [List.length_append]; simp; omega, ?_, ?_, h4.keep (hg2.block g (by omega) (fun he => hgo he.symm)), (h.fp.trans h5 fun k hk => Or.inl hk).grown hg2 fun k hk => Or.inr (hown1.lt k hk).1, fun y hy => ?_⟩
  · rw [List.length_append, List.flatMap_append, hm]
    simpa using hown2
  · rw [List.map_append]
    exact h.many.step (by rw [List.length_map]; omega) h3
  · rcases List.mem_append.1 hy with hy | hy
    · exact (h.inner y hy).keeps k1
    · rw [List.mem_singleton.1 hy]
      exact h0.keeps k2

set_option maxRecDepth 100000 in
set_option maxHeartbeats 2000000 in
theorem rd_takenP (b : List UInt8) (x : Value) (g : Nat) (o : Option Int) (w : World) (hx : RdP w (fun k => k ≠ g) 1 x b.length (b.map bv)) (hR : Rs 102 w g x o) :
    Calls Try.prog 79 #[.pointer (some ⟨g, 0, none⟩), .func (.func 62) #[] #[]] w (TookL 102 Psp.dP RdA b x g o w) := by
  have HX := Lib.hid hx
  have HR := Lib.hid hR
  have hg := hR.lt
  clear hx hR
  go_enter Try.func79, Try.ntmps79
  go_wp2_with fail
  refine wp_scope_hops (fun lab a' w' => ∃ n : Nat, Psp.Is dN b o (n : Int) ∧ TJP b x g o (Psp.nxt dN b o) n w lab a' w') (fun lab a' _ => if lab = 0 then 0 else 300 - lenOf (a'.tmps.getD 5 undef)) ?_ ?_
  · rintro lab a' w' ⟨n, hn, ⟨rfl, hnone, hF, ⟨o', hrs⟩, u1, u2, u3, u5, u6, u7, u8, u9, u10, u11, u12, u13, u14, u15, u16, u17, u18, u19, u20, u21, u22, u23, u24, u25, u26, u27, u28, rfl⟩ | ⟨rfl, out, xs, o', hI, u2, u3, u7, u8, u9, u10, u11, u12, u13, u14, u15, u16, u17, u18, u19, u20, u21, u22, u23, u24, u25, u26, u27, u28, rfl⟩⟩
    · refine ⟨_, rfl, ?_⟩
      obtain ⟨a, bad, k0, k1, k2, z1, z2, _, _, _⟩ := hrs.cells
      have Hrs := Lib.hid hrs
      have HF := Lib.hid hF
      have Hno := Lib.hid hnone
      clear hrs hF hnone hn k0 k1 z1
      go_wp2_with fail
      go_ret
      obtain ⟨f1, f2⟩ := Hrs.out.fail
      obtain ⟨q1, q2⟩ := Psp.nxt_not Hno.out
      exact ⟨_, [], rfl, nil_A _ _, q2 _, by rw [q1]; exact f1, HF.out.trans f2 fun k hk => Or.inl hk⟩
    · refine ⟨_, rfl, ?_⟩
      obtain ⟨A5, c5, e5, _, _, _⟩ := own_slice hI.own
      subst e5
      obtain ⟨a, bad, k0, k1, k2, z1, z2, _, hs, hnn⟩ := hI.rs.cells
      have hle := hI.le
      have h256 := hI.n256
      have HI := Lib.hid hI
      have Hn := Lib.hid hn
      cases o' with
      | none =>
        have hbad := hnn rfl
        subst hbad
        have hdn : o.bind (Psp.dL Psp.dP b) = none := by
          rw [Psp.dL_of Hn.out (by omega), Int.toNat_natCast]
          exact HI.out.many.no rfl
        have Hdn := Lib.hid hdn
        clear hI hn hs hnn hdn k0 k1 z1
        go_wp2_with fail
        go_step3
        exact ⟨⟨n, Hn.out, .inl ⟨rfl, Hdn.out, HI.out.fp, ⟨_, HI.out.rs⟩, _, _, _, _, _, _, _, _, _, _, _, _, _, _, _, _, _, _, _, _, _, _, _, _, _, _, _, rfl⟩⟩, by simp [lenOf]; omega⟩
      | some p =>
        obtain ⟨hap, hbad⟩ := hs p rfl
        subst hap hbad
        clear hI hn hs hnn k0 k1 z1
        by_cases hk : xs.length = n
        · have hkb : ((xs.length : Int) == (n : Int)) = true := by simp; omega
          have hd := Psp.nxt_of ((Psp.dL_of (d := Psp.dP) Hn.out (by omega)).trans (by rw [Int.toNat_natCast]; exact HI.out.many.done (by rw [List.length_map]; exact hk)))
          have Hd := Lib.hid hd
          obtain ⟨m, hm⟩ : ∃ m, xs.length = m := ⟨_, rfl⟩
          have hfin : RdA w' (fun k => w.heap.size ≤ k) (.slice A5 m c5) (xs.map (·.p)) := by rw [← hm]; exact ⟨xs, rfl, (RdP.of_own HI.out.own).mono (fun b _ hb => hb.2), fun y hy => (HI.out.inner y hy).keeps (Keeps.mono fun b _ hb => hb.1)⟩
          have Hfin := Lib.hid hfin
          clear hfin
          have Hm := Lib.hid hm
          rw [hm] at hkb
          rw [hm]
          clear hd hk hm hle
          go_wp2_with fail
          go_ret
          exact ⟨_, _, rfl, Hfin.out, Hd.out.2, by rw [Hd.out.1]; exact HI.out.rs, HI.out.fp⟩
        · have hkb : ((xs.length : Int) == (n : Int)) = false := by simp; omega
          have hlt : xs.length < n := by omega
          have hz := HI.out.fp.size
          obtain ⟨m, hm⟩ : ∃ m, xs.length = m := ⟨_, rfl⟩
          have Hm := Lib.hid hm
          rw [hm] at hkb hlt HI
          rw [hm]
          clear hk hm hle
          go_wp2_with fail
          refine (rd_part b x g _ _ (HX.out.fp HI.out.fp (fun k hk => hk)) HI.out.rs).mono ?_
          rintro e w1 ⟨t, rfl, h0, h3, h4, h5⟩
          have hz1 := h5.size
          have hown1 : w1.ownsRow w.heap.size 109 4 (.slice A5 m c5) m (xs.flatMap pv) := by have h := HI.out.own; rw [Hm.out] at h; exact own_keep h fun b hb => h5.block b (HI.out.own.lt b hb).2 (by have := (HI.out.own.lt b hb).1; omega)
          have Hown1 := Lib.hid hown1
          have H0 := Lib.hid h0
          have H3 := Lib.hid h3
          have H4 := Lib.hid h4
          have H5 := Lib.hid h5
          clear hown1 h0 h3 h4 h5
          go_wp2_with (first | (refine list_build1 rfl 64 (.tmp 23) rfl 109 (pv t) rfl Try.underlying64 (zeroP t) (by simp [pv]) (by simp [pv]) ?_) | (at_builtin; refine wpList_app1 partE rfl _ _ rfl w.heap.size _ m _ rfl Hown1.out (pv t).toArray rfl rfl (pv_one H0.out) (by omega) (by decide) (by omega) ?_; intro v' w2 hown2 hg2 hb2 hv2; have HN := Lib.hid (TInvP.next HI.out Hm.out hlt H0.out H3.out H4.out H5.out hg Hown1.out hown2 hg2 hv2); clear hown2 hg2 hb2 hv2; obtain ⟨A6, c6, e6, _, _, _⟩ := own_slice HN.out.own; have E6 := Lib.hid e6; clear e6))
          go_step3
          refine ⟨⟨n, Hn.out, .inr ⟨rfl, _, _, _, HN.out, _, _, _, _, _, _, _, _, _, _, _, _, _, _, _, _, _, _, _, _, _, _, _, _, rfl⟩⟩, ?_⟩
          show 300 - lenOf _ < 300 - _
          rw [show lenOf _ = m + 1 from by rw [E6.out]; simp [lenOf, Hm.out]]
          show 300 - (m + 1) < 300 - m
          omega
  · intro H
    have HH := Lib.hid H
    clear H
    go_wp2_with fail
    refine (rd_number b x g o _ (fun k => k ≠ g) HX.out HR.out).mono ?_
    rintro e w1 ⟨n0, rfl, h1, h2, h3, h4, h5⟩
    obtain ⟨n, rfl⟩ : ∃ n : Nat, n0 = (n : Int) := ⟨n0.toNat, by omega⟩
    have H3 := Lib.hid h3
    have H4 := Lib.hid h4
    have H5 := Lib.hid h5
    clear h3 h4 h5
    by_cases h256 : 256 < n
    · have d1 : decide (256 < (n : Int)) = true := by simp; omega
      go_wp2_with fail
      go_step3
      exact ⟨n, H3.out, .inl ⟨rfl, Psp.dL_big H3.out (by omega), H5.out, ⟨_, H4.out⟩, _, _, _, _, _, _, _, _, _, _, _, _, _, _, _, _, _, _, _, _, _, _, _, _, _, _, _, rfl⟩⟩
    · have d1 : decide (256 < (n : Int)) = false := by simp; omega
      have hst : TInvP b x g o (Psp.nxt dN b o) n w w1 (.slice none 0 0) [] (Psp.nxt dN b o) := ⟨by omega, by simp, World.ownsRow_nil _ _ _ _, Psp.Many.start, H4.out, H5.out, fun y hy => by cases hy⟩
      have Hst := Lib.hid hst
      clear hst
      go_wp2_with fail
      go_step3
      simp only [Exit.then]
      rename_i hK
      refine hK _ _ (HH.out 1 _ _ ⟨n, H3.out, .inr ⟨rfl, _, _, _, Hst.out, _, _, _, _, _, _, _, _, _, _, _, _, _, _, _, _, _, _, _, _, _, _, _, _, rfl⟩⟩ _ rfl)

end Go.Proofs.Ytadaejpodjhkdaa
