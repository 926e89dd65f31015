/- Joined texts: Rd4 Rd5 Ey Ey2 Pz. -/
import Derived.Test.YtipmjleohadoeaaGreatGeSa
import Derived.RegionTactic
import Derived.ChangeAlike
import Derived.Test.YtipmjleohadoeaaGreatGaSa
section
/- A reader's certificates, parts, lists of them. Printed by gen_rd4.py. -/
namespace Go.Proofs.YtipmjleohadoeaaGreat
open Go.RowKit
set_option linter.unusedVariables false

theorem RdR.keeps {w w' : World} {P P' : Nat → Prop} {v : Value} {l : List Psp.Req} (h : RdR w P v l) (g : Keeps P P' w w') : RdR w' P' v l := RdP.keeps h g
theorem RdV.keeps {w w' : World} {P P' : Nat → Prop} {v : Value} {l : List Psp.Vote} (h : RdV w P v l) (g : Keeps P P' w w') : RdV w' P' v l := RdP.keeps h g
theorem RdR.form {w : World} {P : Nat → Prop} {v : Value} {l : List Psp.Req} (h : RdR w P v l) : ∃ A n c, v = .slice A n c := by obtain ⟨_, A, c, e, _⟩ := h; exact ⟨A, _, c, e⟩
theorem RdV.form {w : World} {P : Nat → Prop} {v : Value} {l : List Psp.Vote} (h : RdV w P v l) : ∃ A n c, v = .slice A n c := by obtain ⟨_, A, c, e, _⟩ := h; exact ⟨A, _, c, e⟩
theorem RdC.form {w : World} {P : Nat → Prop} {v : Value} {l : List Psp.Cert} (h : RdC w P v l) : ∃ A n c, v = .slice A n c := by obtain ⟨L, _, ⟨_, A, c, e, _⟩, _⟩ := h; exact ⟨A, _, c, e⟩
theorem Keeps.fpg {w0 W W' : World} {g : Nat} (h : Fp (fun k => k = g) W W') (hg : g < w0.heap.size) : Keeps (fun k => w0.heap.size + 2 ≤ k) (fun k => w0.heap.size + 2 ≤ k) W W' := ⟨h.size, fun b hb hlt => ⟨h.block b hlt (by omega), hb⟩⟩
theorem Keeps.var (w0 W : World) (i : Nat) (v : Value) : Keeps (fun k => w0.heap.size + 2 ≤ k) (fun k => w0.heap.size + 2 ≤ k) W (W.setCell ⟨w0.heap.size + 1, i, none⟩ v) := ⟨by simp [World.setCell], fun b hb hlt => ⟨Below.heap_setCell W ⟨w0.heap.size + 1, i, none⟩ _ b (by simp; omega), hb⟩⟩
theorem Keeps.new2 {w0 W W' : World} (hs : w0.heap.size + 1 < W.heap.size) : Keeps (fun k => W.heap.size ≤ k) (fun k => w0.heap.size + 2 ≤ k) W' W' := ⟨Nat.le_refl _, fun b hb hlt => ⟨rfl, by omega⟩⟩
theorem setCells_size (g : Nat) : ∀ (l : List Value) (k : Nat) (W : World), (W.setCells g k l).heap.size = W.heap.size
  | [], _, _ => rfl
  | v :: l, k, W => (setCells_size g l (k + 1) _).trans (by simp [World.setCell])
theorem Keeps.res {w0 W W' : World} (hs : W.heap.size ≤ W'.heap.size) (h : ∀ b, b ≠ w0.heap.size → W'.heap[b]? = W.heap[b]?) : Keeps (fun k => w0.heap.size + 2 ≤ k) (fun k => w0.heap.size ≤ k) W W' := ⟨hs, fun b hb hlt => ⟨h b (by omega), by omega⟩⟩
/-- What a call that reads a certificate, a part leaves behind. -/
def TookC (RT : TypeId) (b : List UInt8) (x : Value) (g : Nat) (o : Option Int) (w : World) (e : Ending) (w' : World) : Prop :=
  ∃ y : CertV, e = .returned (.agg (cv y).toArray) ∧ CertOk w' (fun k => w.heap.size ≤ k) y ∧ Psp.Is Psp.dC b o y.c ∧ Rs RT w' g x (Psp.nxt Psp.dC b o) ∧ Fp (fun k => k = g) w w'
def TookA (RT : TypeId) (b : List UInt8) (x : Value) (g : Nat) (o : Option Int) (w : World) (e : Ending) (w' : World) : Prop :=
  ∃ y : PartV, e = .returned (.agg (pv y).toArray) ∧ PartOk w' (fun k => w.heap.size ≤ k) y ∧ Psp.Is Psp.dP b o y.p ∧ Rs RT w' g x (Psp.nxt Psp.dP b o) ∧ Fp (fun k => k = g) w w'

set_option maxRecDepth 100000 in
set_option maxHeartbeats 1000000 in
theorem rd_cert (b : List UInt8) (x : Value) (g : Nat) (o : Option Int) (w : World) (hx : RdP w (fun k => k ≠ g) 1 x b.length (b.map bv)) (hR : Rs 215 w g x o) :
    Calls Tryz.prog 122 #[.pointer (some ⟨g, 0, none⟩)] w (TookC 215 b x g o w) := by
  have hg := hR.lt
  have t0 := Two.new hR #[.int .i64 0, .int .i64 0, .int .i64 0, .slice none 0 0, .slice none 0 0] 162
  have HX := Lib.hid hx
  have T0 := Lib.hid t0
  clear hx hR t0
  go_enter Tryz.func122, Tryz.ntmps122
  go_wp2_with fail
  refine (rd_number b x g _ _ (fun k => k ≠ g) (HX.out.fp T0.out.fp (fun k hk => hk)) T0.out.rs).mono ?_
  rintro e w1 ⟨v, rfl, h1, h2, h3, h4, h5⟩
  have t1 := T0.out.call h4 h5
  obtain ⟨x0, z0⟩ := t1.cell 0 (by simp)
  simp only [List.getElem_toArray, List.getElem_cons_zero] at x0
  have T1 := Lib.hid (t1.store 0 (.int .i64 v) (cs' := #[.int .i64 v, .int .i64 0, .int .i64 0, .slice none 0 0, .slice none 0 0]) rfl)
  have E0 := Lib.hid h3
  clear h1 h2 h3 h4 h5 t1
  go_wp2_with fail
  refine (rd_number b x g _ _ (fun k => k ≠ g) (HX.out.fp T1.out.fp (fun k hk => hk)) T1.out.rs).mono ?_
  rintro e w2 ⟨i, rfl, h1, h2, h3, h4, h5⟩
  have t1 := T1.out.call h4 h5
  obtain ⟨x1, z1⟩ := t1.cell 1 (by simp)
  simp only [List.getElem_toArray, List.getElem_cons_zero, List.getElem_cons_succ] at x1
  have T2 := Lib.hid (t1.store 1 (.int .i64 i) (cs' := #[.int .i64 v, .int .i64 i, .int .i64 0, .slice none 0 0, .slice none 0 0]) rfl)
  have E1 := Lib.hid h3
  clear h1 h2 h3 h4 h5 t1 x0 z0
  go_wp2_with fail
  refine (rd_number b x g _ _ (fun k => k ≠ g) (HX.out.fp T2.out.fp (fun k hk => hk)) T2.out.rs).mono ?_
  rintro e w3 ⟨q, rfl, h1, h2, h3, h4, h5⟩
  have t1 := T2.out.call h4 h5
  obtain ⟨x2, z2⟩ := t1.cell 2 (by simp)
  simp only [List.getElem_toArray, List.getElem_cons_zero, List.getElem_cons_succ] at x2
  have T3 := Lib.hid (t1.store 2 (.int .i64 q) (cs' := #[.int .i64 v, .int .i64 i, .int .i64 q, .slice none 0 0, .slice none 0 0]) rfl)
  have E2 := Lib.hid h3
  clear h1 h2 h3 h4 h5 t1 x1 z1
  go_wp2_with fail
  refine (rd_takenR b x g _ _ (HX.out.fp T3.out.fp (fun k hk => hk)) T3.out.rs).mono ?_
  rintro e w4 ⟨vl, l, rfl, hL, h3, h4, h5⟩
  obtain ⟨Al, nl, cl, el⟩ := hL.form
  subst el
  have hL2 := hL.keeps (Keeps.new2 T3.out.lt1)
  have t1 := T3.out.call h4 h5
  obtain ⟨x3, z3⟩ := t1.cell 3 (by simp)
  simp only [List.getElem_toArray, List.getElem_cons_zero, List.getElem_cons_succ] at x3
  have Ql_4 := Lib.hid (hL2.keeps (Keeps.var w w4 3 (.slice Al nl cl)))
  have T4 := Lib.hid (t1.store 3 (.slice Al nl cl) (cs' := #[.int .i64 v, .int .i64 i, .int .i64 q, .slice Al nl cl, .slice none 0 0]) rfl)
  have E3 := Lib.hid h3
  clear hL hL2 h3 h4 h5 t1 x2 z2
  go_wp2_with fail
  refine (rd_takenV b x g _ _ (HX.out.fp T4.out.fp (fun k hk => hk)) T4.out.rs).mono ?_
  rintro e w5 ⟨vm, m, rfl, hL, h3, h4, h5⟩
  obtain ⟨Am, nm, cm, em⟩ := hL.form
  subst em
  have hL2 := hL.keeps (Keeps.new2 T4.out.lt1)
  have t1 := T4.out.call h4 h5
  obtain ⟨x4, z4⟩ := t1.cell 4 (by simp)
  simp only [List.getElem_toArray, List.getElem_cons_zero, List.getElem_cons_succ] at x4
  have Ql_5 := Lib.hid ((Ql_4.out.keeps (Keeps.fpg h5 hg)).keeps (Keeps.var w w5 4 (.slice Am nm cm)))
  have Qm_5 := Lib.hid (hL2.keeps (Keeps.var w w5 4 (.slice Am nm cm)))
  have T5 := Lib.hid (t1.store 4 (.slice Am nm cm) (cs' := #[.int .i64 v, .int .i64 i, .int .i64 q, .slice Al nl cl, .slice Am nm cm]) rfl)
  have E4 := Lib.hid h3
  clear hL hL2 h3 h4 h5 t1 x3 z3
  have hrg := T5.out.range [.int .i64 v, .int .i64 i, .int .i64 q, .slice Al nl cl, .slice Am nm cm] rfl
  have Hrg := Lib.hid hrg
  have hth := T5.out.there
  have Hth := Lib.hid hth
  clear hrg hth
  go_wp2_with (first | (refine list_load rfl 162 (.tmp 3) rfl (w.heap.size + 1) 0 rfl [.int .i64 v, .int .i64 i, .int .i64 q, .slice Al nl cl, .slice Am nm cm] _ ?_ Tryz.underlying162 rfl sizeC ?_; exact Hrg.out) | (refine wpList_store_mid rfl 162 (.tmp 2) _ rfl w.heap.size 0 #[.int .i64 v, .int .i64 i, .int .i64 q, .slice Al nl cl, .slice Am nm cm] rfl rfl Hth.out sizeC (by simp [Value.oneCell']) ?_))
  obtain ⟨r1, r2, r3, r4⟩ := T5.out.result [.int .i64 v, .int .i64 i, .int .i64 q, .slice Al nl cl, .slice Am nm cm] rfl
  refine bodyPost_ret (v := .agg #[.int .i64 v, .int .i64 i, .int .i64 q, .slice Al nl cl, .slice Am nm cm]) ?_ rfl ?_
  · exact results_cell_row Tryz.results122 _ _ w.heap.size _ _ _ _ rfl r1 Tryz.underlying162 rfl sizeC
  · obtain ⟨c1, c2⟩ := chain_C E0.out E1.out E2.out E3.out E4.out
    have Fl := Ql_5.out.keeps (Keeps.res (by rw [setCells_size]; exact Nat.le_refl _) r4)
    have Fm := Qm_5.out.keeps (Keeps.res (by rw [setCells_size]; exact Nat.le_refl _) r4)
    exact ⟨⟨⟨v, i, q, l, m⟩, .slice Al nl cl, .slice Am nm cm⟩, rfl, ⟨Fl, Fm⟩, c1, by rw [c2]; exact r2, r3⟩

theorem zeroC (t : CertV) : (Tryz.prog.info? 162).map (fun i => (i.zero.map (·.cells.size), i.size)) = some (some (cv t).length, (cv t).length) := by
  show _ = some (some 5, 5)
  kernel_rfl
theorem zeroP (t : PartV) : (Tryz.prog.info? 168).map (fun i => (i.zero.map (·.cells.size), i.size)) = some (some (pv t).length, (pv t).length) := by
  show _ = some (some 4, 4)
  kernel_rfl
theorem certE : Elem Tryz.prog 53 162 5 72 := ⟨Tryz.underlying53, by kernel_rfl, by decide⟩
theorem partE : Elem Tryz.prog 54 168 4 64 := ⟨Tryz.underlying54, by kernel_rfl, by decide⟩
theorem cv_one {w : World} {P : Nat → Prop} {t : CertV} (h : CertOk w P t) : ∀ u ∈ (cv t).toArray.toList, u.oneCell' = true := by
  intro u hu
  simp [cv, iv] at hu
  rcases hu with rfl | rfl | rfl | rfl | rfl
  · rfl
  · rfl
  · rfl
  · exact h.1.one
  · exact h.2.one
theorem pv_one {w : World} {P : Nat → Prop} {t : PartV} (h : PartOk w P t) : ∀ u ∈ (pv t).toArray.toList, u.oneCell' = true := by
  intro u hu
  simp [pv, iv] at hu
  rcases hu with rfl | rfl | rfl | rfl
  · rfl
  · exact h.1.one
  · exact h.2.one
  · rfl

/-- What the loop keeps. -/
structure TInvC (b : List UInt8) (x : Value) (g : Nat) (o o1 : Option Int) (n : Nat) (w w' : World) (out : Value) (xs : List CertV) (o' : Option Int) : Prop where
  n256 : n ≤ 256
  le : xs.length ≤ n
  own : w'.ownsRow w.heap.size 162 5 out xs.length (xs.flatMap cv)
  many : Psp.Many Psp.dC b n o1 (xs.map (·.c)) o'
  rs : Rs 215 w' g x o'
  fp : Fp (fun k => k = g) w w'
  inner : ∀ y ∈ xs, CertOk w' (fun k => w.heap.size ≤ k ∧ out.ownBlock ≠ some k) y
/-- How the rounds of taken go: to the end, or to the next round. -/
def TJC (b : List UInt8) (x : Value) (g : Nat) (o o1 : Option Int) (n : Nat) (w : World) (lab : Nat) (a' : Act) (w' : World) : Prop :=
  (lab = 0 ∧ o.bind (Psp.dL Psp.dC b) = none ∧ Fp (fun k => k = g) w w' ∧ (∃ o', Rs 215 w' g x o') ∧ ∃ u1 u2 u3 u5 u6 u7 u8 u9 u10 u11 u12 u13 u14 u15 u16 u17 u18 u19 u20 u21 u22 u23 u24 u25 u26 u27 u28 : Value, a' = { tmps := #[.pointer (some ⟨g, 0, none⟩), u1, u2, u3, .slice none 0 0, u5, u6, u7, u8, u9, u10, u11, u12, u13, u14, u15, u16, u17, u18, u19, u20, u21, u22, u23, u24, u25, u26, u27, u28], defers := [] }) ∨
  (lab = 1 ∧ ∃ (out : Value) (xs : List CertV) (o' : Option Int), TInvC b x g o o1 n w w' out xs o' ∧ ∃ u2 u3 u7 u8 u9 u10 u11 u12 u13 u14 u15 u16 u17 u18 u19 u20 u21 u22 u23 u24 u25 u26 u27 u28 : Value, a' = { tmps := #[.pointer (some ⟨g, 0, none⟩), .func (.func 122) #[] #[], u2, u3, .slice none 0 0, out, .int .i64 (n : Int), u7, u8, u9, u10, u11, u12, u13, u14, u15, u16, u17, u18, u19, u20, u21, u22, u23, u24, u25, u26, u27, u28], defers := [] })

theorem TInvC.next {b : List UInt8} {x : Value} {g : Nat} {o o1 : Option Int} {n m c5 : Nat} {w w' w1 w2 : World} {A5 : Option Addr} {xs : List CertV} {a : Int} {t : CertV} {v' : Value} (h : TInvC b x g o o1 n w w' (.slice A5 m c5) xs (some a))
    (hm : xs.length = m) (hlt : m < n) (h0 : CertOk w1 (fun k => w'.heap.size ≤ k) t) (h3 : Psp.Is Psp.dC b (some a) t.c) (h4 : Rs 215 w1 g x (Psp.nxt Psp.dC b (some a))) (h5 : Fp (fun k => k = g) w' w1) (hg : g < w.heap.size) (hown1 : w1.ownsRow w.heap.size 162 5 (.slice A5 m c5) m (xs.flatMap cv))
    (hown2 : w2.ownsRow w.heap.size 162 5 v' (m + 1) (xs.flatMap cv ++ (cv t).toArray.toList)) (hg2 : w1.grownBy w2 (Value.slice A5 m c5).ownBlock) (hv2 : v'.ownBlock = (Value.slice A5 m c5).ownBlock ∨ v'.ownBlock = some (w1.heap.size + 1)) :
    TInvC b x g o o1 n w w2 v' (xs ++ [t]) (Psp.nxt Psp.dC b (some a)) := by
  have hz := h.fp.size
  have hz1 := h5.size
  have hgo : (Value.slice A5 m c5).ownBlock ≠ some g := fun he => by have := (hown1.lt g he).1; omega
  have k1 : Keeps (fun k => w.heap.size ≤ k ∧ (Value.slice A5 m c5).ownBlock ≠ some k) (fun k => w.heap.size ≤ k ∧ v'.ownBlock ≠ some k) w' w2 := by
    refine ⟨Nat.le_trans hz1 hg2.size, fun b hb hlt => ⟨(hg2.block b (by omega) (fun he => hb.2 he.symm)).trans (h5.block b hlt (by have := hb.1; omega)), hb.1, fun he => ?_⟩⟩
    rcases hv2 with hv | hv
    · rw [hv] at he; exact hb.2 he
    · rw [hv] at he; injection he with he; omega
  have k2 : Keeps (fun k => w'.heap.size ≤ k) (fun k => w.heap.size ≤ k ∧ v'.ownBlock ≠ some k) w1 w2 := by
    refine ⟨hg2.size, fun b hb hlt => ⟨hg2.block b hlt (fun he => ?_), by omega, fun he => ?_⟩⟩
    · have := (h.own.lt b (by rw [← he])).2; omega
    · rcases hv2 with hv | hv
      · rw [hv] at he; have := (h.own.lt b he).2; omega
      · rw [hv] at he; injection he with he; omega
  refine ⟨h.n256, by rw [List.length_append]; simp; omega, ?_, ?_, h4.keep (hg2.block g (by omega) (fun he => hgo he.symm)), (h.fp.trans h5 fun k hk => Or.inl hk).grown hg2 fun k hk => Or.inr (hown1.lt k hk).1, fun y hy => ?_⟩
  · rw [List.length_append, List.flatMap_append, hm]
    simpa using hown2
  · rw [List.map_append]
    exact h.many.step (by rw [List.length_map]; omega) h3
  · rcases List.mem_append.1 hy with hy | hy
    · exact (h.inner y hy).keeps k1
    · rw [List.mem_singleton.1 hy]
      exact h0.keeps k2

set_option maxRecDepth 100000 in
set_option maxHeartbeats 2000000 in
theorem rd_takenC (b : List UInt8) (x : Value) (g : Nat) (o : Option Int) (w : World) (hx : RdP w (fun k => k ≠ g) 1 x b.length (b.map bv)) (hR : Rs 215 w g x o) :
    Calls Tryz.prog 154 #[.pointer (some ⟨g, 0, none⟩), .func (.func 122) #[] #[]] w (TookL 215 Psp.dC RdC b x g o w) := by
  have HX := Lib.hid hx
  have HR := Lib.hid hR
  have hg := hR.lt
  clear hx hR
  go_enter Tryz.func154, Tryz.ntmps154
  go_wp2_with fail
  refine wp_scope_hops (fun lab a' w' => ∃ n : Nat, Psp.Is dN b o (n : Int) ∧ TJC b x g o (Psp.nxt dN b o) n w lab a' w') (fun lab a' _ => if lab = 0 then 0 else 300 - lenOf (a'.tmps.getD 5 undef)) ?_ ?_
  · rintro lab a' w' ⟨n, hn, ⟨rfl, hnone, hF, ⟨o', hrs⟩, u1, u2, u3, u5, u6, u7, u8, u9, u10, u11, u12, u13, u14, u15, u16, u17, u18, u19, u20, u21, u22, u23, u24, u25, u26, u27, u28, rfl⟩ | ⟨rfl, out, xs, o', hI, u2, u3, u7, u8, u9, u10, u11, u12, u13, u14, u15, u16, u17, u18, u19, u20, u21, u22, u23, u24, u25, u26, u27, u28, rfl⟩⟩
    · refine ⟨_, rfl, ?_⟩
      obtain ⟨a, bad, k0, k1, k2, z1, z2, _, _, _⟩ := hrs.cells
      have Hrs := Lib.hid hrs
      have HF := Lib.hid hF
      have Hno := Lib.hid hnone
      clear hrs hF hnone hn k0 k1 z1
      go_wp2_with fail
      go_ret
      obtain ⟨f1, f2⟩ := Hrs.out.fail
      obtain ⟨q1, q2⟩ := Psp.nxt_not Hno.out
      exact ⟨_, [], rfl, nil_C _ _, q2 _, by rw [q1]; exact f1, HF.out.trans f2 fun k hk => Or.inl hk⟩
    · refine ⟨_, rfl, ?_⟩
      obtain ⟨A5, c5, e5, _, _, _⟩ := own_slice hI.own
      subst e5
      obtain ⟨a, bad, k0, k1, k2, z1, z2, _, hs, hnn⟩ := hI.rs.cells
      have hle := hI.le
      have h256 := hI.n256
      have HI := Lib.hid hI
      have Hn := Lib.hid hn
      cases o' with
      | none =>
        have hbad := hnn rfl
        subst hbad
        have hdn : o.bind (Psp.dL Psp.dC b) = none := by
          rw [Psp.dL_of Hn.out (by omega), Int.toNat_natCast]
          exact HI.out.many.no rfl
        have Hdn := Lib.hid hdn
        clear hI hn hs hnn hdn k0 k1 z1
        go_wp2_with fail
        go_step3
        exact ⟨⟨n, Hn.out, .inl ⟨rfl, Hdn.out, HI.out.fp, ⟨_, HI.out.rs⟩, _, _, _, _, _, _, _, _, _, _, _, _, _, _, _, _, _, _, _, _, _, _, _, _, _, _, _, rfl⟩⟩, by simp [lenOf]; omega⟩
      | some p =>
        obtain ⟨hap, hbad⟩ := hs p rfl
        subst hap hbad
        clear hI hn hs hnn k0 k1 z1
        by_cases hk : xs.length = n
        · have hkb : ((xs.length : Int) == (n : Int)) = true := by simp; omega
          have hd := Psp.nxt_of ((Psp.dL_of (d := Psp.dC) Hn.out (by omega)).trans (by rw [Int.toNat_natCast]; exact HI.out.many.done (by rw [List.length_map]; exact hk)))
          have Hd := Lib.hid hd
          obtain ⟨m, hm⟩ : ∃ m, xs.length = m := ⟨_, rfl⟩
          have hfin : RdC w' (fun k => w.heap.size ≤ k) (.slice A5 m c5) (xs.map (·.c)) := by rw [← hm]; exact ⟨xs, rfl, (RdP.of_own HI.out.own).mono (fun b _ hb => hb.2), fun y hy => (HI.out.inner y hy).keeps (Keeps.mono fun b _ hb => hb.1)⟩
          have Hfin := Lib.hid hfin
          clear hfin
          have Hm := Lib.hid hm
          rw [hm] at hkb
          rw [hm]
          clear hd hk hm hle
          go_wp2_with fail
          go_ret
          exact ⟨_, _, rfl, Hfin.out, Hd.out.2, by rw [Hd.out.1]; exact HI.out.rs, HI.out.fp⟩
        · have hkb : ((xs.length : Int) == (n : Int)) = false := by simp; omega
          have hlt : xs.length < n := by omega
          have hz := HI.out.fp.size
          obtain ⟨m, hm⟩ : ∃ m, xs.length = m := ⟨_, rfl⟩
          have Hm := Lib.hid hm
          rw [hm] at hkb hlt HI
          rw [hm]
          clear hk hm hle
          go_wp2_with fail
          refine (rd_cert b x g _ _ (HX.out.fp HI.out.fp (fun k hk => hk)) HI.out.rs).mono ?_
          rintro e w1 ⟨t, rfl, h0, h3, h4, h5⟩
          have hz1 := h5.size
          have hown1 : w1.ownsRow w.heap.size 162 5 (.slice A5 m c5) m (xs.flatMap cv) := by have h := HI.out.own; rw [Hm.out] at h; exact own_keep h fun b hb => h5.block b (HI.out.own.lt b hb).2 (by have := (HI.out.own.lt b hb).1; omega)
          have Hown1 := Lib.hid hown1
          have H0 := Lib.hid h0
          have H3 := Lib.hid h3
          have H4 := Lib.hid h4
          have H5 := Lib.hid h5
          clear hown1 h0 h3 h4 h5
          go_wp2_with (first | (refine list_build1 rfl 53 (.tmp 23) rfl 162 (cv t) rfl Tryz.underlying53 (zeroC t) (by simp [cv]) (by simp [cv]) ?_) | (at_builtin; refine wpList_app1 certE rfl _ _ rfl w.heap.size _ m _ rfl Hown1.out (cv t).toArray rfl rfl (cv_one H0.out) (by omega) (by decide) (by omega) ?_; intro v' w2 hown2 hg2 hb2 hv2; have HN := Lib.hid (TInvC.next HI.out Hm.out hlt H0.out H3.out H4.out H5.out hg Hown1.out hown2 hg2 hv2); clear hown2 hg2 hb2 hv2; obtain ⟨A6, c6, e6, _, _, _⟩ := own_slice HN.out.own; have E6 := Lib.hid e6; clear e6))
          go_step3
          refine ⟨⟨n, Hn.out, .inr ⟨rfl, _, _, _, HN.out, _, _, _, _, _, _, _, _, _, _, _, _, _, _, _, _, _, _, _, _, _, _, _, _, rfl⟩⟩, ?_⟩
          show 300 - lenOf _ < 300 - _
          rw [show lenOf _ = m + 1 from by rw [E6.out]; simp [lenOf, Hm.out]]
          show 300 - (m + 1) < 300 - m
          omega
  · intro H
    have HH := Lib.hid H
    clear H
    go_wp2_with fail
    refine (rd_number b x g o _ (fun k => k ≠ g) HX.out HR.out).mono ?_
    rintro e w1 ⟨n0, rfl, h1, h2, h3, h4, h5⟩
    obtain ⟨n, rfl⟩ : ∃ n : Nat, n0 = (n : Int) := ⟨n0.toNat, by omega⟩
    have H3 := Lib.hid h3
    have H4 := Lib.hid h4
    have H5 := Lib.hid h5
    clear h3 h4 h5
    by_cases h256 : 256 < n
    · have d1 : decide (256 < (n : Int)) = true := by simp; omega
      go_wp2_with fail
      go_step3
      exact ⟨n, H3.out, .inl ⟨rfl, Psp.dL_big H3.out (by omega), H5.out, ⟨_, H4.out⟩, _, _, _, _, _, _, _, _, _, _, _, _, _, _, _, _, _, _, _, _, _, _, _, _, _, _, _, rfl⟩⟩
    · have d1 : decide (256 < (n : Int)) = false := by simp; omega
      have hst : TInvC b x g o (Psp.nxt dN b o) n w w1 (.slice none 0 0) [] (Psp.nxt dN b o) := ⟨by omega, by simp, World.ownsRow_nil _ _ _ _, Psp.Many.start, H4.out, H5.out, fun y hy => by cases hy⟩
      have Hst := Lib.hid hst
      clear hst
      go_wp2_with fail
      go_step3
      simp only [Exit.then]
      rename_i hK
      refine hK _ _ (HH.out 1 _ _ ⟨n, H3.out, .inr ⟨rfl, _, _, _, Hst.out, _, _, _, _, _, _, _, _, _, _, _, _, _, _, _, _, _, _, _, _, _, _, _, _, rfl⟩⟩ _ rfl)

set_option maxRecDepth 100000 in
set_option maxHeartbeats 1000000 in
theorem rd_part (b : List UInt8) (x : Value) (g : Nat) (o : Option Int) (w : World) (hx : RdP w (fun k => k ≠ g) 1 x b.length (b.map bv)) (hR : Rs 215 w g x o) :
    Calls Tryz.prog 124 #[.pointer (some ⟨g, 0, none⟩)] w (TookA 215 b x g o w) := by
  have hg := hR.lt
  have t0 := Two.new hR #[.int .i64 0, .slice none 0 0, .slice none 0 0, .int .i64 0] 168
  have HX := Lib.hid hx
  have T0 := Lib.hid t0
  clear hx hR t0
  go_enter Tryz.func124, Tryz.ntmps124
  go_wp2_with fail
  refine (rd_number b x g _ _ (fun k => k ≠ g) (HX.out.fp T0.out.fp (fun k hk => hk)) T0.out.rs).mono ?_
  rintro e w1 ⟨f, rfl, h1, h2, h3, h4, h5⟩
  have t1 := T0.out.call h4 h5
  obtain ⟨x0, z0⟩ := t1.cell 0 (by simp)
  simp only [List.getElem_toArray, List.getElem_cons_zero] at x0
  have T1 := Lib.hid (t1.store 0 (.int .i64 f) (cs' := #[.int .i64 f, .slice none 0 0, .slice none 0 0, .int .i64 0]) rfl)
  have E0 := Lib.hid h3
  clear h1 h2 h3 h4 h5 t1
  go_wp2_with fail
  refine (rd_takenV b x g _ _ (HX.out.fp T1.out.fp (fun k hk => hk)) T1.out.rs).mono ?_
  rintro e w2 ⟨vm, m, rfl, hL, h3, h4, h5⟩
  obtain ⟨Am, nm, cm, em⟩ := hL.form
  subst em
  have hL2 := hL.keeps (Keeps.new2 T1.out.lt1)
  have t1 := T1.out.call h4 h5
  obtain ⟨x1, z1⟩ := t1.cell 1 (by simp)
  simp only [List.getElem_toArray, List.getElem_cons_zero, List.getElem_cons_succ] at x1
  have Qm_2 := Lib.hid (hL2.keeps (Keeps.var w w2 1 (.slice Am nm cm)))
  have T2 := Lib.hid (t1.store 1 (.slice Am nm cm) (cs' := #[.int .i64 f, .slice Am nm cm, .slice none 0 0, .int .i64 0]) rfl)
  have E1 := Lib.hid h3
  clear hL hL2 h3 h4 h5 t1 x0 z0
  go_wp2_with fail
  refine (rd_takenC b x g _ _ (HX.out.fp T2.out.fp (fun k hk => hk)) T2.out.rs).mono ?_
  rintro e w3 ⟨vl, l, rfl, hL, h3, h4, h5⟩
  obtain ⟨Al, nl, cl, el⟩ := hL.form
  subst el
  have hL2 := hL.keeps (Keeps.new2 T2.out.lt1)
  have t1 := T2.out.call h4 h5
  obtain ⟨x2, z2⟩ := t1.cell 2 (by simp)
  simp only [List.getElem_toArray, List.getElem_cons_zero, List.getElem_cons_succ] at x2
  have Qm_3 := Lib.hid ((Qm_2.out.keeps (Keeps.fpg h5 hg)).keeps (Keeps.var w w3 2 (.slice Al nl cl)))
  have Ql_3 := Lib.hid (hL2.keeps (Keeps.var w w3 2 (.slice Al nl cl)))
  have T3 := Lib.hid (t1.store 2 (.slice Al nl cl) (cs' := #[.int .i64 f, .slice Am nm cm, .slice Al nl cl, .int .i64 0]) rfl)
  have E2 := Lib.hid h3
  clear hL hL2 h3 h4 h5 t1 x1 z1
  go_wp2_with fail
  refine (rd_number b x g _ _ (fun k => k ≠ g) (HX.out.fp T3.out.fp (fun k hk => hk)) T3.out.rs).mono ?_
  rintro e w4 ⟨s, rfl, h1, h2, h3, h4, h5⟩
  have t1 := T3.out.call h4 h5
  obtain ⟨x3, z3⟩ := t1.cell 3 (by simp)
  simp only [List.getElem_toArray, List.getElem_cons_zero, List.getElem_cons_succ] at x3
  have Qm_4 := Lib.hid ((Qm_3.out.keeps (Keeps.fpg h5 hg)).keeps (Keeps.var w w4 3 (.int .i64 s)))
  have Ql_4 := Lib.hid ((Ql_3.out.keeps (Keeps.fpg h5 hg)).keeps (Keeps.var w w4 3 (.int .i64 s)))
  have T4 := Lib.hid (t1.store 3 (.int .i64 s) (cs' := #[.int .i64 f, .slice Am nm cm, .slice Al nl cl, .int .i64 s]) rfl)
  have E3 := Lib.hid h3
  clear h1 h2 h3 h4 h5 t1 x2 z2
  have hrg := T4.out.range [.int .i64 f, .slice Am nm cm, .slice Al nl cl, .int .i64 s] rfl
  have Hrg := Lib.hid hrg
  have hth := T4.out.there
  have Hth := Lib.hid hth
  clear hrg hth
  go_wp2_with (first | (refine list_load rfl 168 (.tmp 3) rfl (w.heap.size + 1) 0 rfl [.int .i64 f, .slice Am nm cm, .slice Al nl cl, .int .i64 s] _ ?_ Tryz.underlying168 rfl sizeP ?_; exact Hrg.out) | (refine wpList_store_mid rfl 168 (.tmp 2) _ rfl w.heap.size 0 #[.int .i64 f, .slice Am nm cm, .slice Al nl cl, .int .i64 s] rfl rfl Hth.out sizeP (by simp [Value.oneCell']) ?_))
  obtain ⟨r1, r2, r3, r4⟩ := T4.out.result [.int .i64 f, .slice Am nm cm, .slice Al nl cl, .int .i64 s] rfl
  refine bodyPost_ret (v := .agg #[.int .i64 f, .slice Am nm cm, .slice Al nl cl, .int .i64 s]) ?_ rfl ?_
  · exact results_cell_row Tryz.results124 _ _ w.heap.size _ _ _ _ rfl r1 Tryz.underlying168 rfl sizeP
  · obtain ⟨c1, c2⟩ := chain_P E0.out E1.out E2.out E3.out
    have Fm := Qm_4.out.keeps (Keeps.res (by rw [setCells_size]; exact Nat.le_refl _) r4)
    have Fl := Ql_4.out.keeps (Keeps.res (by rw [setCells_size]; exact Nat.le_refl _) r4)
    exact ⟨⟨⟨f, m, l, s⟩, .slice Am nm cm, .slice Al nl cl⟩, rfl, ⟨Fm, Fl⟩, c1, by rw [c2]; exact r2, r3⟩

/-- What the loop keeps. -/
structure TInvP (b : List UInt8) (x : Value) (g : Nat) (o o1 : Option Int) (n : Nat) (w w' : World) (out : Value) (xs : List PartV) (o' : Option Int) : Prop where
  n256 : n ≤ 256
  le : xs.length ≤ n
  own : w'.ownsRow w.heap.size 168 4 out xs.length (xs.flatMap pv)
  many : Psp.Many Psp.dP b n o1 (xs.map (·.p)) o'
  rs : Rs 215 w' g x o'
  fp : Fp (fun k => k = g) w w'
  inner : ∀ y ∈ xs, PartOk w' (fun k => w.heap.size ≤ k ∧ out.ownBlock ≠ some k) y
/-- How the rounds of taken go: to the end, or to the next round. -/
def TJP (b : List UInt8) (x : Value) (g : Nat) (o o1 : Option Int) (n : Nat) (w : World) (lab : Nat) (a' : Act) (w' : World) : Prop :=
  (lab = 0 ∧ o.bind (Psp.dL Psp.dP b) = none ∧ Fp (fun k => k = g) w w' ∧ (∃ o', Rs 215 w' g x o') ∧ ∃ u1 u2 u3 u5 u6 u7 u8 u9 u10 u11 u12 u13 u14 u15 u16 u17 u18 u19 u20 u21 u22 u23 u24 u25 u26 u27 u28 : Value, a' = { tmps := #[.pointer (some ⟨g, 0, none⟩), u1, u2, u3, .slice none 0 0, u5, u6, u7, u8, u9, u10, u11, u12, u13, u14, u15, u16, u17, u18, u19, u20, u21, u22, u23, u24, u25, u26, u27, u28], defers := [] }) ∨
  (lab = 1 ∧ ∃ (out : Value) (xs : List PartV) (o' : Option Int), TInvP b x g o o1 n w w' out xs o' ∧ ∃ u2 u3 u7 u8 u9 u10 u11 u12 u13 u14 u15 u16 u17 u18 u19 u20 u21 u22 u23 u24 u25 u26 u27 u28 : Value, a' = { tmps := #[.pointer (some ⟨g, 0, none⟩), .func (.func 124) #[] #[], u2, u3, .slice none 0 0, out, .int .i64 (n : Int), u7, u8, u9, u10, u11, u12, u13, u14, u15, u16, u17, u18, u19, u20, u21, u22, u23, u24, u25, u26, u27, u28], defers := [] })

theorem TInvP.next {b : List UInt8} {x : Value} {g : Nat} {o o1 : Option Int} {n m c5 : Nat} {w w' w1 w2 : World} {A5 : Option Addr} {xs : List PartV} {a : Int} {t : PartV} {v' : Value} (h : TInvP b x g o o1 n w w' (.slice A5 m c5) xs (some a))
    (hm : xs.length = m) (hlt : m < n) (h0 : PartOk w1 (fun k => w'.heap.size ≤ k) t) (h3 : Psp.Is Psp.dP b (some a) t.p) (h4 : Rs 215 w1 g x (Psp.nxt Psp.dP b (some a))) (h5 : Fp (fun k => k = g) w' w1) (hg : g < w.heap.size) (hown1 : w1.ownsRow w.heap.size 168 4 (.slice A5 m c5) m (xs.flatMap pv))
    (hown2 : w2.ownsRow w.heap.size 168 4 v' (m + 1) (xs.flatMap pv ++ (pv t).toArray.toList)) (hg2 : w1.grownBy w2 (Value.slice A5 m c5).ownBlock) (hv2 : v'.ownBlock = (Value.slice A5 m c5).ownBlock ∨ v'.ownBlock = some (w1.heap.size + 1)) :
    TInvP b x g o o1 n w w2 v' (xs ++ [t]) (Psp.nxt Psp.dP b (some a)) := by
  have hz := h.fp.size
  have hz1 := h5.size
  have hgo : (Value.slice A5 m c5).ownBlock ≠ some g := fun he => by have := (hown1.lt g he).1; omega
  have k1 : Keeps (fun k => w.heap.size ≤ k ∧ (Value.slice A5 m c5).ownBlock ≠ some k) (fun k => w.heap.size ≤ k ∧ v'.ownBlock ≠ some k) w' w2 := by
    refine ⟨Nat.le_trans hz1 hg2.size, fun b hb hlt => ⟨(hg2.block b (by omega) (fun he => hb.2 he.symm)).trans (h5.block b hlt (by have := hb.1; omega)), hb.1, fun he => ?_⟩⟩
    rcases hv2 with hv | hv
    · rw [hv] at he; exact hb.2 he
    · rw [hv] at he; injection he with he; omega
  have k2 : Keeps (fun k => w'.heap.size ≤ k) (fun k => w.heap.size ≤ k ∧ v'.ownBlock ≠ some k) w1 w2 := by
    refine ⟨hg2.size, fun b hb hlt => ⟨hg2.block b hlt (fun he => ?_), by omega, fun he => ?_⟩⟩
    · have := (h.own.lt b (by rw [← he])).2; omega
    · rcases hv2 with hv | hv
      · rw [hv] at he; have := (h.own.lt b he).2; omega
      · rw [hv] at he; injection he with he; omega
  refine ⟨h.n256, by rw [List.length_append]; simp; omega, ?_, ?_, h4.keep (hg2.block g (by omega) (fun he => hgo he.symm)), (h.fp.trans h5 fun k hk => Or.inl hk).grown hg2 fun k hk => Or.inr (hown1.lt k hk).1, fun y hy => ?_⟩
  · rw [List.length_append, List.flatMap_append, hm]
    simpa using hown2
  · rw [List.map_append]
    exact h.many.step (by rw [List.length_map]; omega) h3
  · rcases List.mem_append.1 hy with hy | hy
    · exact (h.inner y hy).keeps k1
    · rw [List.mem_singleton.1 hy]
      exact h0.keeps k2

set_option maxRecDepth 100000 in
set_option maxHeartbeats 2000000 in
theorem rd_takenP (b : List UInt8) (x : Value) (g : Nat) (o : Option Int) (w : World) (hx : RdP w (fun k => k ≠ g) 1 x b.length (b.map bv)) (hR : Rs 215 w g x o) :
    Calls Tryz.prog 155 #[.pointer (some ⟨g, 0, none⟩), .func (.func 124) #[] #[]] w (TookL 215 Psp.dP RdA b x g o w) := by
  have HX := Lib.hid hx
  have HR := Lib.hid hR
  have hg := hR.lt
  clear hx hR
  go_enter Tryz.func155, Tryz.ntmps155
  go_wp2_with fail
  refine wp_scope_hops (fun lab a' w' => ∃ n : Nat, Psp.Is dN b o (n : Int) ∧ TJP b x g o (Psp.nxt dN b o) n w lab a' w') (fun lab a' _ => if lab = 0 then 0 else 300 - lenOf (a'.tmps.getD 5 undef)) ?_ ?_
  · rintro lab a' w' ⟨n, hn, ⟨rfl, hnone, hF, ⟨o', hrs⟩, u1, u2, u3, u5, u6, u7, u8, u9, u10, u11, u12, u13, u14, u15, u16, u17, u18, u19, u20, u21, u22, u23, u24, u25, u26, u27, u28, rfl⟩ | ⟨rfl, out, xs, o', hI, u2, u3, u7, u8, u9, u10, u11, u12, u13, u14, u15, u16, u17, u18, u19, u20, u21, u22, u23, u24, u25, u26, u27, u28, rfl⟩⟩
    · refine ⟨_, rfl, ?_⟩
      obtain ⟨a, bad, k0, k1, k2, z1, z2, _, _, _⟩ := hrs.cells
      have Hrs := Lib.hid hrs
      have HF := Lib.hid hF
      have Hno := Lib.hid hnone
      clear hrs hF hnone hn k0 k1 z1
      go_wp2_with fail
      go_ret
      obtain ⟨f1, f2⟩ := Hrs.out.fail
      obtain ⟨q1, q2⟩ := Psp.nxt_not Hno.out
      exact ⟨_, [], rfl, nil_A _ _, q2 _, by rw [q1]; exact f1, HF.out.trans f2 fun k hk => Or.inl hk⟩
    · refine ⟨_, rfl, ?_⟩
      obtain ⟨A5, c5, e5, _, _, _⟩ := own_slice hI.own
      subst e5
      obtain ⟨a, bad, k0, k1, k2, z1, z2, _, hs, hnn⟩ := hI.rs.cells
      have hle := hI.le
      have h256 := hI.n256
      have HI := Lib.hid hI
      have Hn := Lib.hid hn
      cases o' with
      | none =>
        have hbad := hnn rfl
        subst hbad
        have hdn : o.bind (Psp.dL Psp.dP b) = none := by
          rw [Psp.dL_of Hn.out (by omega), Int.toNat_natCast]
          exact HI.out.many.no rfl
        have Hdn := Lib.hid hdn
        clear hI hn hs hnn hdn k0 k1 z1
        go_wp2_with fail
        go_step3
        exact ⟨⟨n, Hn.out, .inl ⟨rfl, Hdn.out, HI.out.fp, ⟨_, HI.out.rs⟩, _, _, _, _, _, _, _, _, _, _, _, _, _, _, _, _, _, _, _, _, _, _, _, _, _, _, _, rfl⟩⟩, by simp [lenOf]; omega⟩
      | some p =>
        obtain ⟨hap, hbad⟩ := hs p rfl
        subst hap hbad
        clear hI hn hs hnn k0 k1 z1
        by_cases hk : xs.length = n
        · have hkb : ((xs.length : Int) == (n : Int)) = true := by simp; omega
          have hd := Psp.nxt_of ((Psp.dL_of (d := Psp.dP) Hn.out (by omega)).trans (by rw [Int.toNat_natCast]; exact HI.out.many.done (by rw [List.length_map]; exact hk)))
          have Hd := Lib.hid hd
          obtain ⟨m, hm⟩ : ∃ m, xs.length = m := ⟨_, rfl⟩
          have hfin : RdA w' (fun k => w.heap.size ≤ k) (.slice A5 m c5) (xs.map (·.p)) := by rw [← hm]; exact ⟨xs, rfl, (RdP.of_own HI.out.own).mono (fun b _ hb => hb.2), fun y hy => (HI.out.inner y hy).keeps (Keeps.mono fun b _ hb => hb.1)⟩
          have Hfin := Lib.hid hfin
          clear hfin
          have Hm := Lib.hid hm
          rw [hm] at hkb
          rw [hm]
          clear hd hk hm hle
          go_wp2_with fail
          go_ret
          exact ⟨_, _, rfl, Hfin.out, Hd.out.2, by rw [Hd.out.1]; exact HI.out.rs, HI.out.fp⟩
        · have hkb : ((xs.length : Int) == (n : Int)) = false := by simp; omega
          have hlt : xs.length < n := by omega
          have hz := HI.out.fp.size
          obtain ⟨m, hm⟩ : ∃ m, xs.length = m := ⟨_, rfl⟩
          have Hm := Lib.hid hm
          rw [hm] at hkb hlt HI
          rw [hm]
          clear hk hm hle
          go_wp2_with fail
          refine (rd_part b x g _ _ (HX.out.fp HI.out.fp (fun k hk => hk)) HI.out.rs).mono ?_
          rintro e w1 ⟨t, rfl, h0, h3, h4, h5⟩
          have hz1 := h5.size
          have hown1 : w1.ownsRow w.heap.size 168 4 (.slice A5 m c5) m (xs.flatMap pv) := by have h := HI.out.own; rw [Hm.out] at h; exact own_keep h fun b hb => h5.block b (HI.out.own.lt b hb).2 (by have := (HI.out.own.lt b hb).1; omega)
          have Hown1 := Lib.hid hown1
          have H0 := Lib.hid h0
          have H3 := Lib.hid h3
          have H4 := Lib.hid h4
          have H5 := Lib.hid h5
          clear hown1 h0 h3 h4 h5
          go_wp2_with (first | (refine list_build1 rfl 54 (.tmp 23) rfl 168 (pv t) rfl Tryz.underlying54 (zeroP t) (by simp [pv]) (by simp [pv]) ?_) | (at_builtin; refine wpList_app1 partE rfl _ _ rfl w.heap.size _ m _ rfl Hown1.out (pv t).toArray rfl rfl (pv_one H0.out) (by omega) (by decide) (by omega) ?_; intro v' w2 hown2 hg2 hb2 hv2; have HN := Lib.hid (TInvP.next HI.out Hm.out hlt H0.out H3.out H4.out H5.out hg Hown1.out hown2 hg2 hv2); clear hown2 hg2 hb2 hv2; obtain ⟨A6, c6, e6, _, _, _⟩ := own_slice HN.out.own; have E6 := Lib.hid e6; clear e6))
          go_step3
          refine ⟨⟨n, Hn.out, .inr ⟨rfl, _, _, _, HN.out, _, _, _, _, _, _, _, _, _, _, _, _, _, _, _, _, _, _, _, _, _, _, _, _, rfl⟩⟩, ?_⟩
          show 300 - lenOf _ < 300 - _
          rw [show lenOf _ = m + 1 from by rw [E6.out]; simp [lenOf, Hm.out]]
          show 300 - (m + 1) < 300 - m
          omega
  · intro H
    have HH := Lib.hid H
    clear H
    go_wp2_with fail
    refine (rd_number b x g o _ (fun k => k ≠ g) HX.out HR.out).mono ?_
    rintro e w1 ⟨n0, rfl, h1, h2, h3, h4, h5⟩
    obtain ⟨n, rfl⟩ : ∃ n : Nat, n0 = (n : Int) := ⟨n0.toNat, by omega⟩
    have H3 := Lib.hid h3
    have H4 := Lib.hid h4
    have H5 := Lib.hid h5
    clear h3 h4 h5
    by_cases h256 : 256 < n
    · have d1 : decide (256 < (n : Int)) = true := by simp; omega
      go_wp2_with fail
      go_step3
      exact ⟨n, H3.out, .inl ⟨rfl, Psp.dL_big H3.out (by omega), H5.out, ⟨_, H4.out⟩, _, _, _, _, _, _, _, _, _, _, _, _, _, _, _, _, _, _, _, _, _, _, _, _, _, _, _, rfl⟩⟩
    · have d1 : decide (256 < (n : Int)) = false := by simp; omega
      have hst : TInvP b x g o (Psp.nxt dN b o) n w w1 (.slice none 0 0) [] (Psp.nxt dN b o) := ⟨by omega, by simp, World.ownsRow_nil _ _ _ _, Psp.Many.start, H4.out, H5.out, fun y hy => by cases hy⟩
      have Hst := Lib.hid hst
      clear hst
      go_wp2_with fail
      go_step3
      simp only [Exit.then]
      rename_i hK
      refine hK _ _ (HH.out 1 _ _ ⟨n, H3.out, .inr ⟨rfl, _, _, _, Hst.out, _, _, _, _, _, _, _, _, _, _, _, _, _, _, _, _, _, _, _, _, _, _, _, _, rfl⟩⟩ _ rfl)

end Go.Proofs.YtipmjleohadoeaaGreat

end

section
/- Package pack: what is taken out of bytes at a place. Printed by gen_rd5.py. -/
namespace Go.Proofs.YtipmjleohadoeaaGreat
open Go.RowKit
set_option linter.unusedVariables false

theorem Rs.new {w : World} (T : TypeId) (x : Value) {a : Int} (ha : isI64 a) : Rs T (w.alloc (.cells #[x, .int .i64 a, .bool false] T)) w.heap.size x (some a) :=
  ⟨a, false, heap_alloc_new w _, ha, (fun c hc => ⟨by injection hc, rfl⟩), (fun h => by cases h)⟩
/-- What a call that takes a list at a place returns. -/
def Taken {α : Type} (d : Psp.Dec (List α)) (RD : World → (Nat → Prop) → Value → List α → Prop) (b : List UInt8) (a : Int) (w : World) (e : Ending) (w' : World) : Prop :=
  (∀ l a', d b a = some (l, a') → ∃ v, e = .returned (.tuple #[v, .int .i64 a', .bool true]) ∧ RD w' (fun k => w.heap.size ≤ k) v l) ∧
  (d b a = none → e = .returned (.tuple #[.slice none 0 0, .int .i64 0, .bool false])) ∧ Below w.heap.size w w'
set_option maxRecDepth 100000 in
set_option maxHeartbeats 1000000 in
theorem wholeR (b : List UInt8) (x : Value) (a : Int) (w : World) (hx : RdP w (fun k => k < w.heap.size) 1 x b.length (b.map bv)) (ha : isI64 a) :
    Calls Tryz.prog 117 #[x, .int .i64 a, .func (.func 118) #[] #[]] w (Taken (Psp.dL Psp.dR) RdR b a w) := by
  have hx1 : RdP (w.alloc (.cells #[x, .int .i64 a, .bool false] 215)) (fun k => k ≠ w.heap.size) 1 x b.length (b.map bv) := hx.keeps (Keeps.newb _ _)
  have hr0 : Rs 215 (w.alloc (.cells #[x, .int .i64 a, .bool false] 215)) w.heap.size x (some a) := Rs.new _ x ha
  obtain ⟨_, A, c, rfl, _, _, _⟩ := hx.parts
  have HX := Lib.hid hx1
  have HR := Lib.hid hr0
  clear hx hx1 hr0
  go_enter Tryz.func117, Tryz.ntmps117
  go_wp2_with fail
  refine (rd_takenR b _ w.heap.size (some a) _ HX.out HR.out).mono ?_
  rintro e w1 ⟨v, l, rfl, hL, h3, h4, h5⟩
  have hz := h5.size
  have hbel : Below w.heap.size w w1 := (alloc_below w _).trans (h5.to_below (by simp) fun k _ hk => by omega)
  have hL2 : RdR w1 (fun k => w.heap.size ≤ k) v l := hL.keeps (Keeps.mono fun k _ hk => by simp at hk; omega)
  obtain ⟨p, bad, k0, k1, k2, z1, z2, _, hs, hn⟩ := h4.cells
  have HL := Lib.hid hL2
  have Hbel := Lib.hid hbel
  have H3 := Lib.hid h3
  cases hd : Psp.dL Psp.dR b a with
  | none =>
    rw [Psp.nxt_no hd] at hn
    have hbad := hn rfl
    subst hbad
    have Hd := Lib.hid hd
    clear hd hL hL2 h3 h4 h5 hbel hs hn k0 k1 z1 z2
    go_wp2_with fail
    go_ret3
    exact ⟨fun l a' h => (by rw [Hd.out] at h; cases h), fun _ => rfl, Hbel.out⟩
  | some q =>
    obtain ⟨l', a'⟩ := q
    rw [Psp.nxt_yes hd] at hs
    obtain ⟨hpa, hbad⟩ := hs a' rfl
    subst hpa hbad
    have hll : l = l' := H3.out (l', p) (by simp [hd])
    subst hll
    have Hd := Lib.hid hd
    have K1 := later_cell k1
    clear hd hL hL2 h3 h4 h5 hbel hs hn k0 z1 z2
    go_wp2_with fail
    refine wp_region_later (by kernel_rfl) (by kernel_rfl) ?_
    repeat (go_big_quiet_step (fail))
    refine wpQuiet_nil ?_
    intro w3 hw'
    have hb3 := later_out hw'
    clear hw'
    have Hb3 := Lib.hid hb3
    clear hb3
    go_wp2_with fail
    go_ret3
    exact ⟨fun l a' h => (by rw [Hd.out] at h; injection h with h; injection h with h1 h2; subst h1 h2; exact ⟨v, rfl, HL.out.keeps (Keeps.below Hb3.out)⟩), fun h => (by rw [Hd.out] at h; cases h), Below.then Hbel.out Hb3.out Hbel.out.size⟩

set_option maxRecDepth 100000 in
theorem takeR (b : List UInt8) (x : Value) (a : Int) (w : World) (hx : RdP w (fun k => k < w.heap.size) 1 x b.length (b.map bv)) (ha : isI64 a) :
    Calls Tryz.prog 83 #[x, .int .i64 a] w (Taken (Psp.dL Psp.dR) RdR b a w) := by
  have HX := Lib.hid hx
  have Ha := Lib.hid ha
  clear hx ha
  go_enter Tryz.func83, Tryz.ntmps83
  go_wp2_with fail
  refine (wholeR b x a w HX.out Ha.out).mono ?_
  intro e w1 h
  obtain ⟨h1, h2, h3⟩ := h
  have H1 := Lib.hid h1
  have H2 := Lib.hid h2
  have H3 := Lib.hid h3
  clear h1 h2 h3
  cases hd : Psp.dL Psp.dR b a with
  | none =>
    have he := H2.out hd
    subst he
    have Hd := Lib.hid hd
    clear hd
    go_wp2_with fail
    go_ret3
    exact ⟨fun l a' h => (by rw [Hd.out] at h; cases h), fun _ => rfl, H3.out⟩
  | some q =>
    obtain ⟨l, a'⟩ := q
    obtain ⟨v, he, hL⟩ := H1.out l a' hd
    subst he
    have Hd := Lib.hid hd
    have HL := Lib.hid hL
    clear hd hL
    go_wp2_with fail
    go_ret3
    exact ⟨fun l2 a2 h => (by rw [Hd.out] at h; injection h with h; injection h with h1 h2; subst h1 h2; exact ⟨v, rfl, HL.out⟩), fun h => (by rw [Hd.out] at h; cases h), H3.out⟩

set_option maxRecDepth 100000 in
set_option maxHeartbeats 1000000 in
theorem wholeV (b : List UInt8) (x : Value) (a : Int) (w : World) (hx : RdP w (fun k => k < w.heap.size) 1 x b.length (b.map bv)) (ha : isI64 a) :
    Calls Tryz.prog 119 #[x, .int .i64 a, .func (.func 120) #[] #[]] w (Taken (Psp.dL Psp.dV) RdV b a w) := by
  have hx1 : RdP (w.alloc (.cells #[x, .int .i64 a, .bool false] 215)) (fun k => k ≠ w.heap.size) 1 x b.length (b.map bv) := hx.keeps (Keeps.newb _ _)
  have hr0 : Rs 215 (w.alloc (.cells #[x, .int .i64 a, .bool false] 215)) w.heap.size x (some a) := Rs.new _ x ha
  obtain ⟨_, A, c, rfl, _, _, _⟩ := hx.parts
  have HX := Lib.hid hx1
  have HR := Lib.hid hr0
  clear hx hx1 hr0
  go_enter Tryz.func119, Tryz.ntmps119
  go_wp2_with fail
  refine (rd_takenV b _ w.heap.size (some a) _ HX.out HR.out).mono ?_
  rintro e w1 ⟨v, l, rfl, hL, h3, h4, h5⟩
  have hz := h5.size
  have hbel : Below w.heap.size w w1 := (alloc_below w _).trans (h5.to_below (by simp) fun k _ hk => by omega)
  have hL2 : RdV w1 (fun k => w.heap.size ≤ k) v l := hL.keeps (Keeps.mono fun k _ hk => by simp at hk; omega)
  obtain ⟨p, bad, k0, k1, k2, z1, z2, _, hs, hn⟩ := h4.cells
  have HL := Lib.hid hL2
  have Hbel := Lib.hid hbel
  have H3 := Lib.hid h3
  cases hd : Psp.dL Psp.dV b a with
  | none =>
    rw [Psp.nxt_no hd] at hn
    have hbad := hn rfl
    subst hbad
    have Hd := Lib.hid hd
    clear hd hL hL2 h3 h4 h5 hbel hs hn k0 k1 z1 z2
    go_wp2_with fail
    go_ret3
    exact ⟨fun l a' h => (by rw [Hd.out] at h; cases h), fun _ => rfl, Hbel.out⟩
  | some q =>
    obtain ⟨l', a'⟩ := q
    rw [Psp.nxt_yes hd] at hs
    obtain ⟨hpa, hbad⟩ := hs a' rfl
    subst hpa hbad
    have hll : l = l' := H3.out (l', p) (by simp [hd])
    subst hll
    have Hd := Lib.hid hd
    have K1 := later_cell k1
    clear hd hL hL2 h3 h4 h5 hbel hs hn k0 z1 z2
    go_wp2_with fail
    refine wp_region_later (by kernel_rfl) (by kernel_rfl) ?_
    repeat (go_big_quiet_step (fail))
    refine wpQuiet_nil ?_
    intro w3 hw'
    have hb3 := later_out hw'
    clear hw'
    have Hb3 := Lib.hid hb3
    clear hb3
    go_wp2_with fail
    go_ret3
    exact ⟨fun l a' h => (by rw [Hd.out] at h; injection h with h; injection h with h1 h2; subst h1 h2; exact ⟨v, rfl, HL.out.keeps (Keeps.below Hb3.out)⟩), fun h => (by rw [Hd.out] at h; cases h), Below.then Hbel.out Hb3.out Hbel.out.size⟩

set_option maxRecDepth 100000 in
theorem takeV (b : List UInt8) (x : Value) (a : Int) (w : World) (hx : RdP w (fun k => k < w.heap.size) 1 x b.length (b.map bv)) (ha : isI64 a) :
    Calls Tryz.prog 84 #[x, .int .i64 a] w (Taken (Psp.dL Psp.dV) RdV b a w) := by
  have HX := Lib.hid hx
  have Ha := Lib.hid ha
  clear hx ha
  go_enter Tryz.func84, Tryz.ntmps84
  go_wp2_with fail
  refine (wholeV b x a w HX.out Ha.out).mono ?_
  intro e w1 h
  obtain ⟨h1, h2, h3⟩ := h
  have H1 := Lib.hid h1
  have H2 := Lib.hid h2
  have H3 := Lib.hid h3
  clear h1 h2 h3
  cases hd : Psp.dL Psp.dV b a with
  | none =>
    have he := H2.out hd
    subst he
    have Hd := Lib.hid hd
    clear hd
    go_wp2_with fail
    go_ret3
    exact ⟨fun l a' h => (by rw [Hd.out] at h; cases h), fun _ => rfl, H3.out⟩
  | some q =>
    obtain ⟨l, a'⟩ := q
    obtain ⟨v, he, hL⟩ := H1.out l a' hd
    subst he
    have Hd := Lib.hid hd
    have HL := Lib.hid hL
    clear hd hL
    go_wp2_with fail
    go_ret3
    exact ⟨fun l2 a2 h => (by rw [Hd.out] at h; injection h with h; injection h with h1 h2; subst h1 h2; exact ⟨v, rfl, HL.out⟩), fun h => (by rw [Hd.out] at h; cases h), H3.out⟩

set_option maxRecDepth 100000 in
set_option maxHeartbeats 1000000 in
theorem wholeC (b : List UInt8) (x : Value) (a : Int) (w : World) (hx : RdP w (fun k => k < w.heap.size) 1 x b.length (b.map bv)) (ha : isI64 a) :
    Calls Tryz.prog 121 #[x, .int .i64 a, .func (.func 122) #[] #[]] w (Taken (Psp.dL Psp.dC) RdC b a w) := by
  have hx1 : RdP (w.alloc (.cells #[x, .int .i64 a, .bool false] 215)) (fun k => k ≠ w.heap.size) 1 x b.length (b.map bv) := hx.keeps (Keeps.newb _ _)
  have hr0 : Rs 215 (w.alloc (.cells #[x, .int .i64 a, .bool false] 215)) w.heap.size x (some a) := Rs.new _ x ha
  obtain ⟨_, A, c, rfl, _, _, _⟩ := hx.parts
  have HX := Lib.hid hx1
  have HR := Lib.hid hr0
  clear hx hx1 hr0
  go_enter Tryz.func121, Tryz.ntmps121
  go_wp2_with fail
  refine (rd_takenC b _ w.heap.size (some a) _ HX.out HR.out).mono ?_
  rintro e w1 ⟨v, l, rfl, hL, h3, h4, h5⟩
  have hz := h5.size
  have hbel : Below w.heap.size w w1 := (alloc_below w _).trans (h5.to_below (by simp) fun k _ hk => by omega)
  have hL2 : RdC w1 (fun k => w.heap.size ≤ k) v l := hL.keeps (Keeps.mono fun k _ hk => by simp at hk; omega)
  obtain ⟨p, bad, k0, k1, k2, z1, z2, _, hs, hn⟩ := h4.cells
  have HL := Lib.hid hL2
  have Hbel := Lib.hid hbel
  have H3 := Lib.hid h3
  cases hd : Psp.dL Psp.dC b a with
  | none =>
    rw [Psp.nxt_no hd] at hn
    have hbad := hn rfl
    subst hbad
    have Hd := Lib.hid hd
    clear hd hL hL2 h3 h4 h5 hbel hs hn k0 k1 z1 z2
    go_wp2_with fail
    go_ret3
    exact ⟨fun l a' h => (by rw [Hd.out] at h; cases h), fun _ => rfl, Hbel.out⟩
  | some q =>
    obtain ⟨l', a'⟩ := q
    rw [Psp.nxt_yes hd] at hs
    obtain ⟨hpa, hbad⟩ := hs a' rfl
    subst hpa hbad
    have hll : l = l' := H3.out (l', p) (by simp [hd])
    subst hll
    have Hd := Lib.hid hd
    have K1 := later_cell k1
    clear hd hL hL2 h3 h4 h5 hbel hs hn k0 z1 z2
    go_wp2_with fail
    refine wp_region_later (by kernel_rfl) (by kernel_rfl) ?_
    repeat (go_big_quiet_step (fail))
    refine wpQuiet_nil ?_
    intro w3 hw'
    have hb3 := later_out hw'
    clear hw'
    have Hb3 := Lib.hid hb3
    clear hb3
    go_wp2_with fail
    go_ret3
    exact ⟨fun l a' h => (by rw [Hd.out] at h; injection h with h; injection h with h1 h2; subst h1 h2; exact ⟨v, rfl, HL.out.keeps (Keeps.below Hb3.out)⟩), fun h => (by rw [Hd.out] at h; cases h), Below.then Hbel.out Hb3.out Hbel.out.size⟩

set_option maxRecDepth 100000 in
theorem takeC (b : List UInt8) (x : Value) (a : Int) (w : World) (hx : RdP w (fun k => k < w.heap.size) 1 x b.length (b.map bv)) (ha : isI64 a) :
    Calls Tryz.prog 85 #[x, .int .i64 a] w (Taken (Psp.dL Psp.dC) RdC b a w) := by
  have HX := Lib.hid hx
  have Ha := Lib.hid ha
  clear hx ha
  go_enter Tryz.func85, Tryz.ntmps85
  go_wp2_with fail
  refine (wholeC b x a w HX.out Ha.out).mono ?_
  intro e w1 h
  obtain ⟨h1, h2, h3⟩ := h
  have H1 := Lib.hid h1
  have H2 := Lib.hid h2
  have H3 := Lib.hid h3
  clear h1 h2 h3
  cases hd : Psp.dL Psp.dC b a with
  | none =>
    have he := H2.out hd
    subst he
    have Hd := Lib.hid hd
    clear hd
    go_wp2_with fail
    go_ret3
    exact ⟨fun l a' h => (by rw [Hd.out] at h; cases h), fun _ => rfl, H3.out⟩
  | some q =>
    obtain ⟨l, a'⟩ := q
    obtain ⟨v, he, hL⟩ := H1.out l a' hd
    subst he
    have Hd := Lib.hid hd
    have HL := Lib.hid hL
    clear hd hL
    go_wp2_with fail
    go_ret3
    exact ⟨fun l2 a2 h => (by rw [Hd.out] at h; injection h with h; injection h with h1 h2; subst h1 h2; exact ⟨v, rfl, HL.out⟩), fun h => (by rw [Hd.out] at h; cases h), H3.out⟩

set_option maxRecDepth 100000 in
set_option maxHeartbeats 1000000 in
theorem wholeP (b : List UInt8) (x : Value) (a : Int) (w : World) (hx : RdP w (fun k => k < w.heap.size) 1 x b.length (b.map bv)) (ha : isI64 a) :
    Calls Tryz.prog 123 #[x, .int .i64 a, .func (.func 124) #[] #[]] w (Taken (Psp.dL Psp.dP) RdA b a w) := by
  have hx1 : RdP (w.alloc (.cells #[x, .int .i64 a, .bool false] 215)) (fun k => k ≠ w.heap.size) 1 x b.length (b.map bv) := hx.keeps (Keeps.newb _ _)
  have hr0 : Rs 215 (w.alloc (.cells #[x, .int .i64 a, .bool false] 215)) w.heap.size x (some a) := Rs.new _ x ha
  obtain ⟨_, A, c, rfl, _, _, _⟩ := hx.parts
  have HX := Lib.hid hx1
  have HR := Lib.hid hr0
  clear hx hx1 hr0
  go_enter Tryz.func123, Tryz.ntmps123
  go_wp2_with fail
  refine (rd_takenP b _ w.heap.size (some a) _ HX.out HR.out).mono ?_
  rintro e w1 ⟨v, l, rfl, hL, h3, h4, h5⟩
  have hz := h5.size
  have hbel : Below w.heap.size w w1 := (alloc_below w _).trans (h5.to_below (by simp) fun k _ hk => by omega)
  have hL2 : RdA w1 (fun k => w.heap.size ≤ k) v l := hL.keeps (Keeps.mono fun k _ hk => by simp at hk; omega)
  obtain ⟨p, bad, k0, k1, k2, z1, z2, _, hs, hn⟩ := h4.cells
  have HL := Lib.hid hL2
  have Hbel := Lib.hid hbel
  have H3 := Lib.hid h3
  cases hd : Psp.dL Psp.dP b a with
  | none =>
    rw [Psp.nxt_no hd] at hn
    have hbad := hn rfl
    subst hbad
    have Hd := Lib.hid hd
    clear hd hL hL2 h3 h4 h5 hbel hs hn k0 k1 z1 z2
    go_wp2_with fail
    go_ret3
    exact ⟨fun l a' h => (by rw [Hd.out] at h; cases h), fun _ => rfl, Hbel.out⟩
  | some q =>
    obtain ⟨l', a'⟩ := q
    rw [Psp.nxt_yes hd] at hs
    obtain ⟨hpa, hbad⟩ := hs a' rfl
    subst hpa hbad
    have hll : l = l' := H3.out (l', p) (by simp [hd])
    subst hll
    have Hd := Lib.hid hd
    have K1 := later_cell k1
    clear hd hL hL2 h3 h4 h5 hbel hs hn k0 z1 z2
    go_wp2_with fail
    refine wp_region_later (by kernel_rfl) (by kernel_rfl) ?_
    repeat (go_big_quiet_step (fail))
    refine wpQuiet_nil ?_
    intro w3 hw'
    have hb3 := later_out hw'
    clear hw'
    have Hb3 := Lib.hid hb3
    clear hb3
    go_wp2_with fail
    go_ret3
    exact ⟨fun l a' h => (by rw [Hd.out] at h; injection h with h; injection h with h1 h2; subst h1 h2; exact ⟨v, rfl, HL.out.keeps (Keeps.below Hb3.out)⟩), fun h => (by rw [Hd.out] at h; cases h), Below.then Hbel.out Hb3.out Hbel.out.size⟩

set_option maxRecDepth 100000 in
theorem takeP (b : List UInt8) (x : Value) (a : Int) (w : World) (hx : RdP w (fun k => k < w.heap.size) 1 x b.length (b.map bv)) (ha : isI64 a) :
    Calls Tryz.prog 86 #[x, .int .i64 a] w (Taken (Psp.dL Psp.dP) RdA b a w) := by
  have HX := Lib.hid hx
  have Ha := Lib.hid ha
  clear hx ha
  go_enter Tryz.func86, Tryz.ntmps86
  go_wp2_with fail
  refine (wholeP b x a w HX.out Ha.out).mono ?_
  intro e w1 h
  obtain ⟨h1, h2, h3⟩ := h
  have H1 := Lib.hid h1
  have H2 := Lib.hid h2
  have H3 := Lib.hid h3
  clear h1 h2 h3
  cases hd : Psp.dL Psp.dP b a with
  | none =>
    have he := H2.out hd
    subst he
    have Hd := Lib.hid hd
    clear hd
    go_wp2_with fail
    go_ret3
    exact ⟨fun l a' h => (by rw [Hd.out] at h; cases h), fun _ => rfl, H3.out⟩
  | some q =>
    obtain ⟨l, a'⟩ := q
    obtain ⟨v, he, hL⟩ := H1.out l a' hd
    subst he
    have Hd := Lib.hid hd
    have HL := Lib.hid hL
    clear hd hL
    go_wp2_with fail
    go_ret3
    exact ⟨fun l2 a2 h => (by rw [Hd.out] at h; injection h with h; injection h with h1 h2; subst h1 h2; exact ⟨v, rfl, HL.out⟩), fun h => (by rw [Hd.out] at h; cases h), H3.out⟩

theorem row_store {W : World} {g : Nat} {zs : Array Value} {T : TypeId} (h : W.heap[g]? = some (.cells zs T (0, 0))) (l : List Value) (hl : l.length = zs.size) : (W.setCells g 0 l).heap[g]? = some (.cells l.toArray T (0, 0)) ∧ ∀ b, b ≠ g → (W.setCells g 0 l).heap[b]? = W.heap[b]? := by
  have key : ∀ (vs : List Value) (k : Nat) (W : World) (pre : List Value), W.heap[g]? = some (.cells (pre ++ zs.toList.drop k).toArray T (0, 0)) → pre.length = k → k + vs.length = zs.size → (W.setCells g k vs).heap[g]? = some (.cells (pre ++ vs).toArray T (0, 0)) := by
    intro vs
    induction vs with
    | nil =>
      intro k W pre h1 h2 h3
      rw [List.drop_eq_nil_of_le (by simp at h3 ⊢; omega)] at h1
      exact h1
    | cons v vs ih =>
      intro k W pre h1 h2 h3
      have h4 : (W.setCell ⟨g, k, none⟩ v).heap[g]? = some (.cells ((pre ++ [v]) ++ zs.toList.drop (k + 1)).toArray T (0, 0)) := by
        rw [heap_setCell_same W _ k _ _ v h1]
        congr 2
        have hk : k < zs.toList.length := by simp at h3 ⊢; omega
        rw [List.drop_eq_getElem_cons hk]
        apply Array.ext'
        simp [h2]
      have := ih (k + 1) _ (pre ++ [v]) h4 (by simp [h2]) (by simp at h3 ⊢; omega)
      simpa [World.setCells] using this
  have oth : ∀ (vs : List Value) (k : Nat) (W : World) (b : Nat), b ≠ g → (W.setCells g k vs).heap[b]? = W.heap[b]? := by
    intro vs
    induction vs with
    | nil => intro k W b _; rfl
    | cons v vs ih =>
      intro k W b hb
      exact (ih (k + 1) _ b hb).trans (Below.heap_setCell W ⟨g, k, none⟩ _ b hb)
  exact ⟨by simpa using key l 0 W [] (by simpa using h) rfl (by simpa using hl), fun b hb => oth l 0 W b hb⟩
theorem row_there {W : World} {g : Nat} {zs : Array Value} {T : TypeId} (h : W.heap[g]? = some (.cells zs T (0, 0))) : W.there g 0 zs.size := fun j hj => by
  refine ⟨?_, frozen_of_row W _ (0 + j) _ _ h⟩
  rw [Nat.zero_add, cell_of_row W _ j _ _ _ h]
  simp [hj]
theorem below_setCells {B : Nat} {a w : World} (h : Below B a w) (g : Nat) (hg : B ≤ g) (l : List Value) : Below B a (w.setCells g 0 l) := by
  have h1 : Fp (fun k => k = g) w (w.setCells g 0 l) := (Fp.refl (fun k => k = g) w).setCells (Or.inl rfl) l
  have hs := h1.size
  refine ⟨h1.os.trans h.os, h1.tape.trans h.tape, h1.output.trans h.output, by have := h.size; omega, fun k hk => ?_⟩
  by_cases hlt : k < w.heap.size
  · exact (h1.block k hlt (by omega)).trans (h.block k hk)
  · have := h.block k hk
    rw [Array.getElem?_eq_none (by omega)] at this
    rw [← this, Array.getElem?_eq_none]
    rw [setCells_size]; omega
theorem results_cell_row2 {P : Program} {fn : Func} {p u v : Tmp} {ty : TypeId} (h : fn.results = #[.cell p ty, .tmp u, .tmp v]) (tmps : Array Value) (w : World) (g : Nat) (t : TypeId) (cs : Array Value) (fr : Nat × Nat) (d : TypeDesc)
    (hp : tmps.getD p undef = .pointer (some ⟨g, 0, none⟩)) (hg : w.heap[g]? = some (.cells cs t fr))
    (hu : P.underlying ty = some d) (hd : (match d with | .struct _ | .array _ _ => true | _ => false) = true) (hi : (P.info? ty).map (·.size) = some cs.size) :
    (results fn tmps).run P w = .ok (.tuple #[.agg cs, tmps.getD u undef, tmps.getD v undef]) w := by
  have hp' : tmps[p]?.getD undef = .pointer (some ⟨g, 0, none⟩) := by simpa using hp
  simp [results, h, hp', asAddr, run_loadVar_row w g t ty cs fr d hg hu hd hi]

end Go.Proofs.YtipmjleohadoeaaGreat

end

section
/- The reference's Eye: number, list, Req. Printed by gen_eye.py. -/
namespace Go.Proofs.YtipmjleohadoeaaGreat
open Go.RowKit
set_option linter.unusedVariables false

end Go.Proofs.YtipmjleohadoeaaGreat

end

section
/- The reference's Eye: Batch, Votes, Certs, Parts. Printed by gen_eye2.py. -/
namespace Go.Proofs.YtipmjleohadoeaaGreat
open Go.RowKit
set_option linter.unusedVariables false

section
variable {RT T : TypeId} {w0 W W' : World} {g : Nat} {cs : Array Value} {x : Value} {o o' : Option Int}
end
end Go.Proofs.YtipmjleohadoeaaGreat

end

section
/- Laws of chapter 2: what they have in common. -/
namespace Go.Proofs.YtipmjleohadoeaaGreat
open Go.RowKit
set_option linter.unusedVariables false

/-- The bytes, or none. -/
def res (e : List UInt8) (ok : Bool) : List UInt8 := if ok then e else []
theorem res_yes (e : List UInt8) : res e true = e := rfl
theorem res_no (e : List UInt8) : res e false = [] := rfl


theorem Bytes.open_ {e : List UInt8} {ok : Bool} {w w' : World} {en : Ending} (h : Bytes e ok w en w') :
    ∃ A c, en = .returned (.tuple #[.slice A (res e ok).length c, .bool ok]) ∧ w'.ownsRow w.heap.size 5 1 (.slice A (res e ok).length c) (res e ok).length ((res e ok).map bv) ∧ Below w.heap.size w w' := by
  obtain ⟨v, h1, h2, h3⟩ := h
  have h2' : w'.ownsRow w.heap.size 5 1 v (res e ok).length ((res e ok).map bv) := h2
  obtain ⟨A, c, rfl, _⟩ := own_slice h2'
  exact ⟨A, c, h1, h2', h3⟩
theorem Bytes.rd {e b : List UInt8} {ok o : Bool} {w w' : World} {en : Ending} (h : Bytes e ok w en w') (hb : res e ok = b) (ho : ok = o) :
    ∃ A c, en = .returned (.tuple #[.slice A b.length c, .bool o]) ∧ RdP w' (fun k => k < w'.heap.size) 1 (.slice A b.length c) b.length (b.map bv) ∧ Below w.heap.size w w' := by
  subst hb ho
  obtain ⟨A, c, h1, h2, h3⟩ := h.open_
  exact ⟨A, c, h1, (Rd.of_own h2).to_p (Nat.le_refl _), h3⟩
theorem Keeps.drewN (w : World) (q : Nat) : Keeps (fun b => b < w.heap.size) (fun b => b < (w.drewN q).heap.size) w (w.drewN q) := Keeps.on (below_drewN (Below.refl _ _) q)
theorem Bytes.rdb {e b : List UInt8} {ok o : Bool} {w w' : World} {en : Ending} (h : Bytes e ok w en w') (hb : res e ok = b) (ho : ok = o) :
    ∃ A c, en = .returned (.tuple #[.slice A b.length c, .bool o]) ∧ RdP w' (fun k => w.heap.size ≤ k) 1 (.slice A b.length c) b.length (b.map bv) ∧ Below w.heap.size w w' := by
  subst hb ho
  obtain ⟨A, c, h1, h2, h3⟩ := h.open_
  exact ⟨A, c, h1, (RdP.of_own h2).mono fun b _ hb => hb.2, h3⟩
end Go.Proofs.YtipmjleohadoeaaGreat

end
