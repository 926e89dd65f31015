/- Joined texts: Pw Pw2 Pl Pc Pd. -/
import Derived.Test.YtipmjleohadoeaaGreatGbSa
import Derived.Test.YtipmjleohadoeaaGreatChecked
import Derived.BigQuiet
import Derived.Deep.QuietTactic
section
/- The walks of package pack's writer: put, numbers, signed, req, vote. -/
namespace Go.Proofs.YtipmjleohadoeaaGreat
open Go.RowKit
set_option linter.unusedVariables false

theorem put_wr (x : Value) (n : Nat) (e : List UInt8) (ok : Bool) (S : Nat → Prop) (g : Nat) (out : List UInt8) (bad : Bool) (w : World) (hW : Wr 171 w S g out bad)
    (hx : RdP w (fun b => ¬ S b) 1 x n (e.map bv)) (hb : out.length + n ≤ 1099511627776) :
    Calls Tryz.prog 163 #[.pointer (some ⟨g, 0, none⟩), x, .bool ok] w (WrOk 171 e ok n S g out bad w) := by
  have hn : e.length = n := by have := hx.1; simpa using this
  have HW := Lib.hid hW
  have hgs : (w.setCell ⟨g, 1, none⟩ (.bool (bad || !ok))).cell? ⟨g, 0, none⟩ = w.cell? ⟨g, 0, none⟩ := by go_simp
  obtain ⟨hW1, hF1⟩ := hW.setBad (bad || !ok)
  obtain ⟨A, c, hc1, hc2, k0, k1, z0, z1, hown, hS⟩ := hW.cells
  obtain ⟨A', c', _, _, k0', _, _, _, hown1, hS1⟩ := hW1.cells
  rw [hgs, k0] at k0'
  injection k0' with k0'
  injection k0' with e1 _ e2
  subst e1 e2
  have hx1 := (hx.fp hF1 (fun b hb => hb)).to_rd
  have Hn := Lib.hid hn
  have HW1 := Lib.hid hW1
  have Hgs := Lib.hid hgs
  have hbd : ∀ u ∈ e.map bv, u.oneCell' = true := by intro u hu; obtain ⟨b, _, rfl⟩ := List.mem_map.1 hu; rfl
  have Hbd := Lib.hid hbd
  clear hW hx hn hW1 hgs hbd
  have fin : ∀ v' w3, w3.ownsRow 0 5 1 v' (out.length + n) (out.map bv ++ e.map bv) → (w.setCell ⟨g, 1, none⟩ (.bool (bad || !ok))).grownBy w3 (Value.slice A out.length c).ownBlock → (v'.ownBlock = (Value.slice A out.length c).ownBlock ∨ v'.ownBlock = some (w.setCell ⟨g, 1, none⟩ (.bool (bad || !ok))).heap.size) →
      WrOk 171 e ok n S g out bad w (.returned (.tuple #[])) (w3.setCell ⟨g, 0, none⟩ v') := by
    intro v' w3 h3 hg3 hb3
    have hk0 : (w.setCell ⟨g, 1, none⟩ (.bool (bad || !ok))).cell? ⟨g, 0, none⟩ = some (.slice A out.length c) := by rw [Hgs.out]; exact k0
    obtain ⟨h4, h5⟩ := HW1.out.append hk0 (by rw [Hn.out]; exact h3) hg3 hb3
    have hsz : (w.setCell ⟨g, 1, none⟩ (.bool (bad || !ok))).heap.size = w.heap.size := by simp [World.setCell]
    refine ⟨rfl, out ++ e, bad || !ok, ⟨rfl, fun _ => rfl, by rw [List.length_append, Hn.out]; exact Nat.le_refl _⟩, ?_, hF1.trans h5 fun k hk => Or.inl hk⟩
    rw [hsz] at h4
    exact h4.wider (fun k hk => by simpa [World.setCell] using hk) (fun k hk => h4.lt k (by simpa [World.setCell] using hk))
  have gro : ∀ w3, (w.setCell ⟨g, 1, none⟩ (.bool (bad || !ok))).grownBy w3 (Value.slice A out.length c).ownBlock → w3.cell? ⟨g, 0, none⟩ = some (.slice A out.length c) ∧ w3.frozen? ⟨g, 0, none⟩ = false := fun w3 hg => HW1.out.grown (by rw [Hgs.out]; exact k0) hg
  have Hfin := Lib.hid fin
  have Hgro := Lib.hid gro
  clear fin gro
  cases bad <;> cases ok
  all_goals
    simp only [Bool.false_or, Bool.true_or, Bool.not_true, Bool.not_false] at hown1 hx1 Hfin Hgro
    go_enter Tryz.func163, Tryz.ntmps163
    go_wp2_with (at_builtin; refine wpList_app bytesE rfl _ _ rfl 0 (.slice A out.length c) out.length (out.map bv) rfl hown1 _ x n (e.map bv) rfl hx1 Hbd.out (by unfold maxLen; omega) (by omega) (by omega) ?_; intro v' w3 h3 hg3 hb3; obtain ⟨A4, c4, rfl, _, _, _⟩ := own_slice h3; obtain ⟨q0, q1⟩ := Hgro.out w3 hg3; have H := Lib.hid (Hfin.out _ w3 h3 hg3 hb3); clear h3 hg3 hb3)
    go_end0
    exact H.out

theorem numbers_wr (l : List Int) (n : Nat) (b : Nat) (S : Nat → Prop) (g : Nat) (out : List UInt8) (bad : Bool) (w : World) (hW : Wr 171 w S g out bad) (hn : l.length = n)
    (hl : Lies w b 0 (l.map iv)) (hbw : b < w.heap.size) (hS : ¬ S b) (hn10 : n ≤ 10) (hb : out.length + 6 * n ≤ 1099511627776) :
    Calls Tryz.prog 140 #[.pointer (some ⟨g, 0, none⟩), .slice (some ⟨b, 0, none⟩) n n] w (WrOk 171 (l.flatMap Psp.encN) (l.all Psp.okN) (6 * n) S g out bad w) := by
  have hst : WrS 171 ((l.take 0).flatMap Psp.encN) ((l.take 0).all Psp.okN) (6 * 0) S g out bad w S out bad w := WrS.start hW
  have Hn := Lib.hid hn
  have Hl := Lib.hid hl
  clear hn hl hW
  go_enter Tryz.func140, Tryz.ntmps140
  go_wp2_with fail
  go_loopw [8] (fun i wr => ∃ (k : Nat) (S' : Nat → Prop) (out' : List UInt8) (bad' : Bool), i = .int .i64 (k : Int) ∧ k ≤ n ∧ WrS 171 ((l.take k).flatMap Psp.encN) ((l.take k).all Psp.okN) (6 * k) S g out bad w S' out' bad' wr) (fun i _ => n - (intOf i).toNat)
  case atStart => exact ⟨0, S, out, bad, rfl, Nat.zero_le _, hst⟩
  case round =>
    obtain ⟨k, S', out', bad', rfl, hk, hI⟩ := hrel
    by_cases hlt : k < n
    · have hkl : k < l.length := by have := Hn.out; omega
      have hcell := (Hl.out.keep (hI.fp.block b hbw hS)).at_ (j := k) (by simpa using hkl)
      have hfl := Psp.flat_step Psp.encN hkl
      have hal := Psp.all_step Psp.okN hkl
      have hoff := hI.off hbw hS
      have hlen := hI.wrote.islen
      obtain ⟨y, hy⟩ : ∃ y, l[k] = y := ⟨_, rfl⟩
      rw [List.getElem_map, hy, Nat.zero_add] at hcell
      unfold iv at hcell
      rw [hy] at hfl hal
      have Hfl := Lib.hid hfl
      have Hal := Lib.hid hal
      have HI := Lib.hid hI
      clear hfl hal hI hy hkl
      by_cases hok : Psp.okN y = true
      · have hy2 := (Psp.okN_iff y).1 hok
        obtain ⟨y0, y1⟩ := hy2
        go_wp2_with fail
        refine (number_ok y _ y0 y1).mono ?_
        rintro e w1 ⟨v, rfl, hown, hbel⟩
        have hln := Psp.encN_len hok
        have hz := hbel.size
        have hr : RdP w1 (fun b => ¬ S' b) 1 v (Psp.encN y).length ((Psp.encN y).map bv) := (RdP.of_own hown).mono fun b _ hb hs => by have := HI.out.wr.lt b hs; omega
        have Hr := Lib.hid hr
        have Hbel := Lib.hid hbel
        clear hr hown hbel
        go_wp2_with fail
        refine (put_wr v _ (Psp.encN y) true S' g out' bad' w1 (HI.out.wr.below Hbel.out) Hr.out (by omega)).mono ?_
        intro e w2 hc
        obtain ⟨rfl, S2, o2, b2, h2⟩ := (HI.out.below Hbel.out).step hc
        have H2 := Lib.hid (h2.of Hfl.out.symm (show ((l.take k).all Psp.okN && true) = (l.take (k + 1)).all Psp.okN by rw [Hal.out, hok]))
        clear h2 hc
        go_wp2_with fail
        go_roundw
        case rel => exact ⟨k + 1, S2, o2, b2, by go_num, by omega, ⟨H2.out.wrote.more (by omega), H2.out.wr, H2.out.fp, H2.out.sub, H2.out.sup⟩⟩
        case measure => simp [intOf]; omega
      · have hok' : Psp.okN y = false := by simpa using hok
        have hy2 := mt (Psp.okN_iff y).2 hok
        go_wp2_with fail
        refine (number_no y _ (by omega)).mono ?_
        rintro e w1 ⟨rfl, rfl⟩
        go_wp2_with fail
        refine (put_wr _ 0 [] false S' g out' bad' wr HI.out.wr (RdP.none_) (by omega)).mono ?_
        intro e w2 hc
        obtain ⟨rfl, o2, b2, h1, h2, h3⟩ := hc
        have hc2 : WrOk 171 (Psp.encN y) false 0 S' g out' bad' wr (.returned (.tuple #[])) w2 := ⟨rfl, o2, b2, ⟨h1.isbad, fun hb => by rw [h1.isbad] at hb; simp at hb, h1.islen⟩, h2, h3⟩
        obtain ⟨_, S2, o3, b3, h4⟩ := HI.out.step hc2
        have H4 := Lib.hid (h4.of Hfl.out.symm (show ((l.take k).all Psp.okN && false) = (l.take (k + 1)).all Psp.okN by rw [Hal.out, hok']))
        clear h4 hc2 h1 h2 h3
        go_wp2_with fail
        go_roundw
        case rel => exact ⟨k + 1, S2, o3, b3, by go_num, by omega, ⟨H4.out.wrote.more (by omega), H4.out.wr, H4.out.fp, H4.out.sub, H4.out.sup⟩⟩
        case measure => simp [intOf]; omega
    · obtain rfl : k = n := by omega
      have he := Hn.out
      go_wp2_with fail
      go_end0
      have h1 := hI.done (Nat.le_refl _)
      rw [List.take_of_length_le (by omega)] at h1
      exact h1

theorem signed_wr (l : List Int) (n : Nat) (b : Nat) (S : Nat → Prop) (g : Nat) (out : List UInt8) (bad : Bool) (w : World) (hW : Wr 171 w S g out bad) (hn : l.length = n)
    (hl : Lies w b 0 (l.map iv)) (hbw : b < w.heap.size) (hS : ¬ S b) (hn10 : n ≤ 10) (hb : out.length + 6 * n ≤ 1099511627776) :
    Calls Tryz.prog 141 #[.pointer (some ⟨g, 0, none⟩), .slice (some ⟨b, 0, none⟩) n n] w (WrOk 171 (l.flatMap Psp.encS) (l.all Psp.okS) (6 * n) S g out bad w) := by
  have hst : WrS 171 ((l.take 0).flatMap Psp.encS) ((l.take 0).all Psp.okS) (6 * 0) S g out bad w S out bad w := WrS.start hW
  have Hn := Lib.hid hn
  have Hl := Lib.hid hl
  clear hn hl hW
  go_enter Tryz.func141, Tryz.ntmps141
  go_wp2_with fail
  go_loopw [8] (fun i wr => ∃ (k : Nat) (S' : Nat → Prop) (out' : List UInt8) (bad' : Bool), i = .int .i64 (k : Int) ∧ k ≤ n ∧ WrS 171 ((l.take k).flatMap Psp.encS) ((l.take k).all Psp.okS) (6 * k) S g out bad w S' out' bad' wr) (fun i _ => n - (intOf i).toNat)
  case atStart => exact ⟨0, S, out, bad, rfl, Nat.zero_le _, hst⟩
  case round =>
    obtain ⟨k, S', out', bad', rfl, hk, hI⟩ := hrel
    by_cases hlt : k < n
    · have hkl : k < l.length := by have := Hn.out; omega
      have hcell := (Hl.out.keep (hI.fp.block b hbw hS)).at_ (j := k) (by simpa using hkl)
      have hfl := Psp.flat_step Psp.encS hkl
      have hal := Psp.all_step Psp.okS hkl
      have hoff := hI.off hbw hS
      have hlen := hI.wrote.islen
      obtain ⟨y, hy⟩ : ∃ y, l[k] = y := ⟨_, rfl⟩
      rw [List.getElem_map, hy, Nat.zero_add] at hcell
      unfold iv at hcell
      rw [hy] at hfl hal
      have Hfl := Lib.hid hfl
      have Hal := Lib.hid hal
      have HI := Lib.hid hI
      clear hfl hal hI hy hkl
      by_cases hok : Psp.okS y = true
      · have hy2 := (Psp.okS_iff y).1 hok
        obtain ⟨y0, y1⟩ := hy2
        go_wp2_with fail
        refine (signed_ok y _ y0 y1).mono ?_
        rintro e w1 ⟨v, rfl, hown, hbel⟩
        have hln := Psp.encS_len y
        have hz := hbel.size
        have hr : RdP w1 (fun b => ¬ S' b) 1 v (Psp.encS y).length ((Psp.encS y).map bv) := (RdP.of_own hown).mono fun b _ hb hs => by have := HI.out.wr.lt b hs; omega
        have Hr := Lib.hid hr
        have Hbel := Lib.hid hbel
        clear hr hown hbel
        go_wp2_with fail
        refine (put_wr v _ (Psp.encS y) true S' g out' bad' w1 (HI.out.wr.below Hbel.out) Hr.out (by omega)).mono ?_
        intro e w2 hc
        obtain ⟨rfl, S2, o2, b2, h2⟩ := (HI.out.below Hbel.out).step hc
        have H2 := Lib.hid (h2.of Hfl.out.symm (show ((l.take k).all Psp.okS && true) = (l.take (k + 1)).all Psp.okS by rw [Hal.out, hok]))
        clear h2 hc
        go_wp2_with fail
        go_roundw
        case rel => exact ⟨k + 1, S2, o2, b2, by go_num, by omega, ⟨H2.out.wrote.more (by omega), H2.out.wr, H2.out.fp, H2.out.sub, H2.out.sup⟩⟩
        case measure => simp [intOf]; omega
      · have hok' : Psp.okS y = false := by simpa using hok
        have hy2 := mt (Psp.okS_iff y).2 hok
        go_wp2_with fail
        refine (signed_no y _ (by omega)).mono ?_
        rintro e w1 ⟨rfl, rfl⟩
        go_wp2_with fail
        refine (put_wr _ 0 [] false S' g out' bad' wr HI.out.wr (RdP.none_) (by omega)).mono ?_
        intro e w2 hc
        obtain ⟨rfl, o2, b2, h1, h2, h3⟩ := hc
        have hc2 : WrOk 171 (Psp.encS y) false 0 S' g out' bad' wr (.returned (.tuple #[])) w2 := ⟨rfl, o2, b2, ⟨h1.isbad, fun hb => by rw [h1.isbad] at hb; simp at hb, h1.islen⟩, h2, h3⟩
        obtain ⟨_, S2, o3, b3, h4⟩ := HI.out.step hc2
        have H4 := Lib.hid (h4.of Hfl.out.symm (show ((l.take k).all Psp.okS && false) = (l.take (k + 1)).all Psp.okS by rw [Hal.out, hok']))
        clear h4 hc2 h1 h2 h3
        go_wp2_with fail
        go_roundw
        case rel => exact ⟨k + 1, S2, o3, b3, by go_num, by omega, ⟨H4.out.wrote.more (by omega), H4.out.wr, H4.out.fp, H4.out.sub, H4.out.sup⟩⟩
        case measure => simp [intOf]; omega
    · obtain rfl : k = n := by omega
      have he := Hn.out
      go_wp2_with fail
      go_end0
      have h1 := hI.done (Nat.le_refl _)
      rw [List.take_of_length_le (by omega)] at h1
      exact h1


end Go.Proofs.YtipmjleohadoeaaGreat

end

section
/- The walks of package pack's writer: req, vote, done. -/
namespace Go.Proofs.YtipmjleohadoeaaGreat
open Go.RowKit
set_option linter.unusedVariables false

/-- A vote as cells. -/
def vt (v : Psp.Vote) : List Value := [iv v.n, iv v.s]
/-- A certificate, and the slices in it. -/
structure CertV where
  c : Psp.Cert
  b : Value
  o : Value
def cv (x : CertV) : List Value := [iv x.c.v, iv x.c.i, iv x.c.q, x.b, x.o]
def CertOk (w : World) (P : Nat → Prop) (x : CertV) : Prop := RdP w P 6 x.b x.c.b.length (x.c.b.flatMap rq) ∧ RdP w P 2 x.o x.c.o.length (x.c.o.flatMap vt)
/-- The slice v reads as certificates. -/
def RdC (w : World) (P : Nat → Prop) (v : Value) (l : List Psp.Cert) : Prop := ∃ L : List CertV, L.map (·.c) = l ∧ RdP w P 5 v L.length (L.flatMap cv) ∧ ∀ x ∈ L, CertOk w P x
/-- A part, and the slices in it. -/
structure PartV where
  p : Psp.Part
  o : Value
  c : Value
def pv (x : PartV) : List Value := [iv x.p.f, x.o, x.c, iv x.p.s]
def PartOk (w : World) (P : Nat → Prop) (x : PartV) : Prop := RdP w P 2 x.o x.p.o.length (x.p.o.flatMap vt) ∧ RdC w P x.c x.p.c
/-- The slice v reads as parts. -/
def RdA (w : World) (P : Nat → Prop) (v : Value) (l : List Psp.Part) : Prop := ∃ L : List PartV, L.map (·.p) = l ∧ RdP w P 4 v L.length (L.flatMap pv) ∧ ∀ x ∈ L, PartOk w P x
section
variable {w w' : World} {P P' : Nat → Prop} {k n : Nat} {v : Value} {xs : List Value} {l : List Psp.Cert} {x : CertV} {y : PartV}
/-- What of a world is wanted for all that reads by P to read by P' in another. -/
def Keeps (P P' : Nat → Prop) (w w' : World) : Prop := w.heap.size ≤ w'.heap.size ∧ ∀ b, P b → b < w.heap.size → w'.heap[b]? = w.heap[b]? ∧ P' b
theorem RdP.keeps (h : RdP w P k v n xs) (g : Keeps P P' w w') : RdP w' P' k v n xs := by
  obtain ⟨h1, A, c, h2, h3, h4, h5⟩ := h
  refine ⟨h1, A, c, h2, h3, h4, fun hn => ?_⟩
  obtain ⟨b, o, e, hb, hlt, hl⟩ := h5 hn
  exact ⟨b, o, e, (g.2 b hb hlt).2, by have := g.1; omega, hl.keep (g.2 b hb hlt).1⟩
theorem CertOk.keeps (h : CertOk w P x) (g : Keeps P P' w w') : CertOk w' P' x := ⟨h.1.keeps g, h.2.keeps g⟩
theorem RdC.keeps (h : RdC w P v l) (g : Keeps P P' w w') : RdC w' P' v l := by
  obtain ⟨L, h1, h2, h3⟩ := h
  exact ⟨L, h1, h2.keeps g, fun x hx => (h3 x hx).keeps g⟩
theorem PartOk.keeps (h : PartOk w P y) (g : Keeps P P' w w') : PartOk w' P' y := ⟨h.1.keeps g, h.2.keeps g⟩
theorem RdA.keeps {l : List Psp.Part} (h : RdA w P v l) (g : Keeps P P' w w') : RdA w' P' v l := by
  obtain ⟨L, h1, h2, h3⟩ := h
  exact ⟨L, h1, h2.keeps g, fun x hx => (h3 x hx).keeps g⟩
theorem Keeps.below (g : Below w.heap.size w w') : Keeps P P w w' := ⟨g.size, fun b hb hlt => ⟨g.block b hlt, hb⟩⟩
theorem Keeps.mono (hP : ∀ b, b < w.heap.size → P b → P' b) : Keeps P P' w w := ⟨Nat.le_refl _, fun b hb hlt => ⟨rfl, hP b hlt hb⟩⟩
theorem RdC.below (h : RdC w P v l) (g : Below w.heap.size w w') : RdC w' P v l := h.keeps (Keeps.below g)
theorem RdP.one (h : RdP w P k v n xs) : v.oneCell' = true := by obtain ⟨_, A, c, rfl, _⟩ := h; rfl
theorem RdC.one (h : RdC w P v l) : v.oneCell' = true := by obtain ⟨L, _, h2, _⟩ := h; exact h2.one
theorem WrS.keeps {T : TypeId} {e : List UInt8} {ok : Bool} {n : Nat} {S S' : Nat → Prop} {g : Nat} {out out' : List UInt8} {bad bad' : Bool} (h : WrS T e ok n S g out bad w S' out' bad' w') : Keeps (fun b => ¬ S b) (fun b => ¬ S' b) w w' :=
  ⟨h.fp.size, fun b hb hlt => ⟨h.fp.block b hlt hb, h.off hlt hb⟩⟩
theorem WrS.rd {T : TypeId} {e : List UInt8} {ok : Bool} {m : Nat} {S S' : Nat → Prop} {g : Nat} {out out' : List UInt8} {bad bad' : Bool} (h : WrS T e ok m S g out bad w S' out' bad' w') (hr : RdP w (fun b => ¬ S b) k v n xs) : RdP w' (fun b => ¬ S' b) k v n xs := hr.keeps h.keeps
theorem WrS.rdC {T : TypeId} {e : List UInt8} {ok : Bool} {m : Nat} {S S' : Nat → Prop} {g : Nat} {out out' : List UInt8} {bad bad' : Bool} (h : WrS T e ok m S g out bad w S' out' bad' w') (hr : RdC w (fun b => ¬ S b) v l) : RdC w' (fun b => ¬ S' b) v l := hr.keeps h.keeps
end
theorem lies_new (w : World) (cs : List Value) (e : TypeId) (b : Nat) (hb : w.heap.size = b) : Lies (w.alloc (.cells cs.toArray e)) b 0 cs := by
  subst hb
  intro j u hu
  rw [Nat.zero_add, cell_of_row _ w.heap.size j cs.toArray e (0, 0) (heap_alloc_new w _)]
  simpa using hu
theorem Wr.off {T : TypeId} {w : World} {S : Nat → Prop} {g : Nat} {out : List UInt8} {bad : Bool} (h : Wr T w S g out bad) {b : Nat} (hb : w.heap.size ≤ b) : ¬ S b := fun hs => by have := h.lt b hs; omega
theorem alloc_below (w : World) (o : Obj) : Below w.heap.size w (w.alloc o) := (Below.refl _ _).alloc (Nat.le_refl _) _

theorem vote_wr (n s : Int) (S : Nat → Prop) (g : Nat) (out : List UInt8) (bad : Bool) (w : World) (hW : Wr 171 w S g out bad) (hb : out.length + 12 ≤ 1099511627776) :
    Calls Tryz.prog 145 #[.pointer (some ⟨g, 0, none⟩), .agg #[.int .i64 n, .int .i64 s]] w (WrOk 171 (Psp.encV ⟨n, s⟩) (Psp.okV ⟨n, s⟩) 12 S g out bad w) := by
  have HW := Lib.hid hW
  clear hW
  go_enter Tryz.func145, Tryz.ntmps145
  go_wp2_with fail
  have h1 : WrS 171 [] true 0 S g out bad w S out bad ((w.alloc (.cells #[.int .i64 n, .int .i64 s] 166)).alloc (.cells #[.int .i64 n, .int .i64 s] 3)) := ((WrS.start HW.out).below (alloc_below _ _)).below (alloc_below _ _)
  refine (numbers_wr [n, s] 2 (w.heap.size + 1) S g out bad _ h1.wr rfl (lies_new _ [iv n, iv s] _ _ (by simp)) (by simp) (HW.out.off (by omega)) (by omega) (by omega)).mono ?_
  intro e w2 hc
  obtain ⟨rfl, S2, o2, b2, h2⟩ := h1.step hc
  have H2 := Lib.hid h2
  clear h2 hc h1
  go_wp2_with fail
  go_end0
  exact (H2.out.of (by simp [Psp.encV]) (by simp [Psp.okV])).done (by omega)

theorem req_wr (c t k y v s : Int) (S : Nat → Prop) (g : Nat) (out : List UInt8) (bad : Bool) (w : World) (hW : Wr 171 w S g out bad) (hb : out.length + 36 ≤ 1099511627776) :
    Calls Tryz.prog 107 #[.pointer (some ⟨g, 0, none⟩), .agg #[.int .i64 c, .int .i64 t, .int .i64 k, .int .i64 y, .int .i64 v, .int .i64 s]] w (WrOk 171 (Psp.encR ⟨c, t, k, y, v, s⟩) (Psp.okR ⟨c, t, k, y, v, s⟩) 36 S g out bad w) := by
  have HW := Lib.hid (hW.below (alloc_below w (.cells #[.int .i64 c, .int .i64 t, .int .i64 k, .int .i64 y, .int .i64 v, .int .i64 s] 42)))
  have hS : ¬ S w.heap.size := hW.off (Nat.le_refl _)
  have Hl0 := Lib.hid (lies_new w [iv c, iv t, iv k, iv y, iv v, iv s] 42 _ rfl)
  have hz0 : w.heap.size < (w.alloc (.cells #[.int .i64 c, .int .i64 t, .int .i64 k, .int .i64 y, .int .i64 v, .int .i64 s] 42)).heap.size := by simp
  have Hz0 := Lib.hid hz0
  clear hW hz0
  go_enter Tryz.func107, Tryz.ntmps107
  go_wp2_with fail
  have h1 : WrS 171 [] true 0 S g out bad (w.alloc (.cells #[.int .i64 c, .int .i64 t, .int .i64 k, .int .i64 y, .int .i64 v, .int .i64 s] 42)) S out bad ((w.alloc (.cells #[.int .i64 c, .int .i64 t, .int .i64 k, .int .i64 y, .int .i64 v, .int .i64 s] 42)).alloc (.cells #[.int .i64 c, .int .i64 t, .int .i64 k] 3)) := (WrS.start HW.out).below (alloc_below _ _)
  refine (numbers_wr [c, t, k] 3 (w.heap.size + 1) S g out bad _ h1.wr rfl (lies_new _ [iv c, iv t, iv k] _ _ (by simp)) (by simp) (HW.out.off (by simp)) (by omega) (by omega)).mono ?_
  intro e w2 hc
  obtain ⟨rfl, S2, o2, b2, h2⟩ := h1.step hc
  have hbx := h2.lies Hl0.out Hz0.out hS
  have x3 := hbx.at_ (j := 3) (by simp)
  have x4 := hbx.at_ (j := 4) (by simp)
  simp only [Nat.zero_add, List.getElem_cons_succ, List.getElem_cons_zero, iv] at x3 x4
  have hz2 := h2.fp.size
  have hl2 := h2.wrote.islen
  have H2 := Lib.hid h2
  clear h2 hc h1 hbx
  go_wp2_with fail
  have h3 := H2.out.below (alloc_below w2 (.cells #[.int .i64 y, .int .i64 v] 3))
  refine (signed_wr [y, v] 2 w2.heap.size S2 g o2 b2 _ h3.wr rfl (lies_new _ [iv y, iv v] _ _ rfl) (by simp) (H2.out.wr.off (by omega)) (by omega) (by omega)).mono ?_
  intro e w3 hc
  obtain ⟨rfl, S3, o3, b3, h4⟩ := h3.step hc
  have hbx := h4.lies Hl0.out Hz0.out hS
  have x5 := hbx.at_ (j := 5) (by simp)
  simp only [Nat.zero_add, List.getElem_cons_succ, List.getElem_cons_zero, iv] at x5
  have hl3 := h4.wrote.islen
  have H4 := Lib.hid h4
  clear h3 hc h4 hbx x3 x4
  go_wp2_with fail
  have h5 := H4.out.below (alloc_below w3 (.cells #[.int .i64 s] 3))
  refine (numbers_wr [s] 1 w3.heap.size S3 g o3 b3 _ h5.wr rfl (lies_new _ [iv s] _ _ rfl) (by simp) (H4.out.wr.off (by omega)) (by omega) (by omega)).mono ?_
  intro e w4 hc
  obtain ⟨rfl, S4, o4, b4, h6⟩ := h5.step hc
  have H6 := Lib.hid h6
  clear hc h5 h6 x5
  go_wp2_with fail
  go_end0
  exact ((H6.out.of (by simp [Psp.encR]) (by simp [Psp.okR, Bool.and_assoc])).done (by omega)).from_ (alloc_below _ _)

end Go.Proofs.YtipmjleohadoeaaGreat

end

section
/- The walks of package pack's writer: lists. Printed by gen_pack.py. -/
namespace Go.Proofs.YtipmjleohadoeaaGreat
open Go.RowKit
set_option linter.unusedVariables false

theorem range_elem {α : Type} {f : α → List Value} {k : Nat} (hf : ∀ a, (f a).length = k) {w : World} {b o : Nat} {l : List α} (h : Lies w b o (l.flatMap f)) {i : Nat} (hi : i < l.length) : w.rangeAt b (o + i * k) (f l[i]) := by
  intro j v hv
  have hj : j < k := by have := (List.getElem?_eq_some_iff.1 hv).1; rwa [hf] at this
  have h1 := flat_get (f := f) (k := k) hf l i j hj
  rw [List.getElem?_eq_getElem hi] at h1
  rw [Nat.add_assoc]
  exact h _ v (by rw [h1]; exact hv)
theorem sizeR : (Tryz.prog.info? 42).map (·.size) = some 6 := by kernel_rfl
theorem sizeV : (Tryz.prog.info? 166).map (·.size) = some 2 := by kernel_rfl

set_option maxRecDepth 100000 in
theorem listR_wr (l : List Psp.Req) (n : Nat) (x : Value) (S : Nat → Prop) (g : Nat) (out : List UInt8) (bad : Bool) (w : World) (hW : Wr 171 w S g out bad) (hn : l.length = n)
    (hx : RdP w (fun b => ¬ S b) 6 x n (l.flatMap rq)) (hb : out.length + 9222 ≤ 1099511627776) :
    Calls Tryz.prog 143 #[.pointer (some ⟨g, 0, none⟩), x, .func (.func 107) #[] #[]] w (WrOk 171 (Psp.encL Psp.encR l) (Psp.okL Psp.okR l) 9222 S g out bad w) := by
  have he : l.length = n := by exact hn
  have He := Lib.hid he
  have Hn := Lib.hid hn
  obtain ⟨hxl, A, cp, rfl, hc1, hc2, hxc⟩ := hx.parts
  have Hxc := Lib.hid hxc
  by_cases h256 : 256 < n
  · have d1 : decide (256 < (n : Int)) = true := by simp; omega
    obtain ⟨hs1, hs2⟩ := hW.setBad true
    obtain ⟨A2, c2, hd1, hd2, k0, k1, z0, z1, hown, hSS⟩ := hW.cells
    have Hs1 := Lib.hid hs1
    have Hs2 := Lib.hid hs2
    clear hs1 hs2 hW hn he hx hxl hxc
    go_enter Tryz.func143, Tryz.ntmps143
    go_wp2_with fail
    go_end0
    refine ⟨rfl, out, true, ⟨?_, (fun h => by cases h), by omega⟩, Hs1.out.wider (fun k hk => Or.inl hk) (fun k hk => ?_), Hs2.out⟩
    · have : Psp.okL Psp.okR l = false := by unfold Psp.okL; rw [He.out, decide_eq_false (by omega)]; rfl
      rw [this]; simp
    · rcases hk with hk | hk
      · exact Hs1.out.lt k hk
      · exact hk.2
  · have d1 : decide (256 < (n : Int)) = false := by simp; omega
    have HW := Lib.hid hW
    clear hW hn he hx hxl hxc
    go_enter Tryz.func143, Tryz.ntmps143
    go_wp2_with fail
    have h1 := (WrS.start HW.out).below (alloc_below w (.cells #[.int .i64 (n : Int)] 3))
    refine (numbers_wr [(n : Int)] 1 w.heap.size S g out bad _ h1.wr rfl (lies_new _ [iv (n : Int)] _ _ rfl) (by simp) (HW.out.off (by omega)) (by omega) (by omega)).mono ?_
    intro e w2 hc
    obtain ⟨rfl, S2, o2, b2, h2⟩ := h1.step hc
    have h3 : WrS 171 (Psp.encN n ++ (l.take 0).flatMap Psp.encR) (true && (l.take 0).all Psp.okR) (6 + 0 * 36) S g out bad w S2 o2 b2 w2 := h2.of (by simp) (by simp [Psp.okN]; omega)
    have H3 := Lib.hid h3
    clear h1 hc h2 h3
    go_wp2_with fail
    go_loopw [21] (fun i wr => ∃ (k : Nat) (S' : Nat → Prop) (out' : List UInt8) (bad' : Bool), i = .int .i64 (k : Int) ∧ k ≤ n ∧ WrS 171 (Psp.encN n ++ (l.take k).flatMap Psp.encR) (true && (l.take k).all Psp.okR) (6 + k * 36) S g out bad w S' out' bad' wr) (fun i _ => n - (intOf i).toNat)
    case atStart => exact ⟨0, S2, o2, b2, rfl, Nat.zero_le _, H3.out⟩
    case round =>
      obtain ⟨k, S', out', bad', rfl, hk, hI⟩ := hrel
      by_cases hlt : k < n
      · obtain ⟨b, o, hAe, hbS, hb, hlies⟩ := Hxc.out (by omega)
        subst hAe
        have hkl : k < l.length := by have := Hn.out; omega
        have hkl2 : k < l.length := by have := He.out; omega
        have hfl := Psp.flat_step Psp.encR hkl2
        have hal := Psp.all_step Psp.okR hkl2
        have hlen := hI.wrote.islen
        have hk256 : (k + 1) * 36 ≤ 256 * 36 := Nat.mul_le_mul_right _ (by omega)
        rw [Nat.succ_mul] at hk256
        obtain ⟨t, ht⟩ : ∃ t, l[k] = t := ⟨_, rfl⟩
        have hrg := range_elem (f := rq) (k := 6) (fun _ => rfl) (hI.lies hlies hb hbS) hkl
        rw [ht] at hfl hal
        rw [ht] at hrg
        have Hrg := Lib.hid hrg
        have Hfl := Lib.hid hfl
        have Hal := Lib.hid hal
        have HI := Lib.hid hI
        clear hlies hrg hfl hal hI hkl hkl2 ht
        go_wp2_with (first | (refine list_load rfl 42 (.tmp 23) rfl b (o + k * 6) rfl (rq t) _ ?_ Tryz.underlying42 rfl sizeR ?_; exact Hrg.out) | (refine list_store_new rfl 42 (.tmp 7) (.tmp 24) rfl _ _ (rq t) rfl rfl rfl sizeR (by simp [rq, iv, Value.oneCell']) ?_; intro wa hba hra hsa; have Hba := Lib.hid hba; have Hra := Lib.hid hra; clear hba hra hsa) | (refine list_load rfl 42 (.tmp 7) rfl wr.heap.size 0 rfl [.int .i64 t.c, .int .i64 t.t, .int .i64 t.k, .int .i64 t.y, .int .i64 t.v, .int .i64 t.s] _ ?_ Tryz.underlying42 rfl sizeR ?_; exact Hra.out))
        have h4 := HI.out.below Hba.out
        refine (req_wr t.c t.t t.k t.y t.v t.s S' g out' bad' _ h4.wr (by omega)).mono ?_
        intro e w3 hc
        obtain ⟨rfl, S3, o3, b3, h5⟩ := h4.step hc
        have H5 := Lib.hid (h5.of (show (Psp.encN n ++ (l.take k).flatMap Psp.encR) ++ Psp.encR t = Psp.encN n ++ (l.take (k + 1)).flatMap Psp.encR by rw [Hfl.out, List.append_assoc]) (show ((true && (l.take k).all Psp.okR) && Psp.okR t) = (true && (l.take (k + 1)).all Psp.okR) by rw [Hal.out, Bool.and_assoc]))
        clear h4 hc h5
        go_wp2_with fail
        go_roundw
        case rel => exact ⟨k + 1, S3, o3, b3, by go_num, by omega, ⟨H5.out.wrote.more (by rw [Nat.succ_mul]; omega), H5.out.wr, H5.out.fp, H5.out.sub, H5.out.sup⟩⟩
        case measure => simp [intOf]; omega
      · obtain rfl : k = n := by omega
        have hE := He.out
        go_wp2_with fail
        go_end0
        rw [List.take_of_length_le (by omega)] at hI
        have h6 : Psp.okL Psp.okR l = (true && l.all Psp.okR) := by unfold Psp.okL; rw [decide_eq_true (by omega)]
        have h7 : Psp.encL Psp.encR l = Psp.encN k ++ l.flatMap Psp.encR := by unfold Psp.encL; rw [hE]
        rw [h6, h7]
        exact hI.done (by have : k * 36 ≤ 256 * 36 := Nat.mul_le_mul_right _ (by omega); omega)

set_option maxRecDepth 100000 in
theorem listV_wr (l : List Psp.Vote) (n : Nat) (x : Value) (S : Nat → Prop) (g : Nat) (out : List UInt8) (bad : Bool) (w : World) (hW : Wr 171 w S g out bad) (hn : l.length = n)
    (hx : RdP w (fun b => ¬ S b) 2 x n (l.flatMap vt)) (hb : out.length + 3078 ≤ 1099511627776) :
    Calls Tryz.prog 144 #[.pointer (some ⟨g, 0, none⟩), x, .func (.func 145) #[] #[]] w (WrOk 171 (Psp.encL Psp.encV l) (Psp.okL Psp.okV l) 3078 S g out bad w) := by
  have he : l.length = n := by exact hn
  have He := Lib.hid he
  have Hn := Lib.hid hn
  obtain ⟨hxl, A, cp, rfl, hc1, hc2, hxc⟩ := hx.parts
  have Hxc := Lib.hid hxc
  by_cases h256 : 256 < n
  · have d1 : decide (256 < (n : Int)) = true := by simp; omega
    obtain ⟨hs1, hs2⟩ := hW.setBad true
    obtain ⟨A2, c2, hd1, hd2, k0, k1, z0, z1, hown, hSS⟩ := hW.cells
    have Hs1 := Lib.hid hs1
    have Hs2 := Lib.hid hs2
    clear hs1 hs2 hW hn he hx hxl hxc
    go_enter Tryz.func144, Tryz.ntmps144
    go_wp2_with fail
    go_end0
    refine ⟨rfl, out, true, ⟨?_, (fun h => by cases h), by omega⟩, Hs1.out.wider (fun k hk => Or.inl hk) (fun k hk => ?_), Hs2.out⟩
    · have : Psp.okL Psp.okV l = false := by unfold Psp.okL; rw [He.out, decide_eq_false (by omega)]; rfl
      rw [this]; simp
    · rcases hk with hk | hk
      · exact Hs1.out.lt k hk
      · exact hk.2
  · have d1 : decide (256 < (n : Int)) = false := by simp; omega
    have HW := Lib.hid hW
    clear hW hn he hx hxl hxc
    go_enter Tryz.func144, Tryz.ntmps144
    go_wp2_with fail
    have h1 := (WrS.start HW.out).below (alloc_below w (.cells #[.int .i64 (n : Int)] 3))
    refine (numbers_wr [(n : Int)] 1 w.heap.size S g out bad _ h1.wr rfl (lies_new _ [iv (n : Int)] _ _ rfl) (by simp) (HW.out.off (by omega)) (by omega) (by omega)).mono ?_
    intro e w2 hc
    obtain ⟨rfl, S2, o2, b2, h2⟩ := h1.step hc
    have h3 : WrS 171 (Psp.encN n ++ (l.take 0).flatMap Psp.encV) (true && (l.take 0).all Psp.okV) (6 + 0 * 12) S g out bad w S2 o2 b2 w2 := h2.of (by simp) (by simp [Psp.okN]; omega)
    have H3 := Lib.hid h3
    clear h1 hc h2 h3
    go_wp2_with fail
    go_loopw [21] (fun i wr => ∃ (k : Nat) (S' : Nat → Prop) (out' : List UInt8) (bad' : Bool), i = .int .i64 (k : Int) ∧ k ≤ n ∧ WrS 171 (Psp.encN n ++ (l.take k).flatMap Psp.encV) (true && (l.take k).all Psp.okV) (6 + k * 12) S g out bad w S' out' bad' wr) (fun i _ => n - (intOf i).toNat)
    case atStart => exact ⟨0, S2, o2, b2, rfl, Nat.zero_le _, H3.out⟩
    case round =>
      obtain ⟨k, S', out', bad', rfl, hk, hI⟩ := hrel
      by_cases hlt : k < n
      · obtain ⟨b, o, hAe, hbS, hb, hlies⟩ := Hxc.out (by omega)
        subst hAe
        have hkl : k < l.length := by have := Hn.out; omega
        have hkl2 : k < l.length := by have := He.out; omega
        have hfl := Psp.flat_step Psp.encV hkl2
        have hal := Psp.all_step Psp.okV hkl2
        have hlen := hI.wrote.islen
        have hk256 : (k + 1) * 12 ≤ 256 * 12 := Nat.mul_le_mul_right _ (by omega)
        rw [Nat.succ_mul] at hk256
        obtain ⟨t, ht⟩ : ∃ t, l[k] = t := ⟨_, rfl⟩
        have hrg := range_elem (f := vt) (k := 2) (fun _ => rfl) (hI.lies hlies hb hbS) hkl
        rw [ht] at hfl hal
        rw [ht] at hrg
        have Hrg := Lib.hid hrg
        have Hfl := Lib.hid hfl
        have Hal := Lib.hid hal
        have HI := Lib.hid hI
        clear hlies hrg hfl hal hI hkl hkl2 ht
        go_wp2_with (first | (refine list_load rfl 166 (.tmp 23) rfl b (o + k * 2) rfl (vt t) _ ?_ Tryz.underlying166 rfl sizeV ?_; exact Hrg.out) | (refine list_store_new rfl 166 (.tmp 7) (.tmp 24) rfl _ _ (vt t) rfl rfl rfl sizeV (by simp [vt, iv, Value.oneCell']) ?_; intro wa hba hra hsa; have Hba := Lib.hid hba; have Hra := Lib.hid hra; clear hba hra hsa) | (refine list_load rfl 166 (.tmp 7) rfl wr.heap.size 0 rfl [.int .i64 t.n, .int .i64 t.s] _ ?_ Tryz.underlying166 rfl sizeV ?_; exact Hra.out))
        have h4 := HI.out.below Hba.out
        refine (vote_wr t.n t.s S' g out' bad' _ h4.wr (by omega)).mono ?_
        intro e w3 hc
        obtain ⟨rfl, S3, o3, b3, h5⟩ := h4.step hc
        have H5 := Lib.hid (h5.of (show (Psp.encN n ++ (l.take k).flatMap Psp.encV) ++ Psp.encV t = Psp.encN n ++ (l.take (k + 1)).flatMap Psp.encV by rw [Hfl.out, List.append_assoc]) (show ((true && (l.take k).all Psp.okV) && Psp.okV t) = (true && (l.take (k + 1)).all Psp.okV) by rw [Hal.out, Bool.and_assoc]))
        clear h4 hc h5
        go_wp2_with fail
        go_roundw
        case rel => exact ⟨k + 1, S3, o3, b3, by go_num, by omega, ⟨H5.out.wrote.more (by rw [Nat.succ_mul]; omega), H5.out.wr, H5.out.fp, H5.out.sub, H5.out.sup⟩⟩
        case measure => simp [intOf]; omega
      · obtain rfl : k = n := by omega
        have hE := He.out
        go_wp2_with fail
        go_end0
        rw [List.take_of_length_le (by omega)] at hI
        have h6 : Psp.okL Psp.okV l = (true && l.all Psp.okV) := by unfold Psp.okL; rw [decide_eq_true (by omega)]
        have h7 : Psp.encL Psp.encV l = Psp.encN k ++ l.flatMap Psp.encV := by unfold Psp.encL; rw [hE]
        rw [h6, h7]
        exact hI.done (by have : k * 12 ≤ 256 * 12 := Nat.mul_le_mul_right _ (by omega); omega)

end Go.Proofs.YtipmjleohadoeaaGreat

end

section
/- The walks of package pack's writer: certificates, parts, lists of them. Printed by gen_pack.py. -/
namespace Go.Proofs.YtipmjleohadoeaaGreat
open Go.RowKit
set_option linter.unusedVariables false

theorem sizeC : (Tryz.prog.info? 162).map (·.size) = some 5 := by kernel_rfl
theorem sizeP : (Tryz.prog.info? 168).map (·.size) = some 4 := by kernel_rfl

set_option maxRecDepth 100000 in
theorem cert_wr (v i q : Int) (vb vo : Value) (lb : List Psp.Req) (lo : List Psp.Vote) (S : Nat → Prop) (g : Nat) (out : List UInt8) (bad : Bool) (w : World) (hW : Wr 171 w S g out bad)
    (h1 : RdP w (fun b => ¬ S b) 6 vb lb.length (lb.flatMap rq)) (h2 : RdP w (fun b => ¬ S b) 2 vo lo.length (lo.flatMap vt)) (hb : out.length + 12318 ≤ 1099511627776) :
    Calls Tryz.prog 147 #[.pointer (some ⟨g, 0, none⟩), .agg #[.int .i64 v, .int .i64 i, .int .i64 q, vb, vo]] w (WrOk 171 (Psp.encC ⟨v, i, q, lb, lo⟩) (Psp.okC ⟨v, i, q, lb, lo⟩) 12318 S g out bad w) := by
  have H1 := Lib.hid h1
  have H2 := Lib.hid h2
  obtain ⟨_, A1, c1, rfl, _, _, _⟩ := h1.parts
  obtain ⟨_, A2, c2, rfl, _, _, _⟩ := h2.parts
  obtain ⟨nb, hnb⟩ : ∃ n, lb.length = n := ⟨_, rfl⟩
  obtain ⟨no, hno⟩ : ∃ n, lo.length = n := ⟨_, rfl⟩
  rw [hnb] at H1 ⊢
  rw [hno] at H2 ⊢
  have Hnb := Lib.hid hnb
  have Hno := Lib.hid hno
  have HW := Lib.hid (hW.below (alloc_below w (.cells #[.int .i64 v, .int .i64 i, .int .i64 q, .slice A1 nb c1, .slice A2 no c2] 162)))
  have hS : ¬ S w.heap.size := hW.off (Nat.le_refl _)
  have Hl0 := Lib.hid (lies_new w [iv v, iv i, iv q, .slice A1 nb c1, .slice A2 no c2] 162 _ rfl)
  have Hr1 := Lib.hid (H1.out.below (alloc_below w (.cells #[.int .i64 v, .int .i64 i, .int .i64 q, .slice A1 nb c1, .slice A2 no c2] 162)))
  have Hr2 := Lib.hid (H2.out.below (alloc_below w (.cells #[.int .i64 v, .int .i64 i, .int .i64 q, .slice A1 nb c1, .slice A2 no c2] 162)))
  have hz0 : w.heap.size < (w.alloc (.cells #[.int .i64 v, .int .i64 i, .int .i64 q, .slice A1 nb c1, .slice A2 no c2] 162)).heap.size := by simp
  have Hz0 := Lib.hid hz0
  clear hW hz0 h1 h2 hnb hno
  go_enter Tryz.func147, Tryz.ntmps147
  go_wp2_with fail
  have h1 : WrS 171 [] true 0 S g out bad (w.alloc (.cells #[.int .i64 v, .int .i64 i, .int .i64 q, .slice A1 nb c1, .slice A2 no c2] 162)) S out bad ((w.alloc (.cells #[.int .i64 v, .int .i64 i, .int .i64 q, .slice A1 nb c1, .slice A2 no c2] 162)).alloc (.cells #[.int .i64 v, .int .i64 i, .int .i64 q] 3)) := (WrS.start HW.out).below (alloc_below _ _)
  refine (numbers_wr [v, i, q] 3 (w.heap.size + 1) S g out bad _ h1.wr rfl (lies_new _ [iv v, iv i, iv q] _ _ (by simp)) (by simp) (HW.out.off (by simp)) (by omega) (by omega)).mono ?_
  intro e w2 hc
  obtain ⟨rfl, S2, o2, b2, h2⟩ := h1.step hc
  have hbx := h2.lies Hl0.out Hz0.out hS
  have x3 := hbx.at_ (j := 3) (by simp)
  simp only [Nat.zero_add, List.getElem_cons_succ, List.getElem_cons_zero, iv] at x3
  have hl2 := h2.wrote.islen
  have H2 := Lib.hid h2
  clear h2 hc h1 hbx
  go_wp2_with fail
  refine (listR_wr lb nb _ S2 g o2 b2 _ H2.out.wr Hnb.out (H2.out.rd Hr1.out) (by omega)).mono ?_
  intro e w3 hc
  obtain ⟨rfl, S3, o3, b3, h4⟩ := H2.out.step hc
  have hbx := h4.lies Hl0.out Hz0.out hS
  have x4 := hbx.at_ (j := 4) (by simp)
  simp only [Nat.zero_add, List.getElem_cons_succ, List.getElem_cons_zero, iv] at x4
  have hl3 := h4.wrote.islen
  have H4 := Lib.hid h4
  clear hc h4 hbx x3
  go_wp2_with fail
  refine (listV_wr lo no _ S3 g o3 b3 _ H4.out.wr Hno.out (H4.out.rd Hr2.out) (by omega)).mono ?_
  intro e w4 hc
  obtain ⟨rfl, S4, o4, b4, h6⟩ := H4.out.step hc
  have H6 := Lib.hid h6
  clear hc h6 x4
  go_wp2_with fail
  go_end0
  exact ((H6.out.of (by simp [Psp.encC]) (by simp [Psp.okC, Bool.and_assoc])).done (by omega)).from_ (alloc_below _ _)

set_option maxRecDepth 100000 in
theorem listC_wr (l : List CertV) (n : Nat) (x : Value) (S : Nat → Prop) (g : Nat) (out : List UInt8) (bad : Bool) (w : World) (hW : Wr 171 w S g out bad) (hn : l.length = n)
    (hx : RdP w (fun b => ¬ S b) 5 x n (l.flatMap cv)) (hc : ∀ y ∈ l, CertOk w (fun b => ¬ S b) y) (hb : out.length + 3153414 ≤ 1099511627776) :
    Calls Tryz.prog 146 #[.pointer (some ⟨g, 0, none⟩), x, .func (.func 147) #[] #[]] w (WrOk 171 (Psp.encL Psp.encC (l.map (·.c))) (Psp.okL Psp.okC (l.map (·.c))) 3153414 S g out bad w) := by
  have he : (l.map (·.c)).length = n := by rw [List.length_map]; exact hn
  have He := Lib.hid he
  have Hn := Lib.hid hn
  obtain ⟨hxl, A, cp, rfl, hc1, hc2, hxc⟩ := hx.parts
  have Hxc := Lib.hid hxc
  by_cases h256 : 256 < n
  · have d1 : decide (256 < (n : Int)) = true := by simp; omega
    obtain ⟨hs1, hs2⟩ := hW.setBad true
    obtain ⟨A2, c2, hd1, hd2, k0, k1, z0, z1, hown, hSS⟩ := hW.cells
    have Hs1 := Lib.hid hs1
    have Hs2 := Lib.hid hs2
    clear hs1 hs2 hW hn he hx hxl hxc
    go_enter Tryz.func146, Tryz.ntmps146
    go_wp2_with fail
    go_end0
    refine ⟨rfl, out, true, ⟨?_, (fun h => by cases h), by omega⟩, Hs1.out.wider (fun k hk => Or.inl hk) (fun k hk => ?_), Hs2.out⟩
    · have : Psp.okL Psp.okC (l.map (·.c)) = false := by unfold Psp.okL; rw [He.out, decide_eq_false (by omega)]; rfl
      rw [this]; simp
    · rcases hk with hk | hk
      · exact Hs1.out.lt k hk
      · exact hk.2
  · have d1 : decide (256 < (n : Int)) = false := by simp; omega
    have HW := Lib.hid hW
    clear hW hn he hx hxl hxc
    go_enter Tryz.func146, Tryz.ntmps146
    go_wp2_with fail
    have h1 := (WrS.start HW.out).below (alloc_below w (.cells #[.int .i64 (n : Int)] 3))
    refine (numbers_wr [(n : Int)] 1 w.heap.size S g out bad _ h1.wr rfl (lies_new _ [iv (n : Int)] _ _ rfl) (by simp) (HW.out.off (by omega)) (by omega) (by omega)).mono ?_
    intro e w2 hc
    obtain ⟨rfl, S2, o2, b2, h2⟩ := h1.step hc
    have h3 : WrS 171 (Psp.encN n ++ ((l.map (·.c)).take 0).flatMap Psp.encC) (true && ((l.map (·.c)).take 0).all Psp.okC) (6 + 0 * 12318) S g out bad w S2 o2 b2 w2 := h2.of (by simp) (by simp [Psp.okN]; omega)
    have H3 := Lib.hid h3
    clear h1 hc h2 h3
    go_wp2_with fail
    go_loopw [21] (fun i wr => ∃ (k : Nat) (S' : Nat → Prop) (out' : List UInt8) (bad' : Bool), i = .int .i64 (k : Int) ∧ k ≤ n ∧ WrS 171 (Psp.encN n ++ ((l.map (·.c)).take k).flatMap Psp.encC) (true && ((l.map (·.c)).take k).all Psp.okC) (6 + k * 12318) S g out bad w S' out' bad' wr) (fun i _ => n - (intOf i).toNat)
    case atStart => exact ⟨0, S2, o2, b2, rfl, Nat.zero_le _, H3.out⟩
    case round =>
      obtain ⟨k, S', out', bad', rfl, hk, hI⟩ := hrel
      by_cases hlt : k < n
      · obtain ⟨b, o, hAe, hbS, hb, hlies⟩ := Hxc.out (by omega)
        subst hAe
        have hkl : k < l.length := by have := Hn.out; omega
        have hkl2 : k < (l.map (·.c)).length := by have := He.out; omega
        have hfl := Psp.flat_step Psp.encC hkl2
        have hal := Psp.all_step Psp.okC hkl2
        have hlen := hI.wrote.islen
        have hk256 : (k + 1) * 12318 ≤ 256 * 12318 := Nat.mul_le_mul_right _ (by omega)
        rw [Nat.succ_mul] at hk256
        obtain ⟨t, ht⟩ : ∃ t, l[k] = t := ⟨_, rfl⟩
        have hrg := range_elem (f := cv) (k := 5) (fun _ => rfl) (hI.lies hlies hb hbS) hkl
        rw [List.getElem_map, ht] at hfl hal
        rw [ht] at hrg
        have Hrg := Lib.hid hrg
        have Hfl := Lib.hid hfl
        have Hal := Lib.hid hal
        have HI := Lib.hid hI
        have Hok := Lib.hid (hc t (by rw [← ht]; exact List.getElem_mem hkl))
        have Hone := Lib.hid (show t.b.oneCell' = true ∧ t.o.oneCell' = true from ⟨Hok.out.1.one, Hok.out.2.one⟩)
        clear hlies hrg hfl hal hI hkl hkl2 ht
        go_wp2_with (first | (refine list_load rfl 162 (.tmp 23) rfl b (o + k * 5) rfl (cv t) _ ?_ Tryz.underlying162 rfl sizeC ?_; exact Hrg.out) | (refine list_store_new rfl 162 (.tmp 7) (.tmp 24) rfl _ _ (cv t) rfl rfl rfl sizeC (by simp [cv, iv, Value.oneCell']; exact ⟨Hone.out.1, Hone.out.2⟩) ?_; intro wa hba hra hsa; have Hba := Lib.hid hba; have Hra := Lib.hid hra; clear hba hra hsa) | (refine list_load rfl 162 (.tmp 7) rfl wr.heap.size 0 rfl [.int .i64 t.c.v, .int .i64 t.c.i, .int .i64 t.c.q, t.b, t.o] _ ?_ Tryz.underlying162 rfl sizeC ?_; exact Hra.out))
        have h4 := HI.out.below Hba.out
        refine (cert_wr t.c.v t.c.i t.c.q t.b t.o t.c.b t.c.o S' g out' bad' _ h4.wr (h4.rd Hok.out.1) (h4.rd Hok.out.2) (by omega)).mono ?_
        intro e w3 hc
        obtain ⟨rfl, S3, o3, b3, h5⟩ := h4.step hc
        have H5 := Lib.hid (h5.of (show (Psp.encN n ++ ((l.map (·.c)).take k).flatMap Psp.encC) ++ Psp.encC t.c = Psp.encN n ++ ((l.map (·.c)).take (k + 1)).flatMap Psp.encC by rw [Hfl.out, List.append_assoc]) (show ((true && ((l.map (·.c)).take k).all Psp.okC) && Psp.okC t.c) = (true && ((l.map (·.c)).take (k + 1)).all Psp.okC) by rw [Hal.out, Bool.and_assoc]))
        clear h4 hc h5
        go_wp2_with fail
        go_roundw
        case rel => exact ⟨k + 1, S3, o3, b3, by go_num, by omega, ⟨H5.out.wrote.more (by rw [Nat.succ_mul]; omega), H5.out.wr, H5.out.fp, H5.out.sub, H5.out.sup⟩⟩
        case measure => simp [intOf]; omega
      · obtain rfl : k = n := by omega
        have hE := He.out
        go_wp2_with fail
        go_end0
        rw [List.take_of_length_le (by omega)] at hI
        have h6 : Psp.okL Psp.okC (l.map (·.c)) = (true && (l.map (·.c)).all Psp.okC) := by unfold Psp.okL; rw [decide_eq_true (by omega)]
        have h7 : Psp.encL Psp.encC (l.map (·.c)) = Psp.encN k ++ (l.map (·.c)).flatMap Psp.encC := by unfold Psp.encL; rw [hE]
        rw [h6, h7]
        exact hI.done (by have : k * 12318 ≤ 256 * 12318 := Nat.mul_le_mul_right _ (by omega); omega)

set_option maxRecDepth 100000 in
theorem part_wr (f : Int) (vo vc : Value) (s : Int) (lo : List Psp.Vote) (lc : List Psp.Cert) (S : Nat → Prop) (g : Nat) (out : List UInt8) (bad : Bool) (w : World) (hW : Wr 171 w S g out bad)
    (h1 : RdP w (fun b => ¬ S b) 2 vo lo.length (lo.flatMap vt)) (h2 : RdC w (fun b => ¬ S b) vc lc) (hb : out.length + 3156504 ≤ 1099511627776) :
    Calls Tryz.prog 149 #[.pointer (some ⟨g, 0, none⟩), .agg #[.int .i64 f, vo, vc, .int .i64 s]] w (WrOk 171 (Psp.encP ⟨f, lo, lc, s⟩) (Psp.okP ⟨f, lo, lc, s⟩) 3156504 S g out bad w) := by
  have H1 := Lib.hid h1
  have H2 := Lib.hid h2
  obtain ⟨L0, _, hL0, _⟩ := h2
  obtain ⟨_, A1, c1, rfl, _, _, _⟩ := h1.parts
  obtain ⟨_, A2, c2, rfl, _, _, _⟩ := hL0.parts
  obtain ⟨nc, hnc⟩ : ∃ n, L0.length = n := ⟨_, rfl⟩
  obtain ⟨no, hno⟩ : ∃ n, lo.length = n := ⟨_, rfl⟩
  rw [hno] at H1 ⊢
  rw [hnc] at H2 ⊢
  have Hno := Lib.hid hno
  have HW := Lib.hid (hW.below (alloc_below w (.cells #[.int .i64 f, .slice A1 no c1, .slice A2 nc c2, .int .i64 s] 168)))
  have hS : ¬ S w.heap.size := hW.off (Nat.le_refl _)
  have Hl0 := Lib.hid (lies_new w [iv f, .slice A1 no c1, .slice A2 nc c2, iv s] 168 _ rfl)
  have Hr1 := Lib.hid (H1.out.below (alloc_below w (.cells #[.int .i64 f, .slice A1 no c1, .slice A2 nc c2, .int .i64 s] 168)))
  have Hr2 := Lib.hid (H2.out.below (alloc_below w (.cells #[.int .i64 f, .slice A1 no c1, .slice A2 nc c2, .int .i64 s] 168)))
  have hz0 : w.heap.size < (w.alloc (.cells #[.int .i64 f, .slice A1 no c1, .slice A2 nc c2, .int .i64 s] 168)).heap.size := by simp
  have Hz0 := Lib.hid hz0
  clear hW hz0 h1 hL0 hno hnc
  go_enter Tryz.func149, Tryz.ntmps149
  go_wp2_with fail
  have h1 : WrS 171 [] true 0 S g out bad (w.alloc (.cells #[.int .i64 f, .slice A1 no c1, .slice A2 nc c2, .int .i64 s] 168)) S out bad ((w.alloc (.cells #[.int .i64 f, .slice A1 no c1, .slice A2 nc c2, .int .i64 s] 168)).alloc (.cells #[.int .i64 f] 3)) := (WrS.start HW.out).below (alloc_below _ _)
  refine (numbers_wr [f] 1 (w.heap.size + 1) S g out bad _ h1.wr rfl (lies_new _ [iv f] _ _ (by simp)) (by simp) (HW.out.off (by simp)) (by omega) (by omega)).mono ?_
  intro e w2 hc
  obtain ⟨rfl, S2, o2, b2, h2⟩ := h1.step hc
  have hbx := h2.lies Hl0.out Hz0.out hS
  have x1 := hbx.at_ (j := 1) (by simp)
  simp only [Nat.zero_add, List.getElem_cons_succ, List.getElem_cons_zero, iv] at x1
  have hl2 := h2.wrote.islen
  have H2 := Lib.hid h2
  clear h2 hc h1 hbx
  go_wp2_with fail
  refine (listV_wr lo no _ S2 g o2 b2 _ H2.out.wr Hno.out (H2.out.rd Hr1.out) (by omega)).mono ?_
  intro e w3 hc
  obtain ⟨rfl, S3, o3, b3, h4⟩ := H2.out.step hc
  have hbx := h4.lies Hl0.out Hz0.out hS
  have x2 := hbx.at_ (j := 2) (by simp)
  simp only [Nat.zero_add, List.getElem_cons_succ, List.getElem_cons_zero, iv] at x2
  have hl3 := h4.wrote.islen
  have H4 := Lib.hid h4
  clear hc h4 hbx x1
  go_wp2_with fail
  obtain ⟨L, hL1, hL2, hL3⟩ := H4.out.rdC Hr2.out
  have hLn : L.length = nc := by
    obtain ⟨_, A, c, e, _⟩ := hL2
    injection e with _ e _
    exact e.symm
  rw [hLn] at hL2
  have HL1 := Lib.hid hL1
  refine (listC_wr L nc _ S3 g o3 b3 _ H4.out.wr hLn hL2 hL3 (by omega)).mono ?_
  intro e w4 hc
  rw [HL1.out] at hc
  obtain ⟨rfl, S4, o4, b4, h6⟩ := H4.out.step hc
  have hbx := h6.lies Hl0.out Hz0.out hS
  have x3 := hbx.at_ (j := 3) (by simp)
  simp only [Nat.zero_add, List.getElem_cons_succ, List.getElem_cons_zero, iv] at x3
  have hl4 := h6.wrote.islen
  have H6 := Lib.hid h6
  clear hc h6 x2 hbx hL1 hL2 hL3 hLn
  go_wp2_with fail
  have h5 := H6.out.below (alloc_below w4 (.cells #[.int .i64 s] 3))
  refine (numbers_wr [s] 1 w4.heap.size S4 g o4 b4 _ h5.wr rfl (lies_new _ [iv s] _ _ rfl) (by simp) (H6.out.wr.off (by omega)) (by omega) (by omega)).mono ?_
  intro e w5 hc
  obtain ⟨rfl, S5, o5, b5, h7⟩ := h5.step hc
  have H7 := Lib.hid h7
  clear hc h5 h7 x3
  go_wp2_with fail
  go_end0
  exact ((H7.out.of (by simp [Psp.encP]) (by simp [Psp.okP, Bool.and_assoc])).done (by omega)).from_ (alloc_below _ _)

set_option maxRecDepth 100000 in
theorem listP_wr (l : List PartV) (n : Nat) (x : Value) (S : Nat → Prop) (g : Nat) (out : List UInt8) (bad : Bool) (w : World) (hW : Wr 171 w S g out bad) (hn : l.length = n)
    (hx : RdP w (fun b => ¬ S b) 4 x n (l.flatMap pv)) (hc : ∀ y ∈ l, PartOk w (fun b => ¬ S b) y) (hb : out.length + 808065030 ≤ 1099511627776) :
    Calls Tryz.prog 148 #[.pointer (some ⟨g, 0, none⟩), x, .func (.func 149) #[] #[]] w (WrOk 171 (Psp.encL Psp.encP (l.map (·.p))) (Psp.okL Psp.okP (l.map (·.p))) 808065030 S g out bad w) := by
  have he : (l.map (·.p)).length = n := by rw [List.length_map]; exact hn
  have He := Lib.hid he
  have Hn := Lib.hid hn
  obtain ⟨hxl, A, cp, rfl, hc1, hc2, hxc⟩ := hx.parts
  have Hxc := Lib.hid hxc
  by_cases h256 : 256 < n
  · have d1 : decide (256 < (n : Int)) = true := by simp; omega
    obtain ⟨hs1, hs2⟩ := hW.setBad true
    obtain ⟨A2, c2, hd1, hd2, k0, k1, z0, z1, hown, hSS⟩ := hW.cells
    have Hs1 := Lib.hid hs1
    have Hs2 := Lib.hid hs2
    clear hs1 hs2 hW hn he hx hxl hxc
    go_enter Tryz.func148, Tryz.ntmps148
    go_wp2_with fail
    go_end0
    refine ⟨rfl, out, true, ⟨?_, (fun h => by cases h), by omega⟩, Hs1.out.wider (fun k hk => Or.inl hk) (fun k hk => ?_), Hs2.out⟩
    · have : Psp.okL Psp.okP (l.map (·.p)) = false := by unfold Psp.okL; rw [He.out, decide_eq_false (by omega)]; rfl
      rw [this]; simp
    · rcases hk with hk | hk
      · exact Hs1.out.lt k hk
      · exact hk.2
  · have d1 : decide (256 < (n : Int)) = false := by simp; omega
    have HW := Lib.hid hW
    clear hW hn he hx hxl hxc
    go_enter Tryz.func148, Tryz.ntmps148
    go_wp2_with fail
    have h1 := (WrS.start HW.out).below (alloc_below w (.cells #[.int .i64 (n : Int)] 3))
    refine (numbers_wr [(n : Int)] 1 w.heap.size S g out bad _ h1.wr rfl (lies_new _ [iv (n : Int)] _ _ rfl) (by simp) (HW.out.off (by omega)) (by omega) (by omega)).mono ?_
    intro e w2 hc
    obtain ⟨rfl, S2, o2, b2, h2⟩ := h1.step hc
    have h3 : WrS 171 (Psp.encN n ++ ((l.map (·.p)).take 0).flatMap Psp.encP) (true && ((l.map (·.p)).take 0).all Psp.okP) (6 + 0 * 3156504) S g out bad w S2 o2 b2 w2 := h2.of (by simp) (by simp [Psp.okN]; omega)
    have H3 := Lib.hid h3
    clear h1 hc h2 h3
    go_wp2_with fail
    go_loopw [21] (fun i wr => ∃ (k : Nat) (S' : Nat → Prop) (out' : List UInt8) (bad' : Bool), i = .int .i64 (k : Int) ∧ k ≤ n ∧ WrS 171 (Psp.encN n ++ ((l.map (·.p)).take k).flatMap Psp.encP) (true && ((l.map (·.p)).take k).all Psp.okP) (6 + k * 3156504) S g out bad w S' out' bad' wr) (fun i _ => n - (intOf i).toNat)
    case atStart => exact ⟨0, S2, o2, b2, rfl, Nat.zero_le _, H3.out⟩
    case round =>
      obtain ⟨k, S', out', bad', rfl, hk, hI⟩ := hrel
      by_cases hlt : k < n
      · obtain ⟨b, o, hAe, hbS, hb, hlies⟩ := Hxc.out (by omega)
        subst hAe
        have hkl : k < l.length := by have := Hn.out; omega
        have hkl2 : k < (l.map (·.p)).length := by have := He.out; omega
        have hfl := Psp.flat_step Psp.encP hkl2
        have hal := Psp.all_step Psp.okP hkl2
        have hlen := hI.wrote.islen
        have hk256 : (k + 1) * 3156504 ≤ 256 * 3156504 := Nat.mul_le_mul_right _ (by omega)
        rw [Nat.succ_mul] at hk256
        obtain ⟨t, ht⟩ : ∃ t, l[k] = t := ⟨_, rfl⟩
        have hrg := range_elem (f := pv) (k := 4) (fun _ => rfl) (hI.lies hlies hb hbS) hkl
        rw [List.getElem_map, ht] at hfl hal
        rw [ht] at hrg
        have Hrg := Lib.hid hrg
        have Hfl := Lib.hid hfl
        have Hal := Lib.hid hal
        have HI := Lib.hid hI
        have Hok := Lib.hid (hc t (by rw [← ht]; exact List.getElem_mem hkl))
        have Hone := Lib.hid (show t.o.oneCell' = true ∧ t.c.oneCell' = true from ⟨Hok.out.1.one, Hok.out.2.one⟩)
        clear hlies hrg hfl hal hI hkl hkl2 ht
        go_wp2_with (first | (refine list_load rfl 168 (.tmp 23) rfl b (o + k * 4) rfl (pv t) _ ?_ Tryz.underlying168 rfl sizeP ?_; exact Hrg.out) | (refine list_store_new rfl 168 (.tmp 7) (.tmp 24) rfl _ _ (pv t) rfl rfl rfl sizeP (by simp [pv, iv, Value.oneCell']; exact ⟨Hone.out.1, Hone.out.2⟩) ?_; intro wa hba hra hsa; have Hba := Lib.hid hba; have Hra := Lib.hid hra; clear hba hra hsa) | (refine list_load rfl 168 (.tmp 7) rfl wr.heap.size 0 rfl [.int .i64 t.p.f, t.o, t.c, .int .i64 t.p.s] _ ?_ Tryz.underlying168 rfl sizeP ?_; exact Hra.out))
        have h4 := HI.out.below Hba.out
        refine (part_wr t.p.f t.o t.c t.p.s t.p.o t.p.c S' g out' bad' _ h4.wr (h4.rd Hok.out.1) (h4.rdC Hok.out.2) (by omega)).mono ?_
        intro e w3 hc
        obtain ⟨rfl, S3, o3, b3, h5⟩ := h4.step hc
        have H5 := Lib.hid (h5.of (show (Psp.encN n ++ ((l.map (·.p)).take k).flatMap Psp.encP) ++ Psp.encP t.p = Psp.encN n ++ ((l.map (·.p)).take (k + 1)).flatMap Psp.encP by rw [Hfl.out, List.append_assoc]) (show ((true && ((l.map (·.p)).take k).all Psp.okP) && Psp.okP t.p) = (true && ((l.map (·.p)).take (k + 1)).all Psp.okP) by rw [Hal.out, Bool.and_assoc]))
        clear h4 hc h5
        go_wp2_with fail
        go_roundw
        case rel => exact ⟨k + 1, S3, o3, b3, by go_num, by omega, ⟨H5.out.wrote.more (by rw [Nat.succ_mul]; omega), H5.out.wr, H5.out.fp, H5.out.sub, H5.out.sup⟩⟩
        case measure => simp [intOf]; omega
      · obtain rfl : k = n := by omega
        have hE := He.out
        go_wp2_with fail
        go_end0
        rw [List.take_of_length_le (by omega)] at hI
        have h6 : Psp.okL Psp.okP (l.map (·.p)) = (true && (l.map (·.p)).all Psp.okP) := by unfold Psp.okL; rw [decide_eq_true (by omega)]
        have h7 : Psp.encL Psp.encP (l.map (·.p)) = Psp.encN k ++ (l.map (·.p)).flatMap Psp.encP := by unfold Psp.encL; rw [hE]
        rw [h6, h7]
        exact hI.done (by have : k * 3156504 ≤ 256 * 3156504 := Nat.mul_le_mul_right _ (by omega); omega)

end Go.Proofs.YtipmjleohadoeaaGreat

end

section
/- Package pack: Req, Batch, Votes, Certs, Parts. Printed by gen_top.py. -/
namespace Go.Proofs.YtipmjleohadoeaaGreat
open Go.RowKit
set_option linter.unusedVariables false

/-- What a call that writes a thing returns: its bytes, or that there are none. -/
def Bytes (e : List UInt8) (ok : Bool) (w : World) (en : Ending) (w' : World) : Prop :=
  ∃ v, en = .returned (.tuple #[v, .bool ok]) ∧ w'.ownsRow w.heap.size 5 1 v (if ok then e else []).length ((if ok then e else []).map bv) ∧ Below w.heap.size w w'
theorem ret_pair {a b : Bool} (v : Value) (h : a = b) : Ending.returned (.tuple #[v, .bool b]) = .returned (.tuple #[v, .bool a]) := by rw [h]
theorem own_base {w : World} {base base' : Nat} {e : TypeId} {k n : Nat} {v : Value} {xs : List Value} (h : w.ownsRow base e k v n xs) (hb : ∀ b, v.ownBlock = some b → base' ≤ b) : w.ownsRow base' e k v n xs := by
  refine ⟨h.1, ?_⟩
  rcases h.2 with hn | ⟨b, cap, cur, rfl, _, hh, r⟩
  · exact .inl hn
  · exact .inr ⟨b, cap, cur, rfl, hb b rfl, hh, r⟩
theorem Wr.new (w : World) (T : TypeId) (g : Nat) (hg : w.heap.size = g) : Wr T (w.alloc (.cells #[.slice none 0 0, .bool false] T)) (fun k => k = g) g [] false := by
  subst hg
  exact ⟨⟨_, heap_alloc_new w _, World.ownsRow_nil _ _ _ _, fun k hk => by simp [Value.ownBlock] at hk⟩, rfl, fun k hk => by subst hk; simp⟩
theorem Keeps.newb (w : World) (o : Obj) : Keeps (fun b => b < w.heap.size) (fun b => ¬ b = w.heap.size) w (w.alloc o) := ⟨by simp, fun b hb hlt => ⟨(alloc_below w o).block b hlt, by omega⟩⟩

theorem done_w_bad (S : Nat → Prop) (g : Nat) (out : List UInt8) (w : World) (hW : Wr 171 w S g out true) :
    Calls Tryz.prog 108 #[.pointer (some ⟨g, 0, none⟩)] w fun e w' => e = .returned (.tuple #[.slice none 0 0, .bool false]) ∧ w = w' := by
  obtain ⟨A, c, hc1, hc2, k0, k1, z0, z1, hown, hS⟩ := hW.cells
  clear hW hown hS
  go_enter Tryz.func108, Tryz.ntmps108
  go_wp2_with fail
  go_ret2
  exact ⟨rfl, rfl⟩
theorem done_w_good (S : Nat → Prop) (g : Nat) (out : List UInt8) (w : World) (hW : Wr 171 w S g out false) :
    Calls Tryz.prog 108 #[.pointer (some ⟨g, 0, none⟩)] w fun e w' => (∃ v, e = .returned (.tuple #[v, .bool true]) ∧ w.ownsRow 0 5 1 v out.length (out.map bv) ∧ ∀ k, v.ownBlock = some k → S k) ∧ w = w' := by
  obtain ⟨A, c, hc1, hc2, k0, k1, z0, z1, hown, hS⟩ := hW.cells
  have Hown := Lib.hid hown
  have HS := Lib.hid hS
  clear hW hown hS
  go_enter Tryz.func108, Tryz.ntmps108
  go_wp2_with fail
  go_ret2
  exact ⟨⟨_, rfl, Hown.out, fun k hk => (HS.out k hk).1⟩, rfl⟩

set_option maxRecDepth 100000 in
theorem pk_req (c t k y v s : Int) (w : World) :
    Calls Tryz.prog 79 #[.agg #[.int .i64 c, .int .i64 t, .int .i64 k, .int .i64 y, .int .i64 v, .int .i64 s]] w (Bytes (Psp.encR ⟨c, t, k, y, v, s⟩) (Psp.okR ⟨c, t, k, y, v, s⟩) w) := by
  have hnew : Wr 171 ((w.alloc (.cells #[.int .i64 c, .int .i64 t, .int .i64 k, .int .i64 y, .int .i64 v, .int .i64 s] 42)).alloc (.cells #[.slice none 0 0, .bool false] 171)) (fun k => k = w.heap.size + 1) (w.heap.size + 1) [] false := Wr.new (w.alloc (.cells #[.int .i64 c, .int .i64 t, .int .i64 k, .int .i64 y, .int .i64 v, .int .i64 s] 42)) _ _ (by simp)
  have Hnew := Lib.hid hnew
  have hbl : Below w.heap.size w ((w.alloc (.cells #[.int .i64 c, .int .i64 t, .int .i64 k, .int .i64 y, .int .i64 v, .int .i64 s] 42)).alloc (.cells #[.slice none 0 0, .bool false] 171)) := ((alloc_below w _).trans ((alloc_below _ _).mono (by simp)))
  have Hbl := Lib.hid hbl
  clear hnew hbl
  go_enter Tryz.func79, Tryz.ntmps79
  go_wp2_with fail
  refine (req_wr c t k y v s _ _ [] false _ Hnew.out (by simp)).mono ?_
  intro en w2 hc
  obtain ⟨rfl, S2, o2, b2, h2⟩ := (WrS.start Hnew.out).step hc
  have h3 := h2.of (List.nil_append _) (Bool.true_and _)
  have hbel : Below w.heap.size w w2 := Hbl.out.trans (h3.fp.to_below (B := w.heap.size) Hbl.out.size (fun k _ hk => by rw [hk]; omega))
  have hsub : ∀ k, S2 k → w.heap.size ≤ k := fun k hk => by
    rcases h3.sub k hk with h | h
    · rw [h]; omega
    · have := Hbl.out.size; omega
  have Hbel := Lib.hid hbel
  have Hsub := Lib.hid hsub
  have H3 := Lib.hid h3
  clear h2 h3 hc hbel hsub
  cases hk : (Psp.okR ⟨c, t, k, y, v, s⟩) with
  | true =>
    have hb : b2 = false := by rw [H3.out.wrote.isbad, hk]; rfl
    subst hb
    have Hk := Lib.hid hk
    clear hk
    go_wp2_with fail
    refine (done_w_good S2 _ o2 _ H3.out.wr).mono ?_
    rintro en w3 ⟨⟨v, rfl, hown, hS⟩, rfl⟩
    have ho := H3.out.wrote.isout rfl
    rw [List.nil_append] at ho
    rw [ho] at hown
    have Hown := Lib.hid (own_base hown fun b hb => Hsub.out b (hS b hb))
    clear hown hS ho
    go_wp2_with fail
    go_ret2
    exact ⟨v, ret_pair v Hk.out, by simpa [Hk.out] using Hown.out, Hbel.out⟩
  | false =>
    have hb : b2 = true := by rw [H3.out.wrote.isbad, hk]; rfl
    subst hb
    have Hk := Lib.hid hk
    clear hk
    go_wp2_with fail
    refine (done_w_bad S2 _ o2 _ H3.out.wr).mono ?_
    rintro en w3 ⟨rfl, rfl⟩
    go_wp2_with fail
    go_ret2
    exact ⟨.slice none 0 0, ret_pair _ Hk.out, by simpa [Hk.out] using World.ownsRow_nil _ _ _ _, Hbel.out⟩

set_option maxRecDepth 100000 in
theorem pk_batch (l : List Psp.Req) (x : Value) (w : World) (hx : RdP w (fun b => b < w.heap.size) 6 x l.length (l.flatMap rq)) :
    Calls Tryz.prog 112 #[x] w (Bytes (Psp.encL Psp.encR l) (Psp.okL Psp.okR l) w) := by
  have hnew : Wr 171 (w.alloc (.cells #[.slice none 0 0, .bool false] 171)) (fun k => k = w.heap.size) (w.heap.size) [] false := Wr.new w _ _ rfl
  have Hnew := Lib.hid hnew
  have hbl : Below w.heap.size w (w.alloc (.cells #[.slice none 0 0, .bool false] 171)) := alloc_below _ _
  have Hbl := Lib.hid hbl
  clear hnew hbl
  go_enter Tryz.func112, Tryz.ntmps112
  go_wp2_with fail
  refine (listR_wr l _ x _ _ [] false _ Hnew.out rfl (hx.keeps (Keeps.newb _ _)) (by simp)).mono ?_
  intro en w2 hc
  obtain ⟨rfl, S2, o2, b2, h2⟩ := (WrS.start Hnew.out).step hc
  have h3 := h2.of (List.nil_append _) (Bool.true_and _)
  have hbel : Below w.heap.size w w2 := Hbl.out.trans (h3.fp.to_below (B := w.heap.size) Hbl.out.size (fun k _ hk => by rw [hk]; exact Nat.le_refl _))
  have hsub : ∀ k, S2 k → w.heap.size ≤ k := fun k hk => by
    rcases h3.sub k hk with h | h
    · rw [h]; exact Nat.le_refl _
    · have := Hbl.out.size; omega
  have Hbel := Lib.hid hbel
  have Hsub := Lib.hid hsub
  have H3 := Lib.hid h3
  clear h2 h3 hc hbel hsub
  cases hk : (Psp.okL Psp.okR l) with
  | true =>
    have hb : b2 = false := by rw [H3.out.wrote.isbad, hk]; rfl
    subst hb
    have Hk := Lib.hid hk
    clear hk
    go_wp2_with fail
    refine (done_w_good S2 _ o2 _ H3.out.wr).mono ?_
    rintro en w3 ⟨⟨v, rfl, hown, hS⟩, rfl⟩
    have ho := H3.out.wrote.isout rfl
    rw [List.nil_append] at ho
    rw [ho] at hown
    have Hown := Lib.hid (own_base hown fun b hb => Hsub.out b (hS b hb))
    clear hown hS ho
    go_wp2_with fail
    go_ret2
    exact ⟨v, ret_pair v Hk.out, by simpa [Hk.out] using Hown.out, Hbel.out⟩
  | false =>
    have hb : b2 = true := by rw [H3.out.wrote.isbad, hk]; rfl
    subst hb
    have Hk := Lib.hid hk
    clear hk
    go_wp2_with fail
    refine (done_w_bad S2 _ o2 _ H3.out.wr).mono ?_
    rintro en w3 ⟨rfl, rfl⟩
    go_wp2_with fail
    go_ret2
    exact ⟨.slice none 0 0, ret_pair _ Hk.out, by simpa [Hk.out] using World.ownsRow_nil _ _ _ _, Hbel.out⟩

set_option maxRecDepth 100000 in
theorem pk_votes (l : List Psp.Vote) (x : Value) (w : World) (hx : RdP w (fun b => b < w.heap.size) 2 x l.length (l.flatMap vt)) :
    Calls Tryz.prog 113 #[x] w (Bytes (Psp.encL Psp.encV l) (Psp.okL Psp.okV l) w) := by
  have hnew : Wr 171 (w.alloc (.cells #[.slice none 0 0, .bool false] 171)) (fun k => k = w.heap.size) (w.heap.size) [] false := Wr.new w _ _ rfl
  have Hnew := Lib.hid hnew
  have hbl : Below w.heap.size w (w.alloc (.cells #[.slice none 0 0, .bool false] 171)) := alloc_below _ _
  have Hbl := Lib.hid hbl
  clear hnew hbl
  go_enter Tryz.func113, Tryz.ntmps113
  go_wp2_with fail
  refine (listV_wr l _ x _ _ [] false _ Hnew.out rfl (hx.keeps (Keeps.newb _ _)) (by simp)).mono ?_
  intro en w2 hc
  obtain ⟨rfl, S2, o2, b2, h2⟩ := (WrS.start Hnew.out).step hc
  have h3 := h2.of (List.nil_append _) (Bool.true_and _)
  have hbel : Below w.heap.size w w2 := Hbl.out.trans (h3.fp.to_below (B := w.heap.size) Hbl.out.size (fun k _ hk => by rw [hk]; exact Nat.le_refl _))
  have hsub : ∀ k, S2 k → w.heap.size ≤ k := fun k hk => by
    rcases h3.sub k hk with h | h
    · rw [h]; exact Nat.le_refl _
    · have := Hbl.out.size; omega
  have Hbel := Lib.hid hbel
  have Hsub := Lib.hid hsub
  have H3 := Lib.hid h3
  clear h2 h3 hc hbel hsub
  cases hk : (Psp.okL Psp.okV l) with
  | true =>
    have hb : b2 = false := by rw [H3.out.wrote.isbad, hk]; rfl
    subst hb
    have Hk := Lib.hid hk
    clear hk
    go_wp2_with fail
    refine (done_w_good S2 _ o2 _ H3.out.wr).mono ?_
    rintro en w3 ⟨⟨v, rfl, hown, hS⟩, rfl⟩
    have ho := H3.out.wrote.isout rfl
    rw [List.nil_append] at ho
    rw [ho] at hown
    have Hown := Lib.hid (own_base hown fun b hb => Hsub.out b (hS b hb))
    clear hown hS ho
    go_wp2_with fail
    go_ret2
    exact ⟨v, ret_pair v Hk.out, by simpa [Hk.out] using Hown.out, Hbel.out⟩
  | false =>
    have hb : b2 = true := by rw [H3.out.wrote.isbad, hk]; rfl
    subst hb
    have Hk := Lib.hid hk
    clear hk
    go_wp2_with fail
    refine (done_w_bad S2 _ o2 _ H3.out.wr).mono ?_
    rintro en w3 ⟨rfl, rfl⟩
    go_wp2_with fail
    go_ret2
    exact ⟨.slice none 0 0, ret_pair _ Hk.out, by simpa [Hk.out] using World.ownsRow_nil _ _ _ _, Hbel.out⟩

set_option maxRecDepth 100000 in
theorem pk_certs (l : List Psp.Cert) (x : Value) (w : World) (hx : RdC w (fun b => b < w.heap.size) x l) :
    Calls Tryz.prog 114 #[x] w (Bytes (Psp.encL Psp.encC l) (Psp.okL Psp.okC l) w) := by
  obtain ⟨L, hL0, hL1, hL2⟩ := hx
  have HL0 := Lib.hid hL0
  clear hL0
  have hnew : Wr 171 (w.alloc (.cells #[.slice none 0 0, .bool false] 171)) (fun k => k = w.heap.size) (w.heap.size) [] false := Wr.new w _ _ rfl
  have Hnew := Lib.hid hnew
  have hbl : Below w.heap.size w (w.alloc (.cells #[.slice none 0 0, .bool false] 171)) := alloc_below _ _
  have Hbl := Lib.hid hbl
  clear hnew hbl
  go_enter Tryz.func114, Tryz.ntmps114
  go_wp2_with fail
  refine (listC_wr L _ x _ _ [] false _ Hnew.out rfl (hL1.keeps (Keeps.newb _ _)) (fun y hy => (hL2 y hy).keeps (Keeps.newb _ _)) (by simp)).mono ?_
  intro en w2 hc
  rw [HL0.out] at hc
  obtain ⟨rfl, S2, o2, b2, h2⟩ := (WrS.start Hnew.out).step hc
  have h3 := h2.of (List.nil_append _) (Bool.true_and _)
  have hbel : Below w.heap.size w w2 := Hbl.out.trans (h3.fp.to_below (B := w.heap.size) Hbl.out.size (fun k _ hk => by rw [hk]; exact Nat.le_refl _))
  have hsub : ∀ k, S2 k → w.heap.size ≤ k := fun k hk => by
    rcases h3.sub k hk with h | h
    · rw [h]; exact Nat.le_refl _
    · have := Hbl.out.size; omega
  have Hbel := Lib.hid hbel
  have Hsub := Lib.hid hsub
  have H3 := Lib.hid h3
  clear h2 h3 hc hbel hsub
  cases hk : (Psp.okL Psp.okC l) with
  | true =>
    have hb : b2 = false := by rw [H3.out.wrote.isbad, hk]; rfl
    subst hb
    have Hk := Lib.hid hk
    clear hk
    go_wp2_with fail
    refine (done_w_good S2 _ o2 _ H3.out.wr).mono ?_
    rintro en w3 ⟨⟨v, rfl, hown, hS⟩, rfl⟩
    have ho := H3.out.wrote.isout rfl
    rw [List.nil_append] at ho
    rw [ho] at hown
    have Hown := Lib.hid (own_base hown fun b hb => Hsub.out b (hS b hb))
    clear hown hS ho
    go_wp2_with fail
    go_ret2
    exact ⟨v, ret_pair v Hk.out, by simpa [Hk.out] using Hown.out, Hbel.out⟩
  | false =>
    have hb : b2 = true := by rw [H3.out.wrote.isbad, hk]; rfl
    subst hb
    have Hk := Lib.hid hk
    clear hk
    go_wp2_with fail
    refine (done_w_bad S2 _ o2 _ H3.out.wr).mono ?_
    rintro en w3 ⟨rfl, rfl⟩
    go_wp2_with fail
    go_ret2
    exact ⟨.slice none 0 0, ret_pair _ Hk.out, by simpa [Hk.out] using World.ownsRow_nil _ _ _ _, Hbel.out⟩

set_option maxRecDepth 100000 in
theorem pk_parts (l : List Psp.Part) (x : Value) (w : World) (hx : RdA w (fun b => b < w.heap.size) x l) :
    Calls Tryz.prog 115 #[x] w (Bytes (Psp.encL Psp.encP l) (Psp.okL Psp.okP l) w) := by
  obtain ⟨L, hL0, hL1, hL2⟩ := hx
  have HL0 := Lib.hid hL0
  clear hL0
  have hnew : Wr 171 (w.alloc (.cells #[.slice none 0 0, .bool false] 171)) (fun k => k = w.heap.size) (w.heap.size) [] false := Wr.new w _ _ rfl
  have Hnew := Lib.hid hnew
  have hbl : Below w.heap.size w (w.alloc (.cells #[.slice none 0 0, .bool false] 171)) := alloc_below _ _
  have Hbl := Lib.hid hbl
  clear hnew hbl
  go_enter Tryz.func115, Tryz.ntmps115
  go_wp2_with fail
  refine (listP_wr L _ x _ _ [] false _ Hnew.out rfl (hL1.keeps (Keeps.newb _ _)) (fun y hy => (hL2 y hy).keeps (Keeps.newb _ _)) (by simp)).mono ?_
  intro en w2 hc
  rw [HL0.out] at hc
  obtain ⟨rfl, S2, o2, b2, h2⟩ := (WrS.start Hnew.out).step hc
  have h3 := h2.of (List.nil_append _) (Bool.true_and _)
  have hbel : Below w.heap.size w w2 := Hbl.out.trans (h3.fp.to_below (B := w.heap.size) Hbl.out.size (fun k _ hk => by rw [hk]; exact Nat.le_refl _))
  have hsub : ∀ k, S2 k → w.heap.size ≤ k := fun k hk => by
    rcases h3.sub k hk with h | h
    · rw [h]; exact Nat.le_refl _
    · have := Hbl.out.size; omega
  have Hbel := Lib.hid hbel
  have Hsub := Lib.hid hsub
  have H3 := Lib.hid h3
  clear h2 h3 hc hbel hsub
  cases hk : (Psp.okL Psp.okP l) with
  | true =>
    have hb : b2 = false := by rw [H3.out.wrote.isbad, hk]; rfl
    subst hb
    have Hk := Lib.hid hk
    clear hk
    go_wp2_with fail
    refine (done_w_good S2 _ o2 _ H3.out.wr).mono ?_
    rintro en w3 ⟨⟨v, rfl, hown, hS⟩, rfl⟩
    have ho := H3.out.wrote.isout rfl
    rw [List.nil_append] at ho
    rw [ho] at hown
    have Hown := Lib.hid (own_base hown fun b hb => Hsub.out b (hS b hb))
    clear hown hS ho
    go_wp2_with fail
    go_ret2
    exact ⟨v, ret_pair v Hk.out, by simpa [Hk.out] using Hown.out, Hbel.out⟩
  | false =>
    have hb : b2 = true := by rw [H3.out.wrote.isbad, hk]; rfl
    subst hb
    have Hk := Lib.hid hk
    clear hk
    go_wp2_with fail
    refine (done_w_bad S2 _ o2 _ H3.out.wr).mono ?_
    rintro en w3 ⟨rfl, rfl⟩
    go_wp2_with fail
    go_ret2
    exact ⟨.slice none 0 0, ret_pair _ Hk.out, by simpa [Hk.out] using World.ownsRow_nil _ _ _ _, Hbel.out⟩

end Go.Proofs.YtipmjleohadoeaaGreat

end
