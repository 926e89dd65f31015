/- The walks of package pack's writer: req, vote, done. -/
import Derived.Test.YtnlnkcljehafkaaPw
namespace Go.Proofs.Ytnlnkcljehafkaa
open Go.RowKit
set_option linter.unusedVariables false

/-- A vote as cells. -/
def vt (v : Psp.Vote) : List Value := [iv v.n, iv v.s]
/-- A certificate, and the slices in it. -/
structure CertV where
  c : Psp.Cert
  b : Value
  o : Value
def cv (x : CertV) : List Value := [iv x.c.v, iv x.c.i, iv x.c.q, x.b, x.o]
def CertOk (w : World) (P : Nat → Prop) (x : CertV) : Prop := RdP w P 6 x.b x.c.b.length (x.c.b.flatMap rq) ∧ RdP w P 2 x.o x.c.o.length (x.c.o.flatMap vt)
/-- The slice v reads as certificates. -/
def RdC (w : World) (P : Nat → Prop) (v : Value) (l : List Psp.Cert) : Prop := ∃ L : List CertV, L.map (·.c) = l ∧ RdP w P 5 v L.length (L.flatMap cv) ∧ ∀ x ∈ L, CertOk w P x
/-- A part, and the slices in it. -/
structure PartV where
  p : Psp.Part
  o : Value
  c : Value
def pv (x : PartV) : List Value := [iv x.p.f, x.o, x.c, iv x.p.s]
def PartOk (w : World) (P : Nat → Prop) (x : PartV) : Prop := RdP w P 2 x.o x.p.o.length (x.p.o.flatMap vt) ∧ RdC w P x.c x.p.c
/-- The slice v reads as parts. -/
def RdA (w : World) (P : Nat → Prop) (v : Value) (l : List Psp.Part) : Prop := ∃ L : List PartV, L.map (·.p) = l ∧ RdP w P 4 v L.length (L.flatMap pv) ∧ ∀ x ∈ L, PartOk w P x
section
variable {w w' : World} {P P' : Nat → Prop} {k n : Nat} {v : Value} {xs : List Value} {l : List Psp.Cert} {x : CertV} {y : PartV}
/-- What of a world is wanted for all that reads by P to read by P' in another. -/
def Keeps (P P' : Nat → Prop) (w w' : World) : Prop := w.heap.size ≤ w'.heap.size ∧ ∀ b, P b → b < w.heap.size → w'.heap[b]? = w.heap[b]? ∧ P' b
theorem RdP.keeps (h : RdP w P k v n xs) (g : Keeps P P' w w') : RdP w' P' k v n xs := by
  obtain ⟨h1, A, c, h2, h3, h4, h5⟩ := h
  refine ⟨h1, A, c, h2, h3, h4, fun hn => ?_⟩
  obtain ⟨b, o, e, hb, hlt, hl⟩ := h5 hn
  exact ⟨b, o, e, (g.2 b hb hlt).2, by have := g.1; omega, hl.keep (g.2 b hb hlt).1⟩
theorem CertOk.keeps (h : CertOk w P x) (g : Keeps P P' w w') : CertOk w' P' x := ⟨h.1.keeps g, h.2.keeps g⟩
theorem RdC.keeps (h : RdC w P v l) (g : Keeps P P' w w') : RdC w' P' v l := by
  obtain ⟨L, h1, h2, h3⟩ := h
  exact ⟨L, h1, h2.keeps g, fun x hx => (h3 x hx).keeps g⟩
theorem PartOk.keeps (h : PartOk w P y) (g : Keeps P P' w w') : PartOk w' P' y := ⟨h.1.keeps g, h.2.keeps g⟩
theorem RdA.keeps {l : List Psp.Part} (h : RdA w P v l) (g : Keeps P P' w w') : RdA w' P' v l := by
  obtain ⟨L, h1, h2, h3⟩ := h
  exact ⟨L, h1, h2.keeps g, fun x hx => (h3 x hx).keeps g⟩
theorem Keeps.below (g : Below w.heap.size w w') : Keeps P P w w' := ⟨g.size, fun b hb hlt => ⟨g.block b hlt, hb⟩⟩
theorem Keeps.mono (hP : ∀ b, b < w.heap.size → P b → P' b) : Keeps P P' w w := ⟨Nat.le_refl _, fun b hb hlt => ⟨rfl, hP b hlt hb⟩⟩
theorem RdC.below (h : RdC w P v l) (g : Below w.heap.size w w') : RdC w' P v l := h.keeps (Keeps.below g)
theorem RdP.one (h : RdP w P k v n xs) : v.oneCell' = true := by obtain ⟨_, A, c, rfl, _⟩ := h; rfl
theorem RdC.one (h : RdC w P v l) : v.oneCell' = true := by obtain ⟨L, _, h2, _⟩ := h; exact h2.one
theorem WrS.keeps {T : TypeId} {e : List UInt8} {ok : Bool} {n : Nat} {S S' : Nat → Prop} {g : Nat} {out out' : List UInt8} {bad bad' : Bool} (h : WrS T e ok n S g out bad w S' out' bad' w') : Keeps (fun b => ¬ S b) (fun b => ¬ S' b) w w' :=
  ⟨h.fp.size, fun b hb hlt => ⟨h.fp.block b hlt hb, h.off hlt hb⟩⟩
theorem WrS.rd {T : TypeId} {e : List UInt8} {ok : Bool} {m : Nat} {S S' : Nat → Prop} {g : Nat} {out out' : List UInt8} {bad bad' : Bool} (h : WrS T e ok m S g out bad w S' out' bad' w') (hr : RdP w (fun b => ¬ S b) k v n xs) : RdP w' (fun b => ¬ S' b) k v n xs := hr.keeps h.keeps
theorem WrS.rdC {T : TypeId} {e : List UInt8} {ok : Bool} {m : Nat} {S S' : Nat → Prop} {g : Nat} {out out' : List UInt8} {bad bad' : Bool} (h : WrS T e ok m S g out bad w S' out' bad' w') (hr : RdC w (fun b => ¬ S b) v l) : RdC w' (fun b => ¬ S' b) v l := hr.keeps h.keeps
end
theorem lies_new (w : World) (cs : List Value) (e : TypeId) (b : Nat) (hb : w.heap.size = b) : Lies (w.alloc (.cells cs.toArray e)) b 0 cs := by
  subst hb
  intro j u hu
  rw [Nat.zero_add, cell_of_row _ w.heap.size j cs.toArray e (0, 0) (heap_alloc_new w _)]
  simpa using hu
theorem Wr.off {T : TypeId} {w : World} {S : Nat → Prop} {g : Nat} {out : List UInt8} {bad : Bool} (h : Wr T w S g out bad) {b : Nat} (hb : w.heap.size ≤ b) : ¬ S b := fun hs => by have := h.lt b hs; omega
theorem alloc_below (w : World) (o : Obj) : Below w.heap.size w (w.alloc o) := (Below.refl _ _).alloc (Nat.le_refl _) _

theorem req_wr (c t k y v s : Int) (S : Nat → Prop) (g : Nat) (out : List UInt8) (bad : Bool) (w : World) (hW : Wr 88 w S g out bad) (hb : out.length + 36 ≤ 1099511627776) :
    Calls Try.prog 53 #[.pointer (some ⟨g, 0, none⟩), .agg #[.int .i64 c, .int .i64 t, .int .i64 k, .int .i64 y, .int .i64 v, .int .i64 s]] w (WrOk 88 (Psp.encR ⟨c, t, k, y, v, s⟩) (Psp.okR ⟨c, t, k, y, v, s⟩) 36 S g out bad w) := by
  have HW := Lib.hid (hW.below (alloc_below w (.cells #[.int .i64 c, .int .i64 t, .int .i64 k, .int .i64 y, .int .i64 v, .int .i64 s] 26)))
  have hS : ¬ S w.heap.size := hW.off (Nat.le_refl _)
  have Hl0 := Lib.hid (lies_new w [iv c, iv t, iv k, iv y, iv v, iv s] 26 _ rfl)
  have hz0 : w.heap.size < (w.alloc (.cells #[.int .i64 c, .int .i64 t, .int .i64 k, .int .i64 y, .int .i64 v, .int .i64 s] 26)).heap.size := by simp
  have Hz0 := Lib.hid hz0
  clear hW hz0
  go_enter Try.func53, Try.ntmps53
  go_wp2_with fail
  have h1 : WrS 88 [] true 0 S g out bad (w.alloc (.cells #[.int .i64 c, .int .i64 t, .int .i64 k, .int .i64 y, .int .i64 v, .int .i64 s] 26)) S out bad ((w.alloc (.cells #[.int .i64 c, .int .i64 t, .int .i64 k, .int .i64 y, .int .i64 v, .int .i64 s] 26)).alloc (.cells #[.int .i64 c, .int .i64 t, .int .i64 k] 3)) := (WrS.start HW.out).below (alloc_below _ _)
  refine (numbers_wr [c, t, k] 3 (w.heap.size + 1) S g out bad _ h1.wr rfl (lies_new _ [iv c, iv t, iv k] _ _ (by simp)) (by simp) (HW.out.off (by simp)) (by omega) (by omega)).mono ?_
  intro e w2 hc
  obtain ⟨rfl, S2, o2, b2, h2⟩ := h1.step hc
  have hbx := h2.lies Hl0.out Hz0.out hS
  have x3 := hbx.at_ (j := 3) (by simp)
  have x4 := hbx.at_ (j := 4) (by simp)
  simp only [Nat.zero_add, List.getElem_cons_succ, List.getElem_cons_zero, iv] at x3 x4
  have hz2 := h2.fp.size
  have hl2 := h2.wrote.islen
  have H2 := Lib.hid h2
  clear h2 hc h1 hbx
  go_wp2_with fail
  have h3 := H2.out.below (alloc_below w2 (.cells #[.int .i64 y, .int .i64 v] 3))
  refine (signed_wr [y, v] 2 w2.heap.size S2 g o2 b2 _ h3.wr rfl (lies_new _ [iv y, iv v] _ _ rfl) (by simp) (H2.out.wr.off (by omega)) (by omega) (by omega)).mono ?_
  intro e w3 hc
  obtain ⟨rfl, S3, o3, b3, h4⟩ := h3.step hc
  have hbx := h4.lies Hl0.out Hz0.out hS
  have x5 := hbx.at_ (j := 5) (by simp)
  simp only [Nat.zero_add, List.getElem_cons_succ, List.getElem_cons_zero, iv] at x5
  have hl3 := h4.wrote.islen
  have H4 := Lib.hid h4
  clear h3 hc h4 hbx x3 x4
  go_wp2_with fail
  have h5 := H4.out.below (alloc_below w3 (.cells #[.int .i64 s] 3))
  refine (numbers_wr [s] 1 w3.heap.size S3 g o3 b3 _ h5.wr rfl (lies_new _ [iv s] _ _ rfl) (by simp) (H4.out.wr.off (by omega)) (by omega) (by omega)).mono ?_
  intro e w4 hc
  obtain ⟨rfl, S4, o4, b4, h6⟩ := h5.step hc
  have H6 := Lib.hid h6
  clear hc h5 h6 x5
  go_wp2_with fail
  go_end0
  exact ((H6.out.of (by simp [Psp.encR]) (by simp [Psp.okR, Bool.and_assoc])).done (by omega)).from_ (alloc_below _ _)

end Go.Proofs.Ytnlnkcljehafkaa
