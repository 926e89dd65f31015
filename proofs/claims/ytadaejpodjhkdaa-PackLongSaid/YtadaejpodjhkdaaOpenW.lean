/- How slices of things with slices in them are opened, as arguments: votes, certificates, parts. -/
import Derived.Test.YtadaejpodjhkdaaOpenReq
import Derived.Test.YtadaejpodjhkdaaPw2
import Derived.ChangeSame
namespace Go.Proofs.Ytadaejpodjhkdaa
open Go.RowKit Go.ChangeShapes Go.WideShapes
set_option linter.unusedVariables false

structure OpensAt (P : Program) (t : TypeId) (k : Nat) {α : Type} (f : α → List Value) (wf : α → Prop) (w : World) : Prop where
  cells : P.cellsOf t = k
  len : ∀ a, (f a).length = k
  pos : 0 < k
  get : ∀ {H : Type} (enc : TypeId × Value → H) (fuel : Nat) (cs : List Value) (x : DataW H × List MemPlace), DataW.trod enc P w 0 (fun _ => true) true fuel t cs = some x → ∃ a, cs = f a ∧ wf a
theorem Opens.toAt {P : Program} {t : TypeId} {k : Nat} {α : Type} {f : α → List Value} {wf : α → Prop} (E : Opens P t k f wf) (w : World) : OpensAt P t k f wf w := ⟨E.cells, E.len, E.pos, fun enc fuel cs x h => E.get enc w fuel cs x h⟩

theorem open_cells {P : Program} {t e : TypeId} {k : Nat} {α : Type} {f : α → List Value} {wf : α → Prop} {w : World} (ht : P.underlying t = some (.slice e)) (E : OpensAt P e k f wf w)
    {H : Type} {enc : TypeId × Value → H} {fuel : Nat} {cs0 : List Value} {x0 : DataW H × List MemPlace} (hf : DataW.trod enc P w 0 (fun _ => true) true fuel t cs0 = some x0) :
    ∃ (v : Value) (l : List α), cs0 = [v] ∧ (∃ a n c, v = .slice a n c) ∧ Rd w w.heap.size k v l.length (l.flatMap f) ∧ ∀ a ∈ l, wf a := by
  rcases DataW.trod_slice ht hf with ⟨hcs, _⟩ | ⟨a, len, cap, elems, rest, n, _, hcs, _, _, hl, hm, hlen, hel, _, _⟩
  · subst hcs
    exact ⟨_, [], rfl, ⟨_, _, _, rfl⟩, Rd.none_, fun a h => by simp at h⟩
  · subst hcs
    obtain ⟨len0, rfl⟩ : ∃ n, n = len := ⟨_, rfl⟩
    obtain ⟨cap0, rfl⟩ : ∃ n, n = cap := ⟨_, rfl⟩
    have each : ∀ i, i < len0 → ∃ b : α, wf b ∧ ∀ r, r < k → w.cell? ((a.add (i * k)).add r) = (f b)[r]? := by
      intro i hi
      have h1 := hel i hi
      rw [E.cells] at h1
      have h2 : elems[i]? = some elems[i] := List.getElem?_eq_getElem (by omega)
      rw [h2] at h1
      cases hc : w.cells? 0 (a.add (i * k)) k with
      | none => rw [hc] at h1; simp at h1
      | some cs =>
        rw [hc] at h1
        obtain ⟨b, hb, hwf⟩ := E.get enc n cs _ (by simpa using h1)
        subst hb
        exact ⟨b, hwf, (cells_some hc).2⟩
    obtain ⟨l, hll, hp⟩ := choose_list (fun i b => wf b ∧ ∀ r, r < k → w.cell? ((a.add (i * k)).add r) = (f b)[r]?) len0 each
    subst hll
    refine ⟨_, l, rfl, ⟨_, _, _, rfl⟩, ⟨flat_len E.len l, some a, cap0, rfl, hl, hm, fun hpos => ?_⟩, fun b hb => ?_⟩
    · have hk := E.pos
      obtain ⟨b0, hb0⟩ : ∃ b, l[0]? = some b := ⟨l[0], List.getElem?_eq_getElem hpos⟩
      have hc0 := (hp 0 b0 hb0).2 0 hk
      have hadd : ∀ i r, (a.add (i * k)).add r = a.add (i * k + r) := by
        intro i r
        unfold Addr.add
        by_cases h1 : i * k = 0 <;> by_cases h2 : r = 0 <;> simp [h1, h2, Nat.add_assoc]
      have hfl : 0 < (f b0).length := by rw [E.len]; exact hk
      have h3 : (f b0)[0]? = some (f b0)[0] := List.getElem?_eq_getElem hfl
      have hs : a.spot = none := by
        rw [h3, Nat.zero_mul] at hc0
        have h4 := World.cell?_spot hc0
        simpa [Addr.add] using h4
      obtain ⟨b, o, s⟩ := a
      subst hs
      have hval : ∀ j, (⟨b, o, none⟩ : Addr).add j = ⟨b, o + j, none⟩ := by
        intro j
        unfold Addr.add
        split
        · rename_i h; subst h; rfl
        · rfl
      refine ⟨b, o, rfl, ?_, ?_⟩
      · rw [h3] at hc0
        have := World.block_lt_of_cell? w _ hc0
        rw [hadd, hval] at this
        exact this
      · intro j u hu
        have hj : j = j / k * k + j % k := by rw [Nat.mul_comm]; exact (Nat.div_add_mod j k).symm
        have hr : j % k < k := Nat.mod_lt _ hk
        rw [hj, flat_get E.len l _ _ hr] at hu
        cases hb : l[j / k]? with
        | none => rw [hb] at hu; simp at hu
        | some b1 =>
          rw [hb] at hu
          have h5 := (hp _ b1 hb).2 _ hr
          rw [hadd, hval, ← hj] at h5
          rw [h5]
          simpa using hu
    · obtain ⟨i, hi, he⟩ := List.getElem_of_mem hb
      exact (hp i b (by rw [List.getElem?_eq_getElem hi, he])).1


theorem open_listW {P : Program} {t e : TypeId} {k : Nat} {α : Type} {f : α → List Value} {wf : α → Prop} {w : World} (ht : P.underlying t = some (.slice e)) (E : OpensAt P e k f wf w)
    {H : Type} {enc : TypeId × Value → H} {v : Value} {d : DataW H} {ps : List MemPlace} (h : DataW.Trod enc P w 0 (fun _ => true) true t v d ps) (hv : ∃ a len cap, v = .slice a len cap) :
    ∃ l : List α, Rd w w.heap.size k v l.length (l.flatMap f) ∧ ∀ a ∈ l, wf a := by
  obtain ⟨a0, len0, cap0, rfl⟩ := hv
  obtain ⟨fuel, hf⟩ := h
  obtain ⟨v, l, h1, _, h2, h3⟩ := open_cells ht E hf
  simp [Value.cells] at h1
  subst h1
  exact ⟨l, h2, h3⟩

def wfVote (v : Psp.Vote) : Prop := isI64 v.n ∧ isI64 v.s
set_option maxRecDepth 100000 in
theorem opens_vt : Opens Try.prog 43 2 vt wfVote := by
  refine ⟨by kernel_rfl, fun _ => rfl, by omega, fun enc w fuel cs x h => ?_⟩
  obtain ⟨xs, n, _, _, hl, hlen, hf⟩ := DataW.trod_struct Try.underlying43 h
  have hc : Try.prog.cellsOf 43 = 2 := by kernel_rfl
  have h1 : Try.prog.cellsOf 3 = 1 := by kernel_rfl
  rw [hc] at hl
  match cs, hl with
  | [c0, c1], _ =>
    obtain ⟨y0, e0⟩ := some_get hlen (j := 0) (by simp)
    obtain ⟨y1, e1⟩ := some_get hlen (j := 1) (by simp)
    have g0 := hf 0 _ rfl
    have g1 := hf 1 _ rfl
    rw [e0] at g0
    rw [e1] at g1
    simp [h1] at g0 g1
    obtain ⟨a, rfl, wa⟩ := int_cell g0
    obtain ⟨b, rfl, wb⟩ := int_cell g1
    exact ⟨⟨a, b⟩, rfl, wa, wb⟩

/-- The numbers of a certificate, of a part are int64s. -/
def wfCert (c : Psp.Cert) : Prop := isI64 c.v ∧ isI64 c.i ∧ isI64 c.q ∧ (∀ r ∈ c.b, wfReq r) ∧ ∀ v ∈ c.o, wfVote v
def wfPart (p : Psp.Part) : Prop := isI64 p.f ∧ (∀ v ∈ p.o, wfVote v) ∧ (∀ c ∈ p.c, wfCert c) ∧ isI64 p.s
set_option maxRecDepth 100000 in
theorem opens_cert (w : World) : OpensAt Try.prog 87 5 cv (fun x => CertOk w (fun b => b < w.heap.size) x ∧ wfCert x.c) w := by
  refine ⟨by kernel_rfl, fun _ => rfl, by omega, fun enc fuel cs x h => ?_⟩
  obtain ⟨xs, n, _, _, hl, hlen, hf⟩ := DataW.trod_struct Try.underlying87 h
  have hc : Try.prog.cellsOf 87 = 5 := by kernel_rfl
  have h1 : Try.prog.cellsOf 3 = 1 := by kernel_rfl
  have h2 : Try.prog.cellsOf 22 = 1 := by kernel_rfl
  have h3 : Try.prog.cellsOf 36 = 1 := by kernel_rfl
  rw [hc] at hl
  match cs, hl with
  | [c0, c1, c2, c3, c4], _ =>
    obtain ⟨y0, e0⟩ := some_get hlen (j := 0) (by simp)
    obtain ⟨y1, e1⟩ := some_get hlen (j := 1) (by simp)
    obtain ⟨y2, e2⟩ := some_get hlen (j := 2) (by simp)
    obtain ⟨y3, e3⟩ := some_get hlen (j := 3) (by simp)
    obtain ⟨y4, e4⟩ := some_get hlen (j := 4) (by simp)
    have g0 := hf 0 _ rfl
    have g1 := hf 1 _ rfl
    have g2 := hf 2 _ rfl
    have g3 := hf 3 _ rfl
    have g4 := hf 4 _ rfl
    rw [e0] at g0
    rw [e1] at g1
    rw [e2] at g2
    rw [e3] at g3
    rw [e4] at g4
    simp [h1, h2, h3] at g0 g1 g2 g3 g4
    obtain ⟨a, rfl, wa⟩ := int_cell g0
    obtain ⟨b, rfl, wb⟩ := int_cell g1
    obtain ⟨c, rfl, wc⟩ := int_cell g2
    obtain ⟨v, l, e, _, r1, w1⟩ := open_cells Try.underlying22 (opens_req.toAt w) g3
    obtain ⟨v', l', e', _, r2, w2⟩ := open_cells Try.underlying36 (opens_vt.toAt w) g4
    injection e with e _
    injection e' with e' _
    subst e e'
    exact ⟨⟨⟨a, b, c, l, l'⟩, _, _⟩, rfl, ⟨r1.to_p (Nat.le_refl _), r2.to_p (Nat.le_refl _)⟩, wa, wb, wc, w1, w2⟩
theorem opens_certs {w : World} {H : Type} {enc : TypeId × Value → H} {v : Value} {d : DataW H} {ps : List MemPlace} (h : DataW.Trod enc Try.prog w 0 (fun _ => true) true 35 v d ps) (hv : ∃ a len cap, v = .slice a len cap) :
    ∃ l : List Psp.Cert, RdC w (fun b => b < w.heap.size) v l ∧ ∀ c ∈ l, wfCert c := by
  obtain ⟨L, h1, h2⟩ := open_listW Try.underlying35 (opens_cert w) h hv
  refine ⟨L.map (·.c), ⟨L, rfl, h1.to_p (Nat.le_refl _), fun x hx => (h2 x hx).1⟩, fun c hc => ?_⟩
  obtain ⟨x, hx, rfl⟩ := List.mem_map.1 hc
  exact (h2 x hx).2
set_option maxRecDepth 100000 in
theorem opens_part (w : World) : OpensAt Try.prog 109 4 pv (fun x => PartOk w (fun b => b < w.heap.size) x ∧ wfPart x.p) w := by
  refine ⟨by kernel_rfl, fun _ => rfl, by omega, fun enc fuel cs x h => ?_⟩
  obtain ⟨xs, n, _, _, hl, hlen, hf⟩ := DataW.trod_struct Try.underlying109 h
  have hc : Try.prog.cellsOf 109 = 4 := by kernel_rfl
  have h1 : Try.prog.cellsOf 3 = 1 := by kernel_rfl
  have h2 : Try.prog.cellsOf 35 = 1 := by kernel_rfl
  have h3 : Try.prog.cellsOf 36 = 1 := by kernel_rfl
  rw [hc] at hl
  match cs, hl with
  | [c0, c1, c2, c3], _ =>
    obtain ⟨y0, e0⟩ := some_get hlen (j := 0) (by simp)
    obtain ⟨y1, e1⟩ := some_get hlen (j := 1) (by simp)
    obtain ⟨y2, e2⟩ := some_get hlen (j := 2) (by simp)
    obtain ⟨y3, e3⟩ := some_get hlen (j := 3) (by simp)
    have g0 := hf 0 _ rfl
    have g1 := hf 1 _ rfl
    have g2 := hf 2 _ rfl
    have g3 := hf 3 _ rfl
    rw [e0] at g0
    rw [e1] at g1
    rw [e2] at g2
    rw [e3] at g3
    simp [h1, h2, h3] at g0 g1 g2 g3
    obtain ⟨a, rfl, wa⟩ := int_cell g0
    obtain ⟨b, rfl, wb⟩ := int_cell g3
    obtain ⟨v, l, e, _, r1, w1⟩ := open_cells Try.underlying36 (opens_vt.toAt w) g1
    obtain ⟨v', L, e', _, r2, w2⟩ := open_cells Try.underlying35 (opens_cert w) g2
    injection e with e _
    injection e' with e' _
    subst e e'
    refine ⟨⟨⟨a, l, L.map (·.c), b⟩, _, _⟩, rfl, ⟨r1.to_p (Nat.le_refl _), L, rfl, r2.to_p (Nat.le_refl _), fun x hx => (w2 x hx).1⟩, wa, w1, fun c hc => ?_, wb⟩
    obtain ⟨x, hx, rfl⟩ := List.mem_map.1 hc
    exact (w2 x hx).2
theorem opens_parts {w : World} {H : Type} {enc : TypeId × Value → H} {v : Value} {d : DataW H} {ps : List MemPlace} (h : DataW.Trod enc Try.prog w 0 (fun _ => true) true 64 v d ps) (hv : ∃ a len cap, v = .slice a len cap) :
    ∃ l : List Psp.Part, RdA w (fun b => b < w.heap.size) v l ∧ ∀ c ∈ l, wfPart c := by
  obtain ⟨L, h1, h2⟩ := open_listW Try.underlying64 (opens_part w) h hv
  refine ⟨L.map (·.p), ⟨L, rfl, h1.to_p (Nat.le_refl _), fun x hx => (h2 x hx).1⟩, fun c hc => ?_⟩
  obtain ⟨x, hx, rfl⟩ := List.mem_map.1 hc
  exact (h2 x hx).2

end Go.Proofs.Ytadaejpodjhkdaa
