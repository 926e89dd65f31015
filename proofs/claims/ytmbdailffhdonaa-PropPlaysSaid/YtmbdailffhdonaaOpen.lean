/- How arguments are opened: from what the reader of data has taken to lists. Plain facts on the reader, no function in sight. -/
import Derived.Test.YtmbdailffhdonaaMem
import Derived.ProofKit
import Derived.OpenShut
namespace Go.Proofs.Ytmbdailffhdonaa
open Go.RowKit Go.ChangeShapes Go.WideShapes
set_option linter.unusedVariables false

theorem i64_bd {n : Int} (h : (Lit.int .i64 n).wf = true) : -9223372036854775808 ≤ n ∧ n ≤ 9223372036854775807 := by
  simp [Lit.wf, IntKind.min, IntKind.max, IntKind.signed, IntKind.bits] at h
  omega
theorem u8_bd {n : Int} (h : (Lit.int .u8 n).wf = true) : 0 ≤ n ∧ n ≤ 255 := by
  simp [Lit.wf, IntKind.min, IntKind.max, IntKind.signed, IntKind.bits] at h
  omega

/-- Each value of type t is 'f a' for some a of which wf holds. -/
structure Opens (P : Program) (t : TypeId) (k : Nat) {α : Type} (f : α → List Value) (wf : α → Prop) : Prop where
  cells : P.cellsOf t = k
  len : ∀ a, (f a).length = k
  pos : 0 < k
  get : ∀ {H : Type} (enc : TypeId × Value → H) (w : World) (fuel : Nat) (cs : List Value) (x : DataW H × List MemPlace), DataW.trod enc P w 0 (fun _ => true) true fuel t cs = some x → ∃ a, cs = f a ∧ wf a

def isI64 (n : Int) : Prop := -9223372036854775808 ≤ n ∧ n ≤ 9223372036854775807

theorem opens_int {P : Program} {t : TypeId} (ht : P.underlying t = some (.int .i64)) (hc : P.cellsOf t = 1) : Opens P t 1 (fun n => [iv n]) isI64 := by
  refine ⟨hc, fun _ => rfl, by omega, fun enc w fuel cs x h => ?_⟩
  obtain ⟨n, rfl, _, hw⟩ := DataW.trod_int ht h
  exact ⟨n, rfl, i64_bd hw⟩

theorem opens_byte {P : Program} {t : TypeId} (ht : P.underlying t = some (.int .u8)) (hc : P.cellsOf t = 1) : Opens P t 1 (fun n => [bv n]) (fun _ => True) := by
  refine ⟨hc, fun _ => rfl, by omega, fun enc w fuel cs x h => ?_⟩
  obtain ⟨n, rfl, _, hw⟩ := DataW.trod_int ht h
  have hb := u8_bd hw
  refine ⟨UInt8.ofNat n.toNat, ?_, trivial⟩
  unfold bv
  rw [Psp.u8_toNat (by omega), Int.toNat_of_nonneg hb.1]

theorem choose_list {α : Type} (p : Nat → α → Prop) : ∀ (n : Nat), (∀ i, i < n → ∃ a, p i a) → ∃ l : List α, l.length = n ∧ ∀ i a, l[i]? = some a → p i a
  | 0, _ => ⟨[], rfl, fun i a h => by simp at h⟩
  | n + 1, h => by
    obtain ⟨l, hl, hp⟩ := choose_list p n (fun i hi => h i (by omega))
    obtain ⟨a, ha⟩ := h n (by omega)
    refine ⟨l ++ [a], by simp [hl], fun i b hb => ?_⟩
    rw [List.getElem?_append] at hb
    split at hb
    · exact hp i b hb
    · have : i = n := by
        have := (List.getElem?_eq_some_iff.1 hb).1
        simp at this
        omega
      subst this
      simp [hl] at hb
      subst hb
      exact ha

theorem flat_len {α : Type} {f : α → List Value} {k : Nat} (hf : ∀ a, (f a).length = k) : ∀ l : List α, (l.flatMap f).length = l.length * k
  | [] => by simp
  | a :: l => by
    rw [List.flatMap_cons, List.length_append, hf, flat_len hf l, List.length_cons, Nat.add_mul, Nat.one_mul, Nat.add_comm]

theorem flat_get {α : Type} {f : α → List Value} {k : Nat} (hf : ∀ a, (f a).length = k) : ∀ (l : List α) (i r : Nat), r < k → (l.flatMap f)[i * k + r]? = (l[i]?).bind fun a => (f a)[r]?
  | [], i, r, h => by simp
  | a :: l, 0, r, h => by
    rw [List.flatMap_cons, Nat.zero_mul, Nat.zero_add, List.getElem?_append, hf, if_pos h]
    simp
  | a :: l, i + 1, r, h => by
    have := flat_get hf l i r h
    rw [List.flatMap_cons, List.getElem?_append, hf, if_neg (by rw [Nat.add_mul]; omega)]
    rw [show (i + 1) * k + r - k = i * k + r by rw [Nat.add_mul]; omega, this]
    simp

theorem cells_some {w : World} {a : Addr} {n : Nat} {cs : List Value} (h : w.cells? 0 a n = some cs) : cs.length = n ∧ ∀ j, j < n → w.cell? (a.add j) = cs[j]? := by
  unfold World.cells? at h
  rw [if_pos (Nat.zero_le _)] at h
  have h1 : ∀ (l : List Nat) (cs : List Value), (l.mapM fun i => w.cell? (a.add i)) = some cs → cs.length = l.length ∧ ∀ (j i : Nat), l[j]? = some i → w.cell? (a.add i) = cs[j]? := by
    intro l
    induction l with
    | nil => intro cs h; simp at h; subst h; simp
    | cons i l ih =>
      intro cs h
      rw [List.mapM_cons] at h
      cases h1 : w.cell? (a.add i) with
      | none => rw [h1] at h; simp at h
      | some v =>
        rw [h1] at h
        cases h2 : l.mapM fun i => w.cell? (a.add i) with
        | none => rw [h2] at h; simp at h
        | some vs =>
          rw [h2] at h
          simp at h
          subst h
          obtain ⟨h3, h4⟩ := ih vs h2
          refine ⟨by simp [h3], fun j i' hj => ?_⟩
          cases j with
          | zero => simp at hj; subst hj; simpa using h1
          | succ j => simpa using h4 j i' (by simpa using hj)
  obtain ⟨h2, h3⟩ := h1 _ _ h
  refine ⟨by simpa using h2, fun j hj => h3 j j (by simp [hj])⟩

theorem open_list {P : Program} {t e : TypeId} {k : Nat} {α : Type} {f : α → List Value} {wf : α → Prop} (ht : P.underlying t = some (.slice e)) (E : Opens P e k f wf)
    {H : Type} {enc : TypeId × Value → H} {w : World} {v : Value} {d : DataW H} {ps : List MemPlace} (h : DataW.Trod enc P w 0 (fun _ => true) true t v d ps) (hv : ∃ a len cap, v = .slice a len cap) :
    ∃ l : List α, Rd w w.heap.size k v l.length (l.flatMap f) ∧ ∀ a ∈ l, wf a := by
  obtain ⟨a0, len0, cap0, rfl⟩ := hv
  obtain ⟨fuel, hf⟩ := h
  rcases DataW.trod_slice ht hf with ⟨hcs, _⟩ | ⟨a, len, cap, elems, rest, n, _, hcs, _, _, hl, hm, hlen, hel, _, _⟩
  · simp [Value.cells] at hcs
    obtain ⟨rfl, rfl, rfl⟩ := hcs
    exact ⟨[], Rd.none_, fun a h => by simp at h⟩
  · simp [Value.cells] at hcs
    obtain ⟨rfl, rfl, rfl⟩ := hcs
    have each : ∀ i, i < len0 → ∃ b : α, wf b ∧ ∀ r, r < k → w.cell? ((a.add (i * k)).add r) = (f b)[r]? := by
      intro i hi
      have h1 := hel i hi
      rw [E.cells] at h1
      have h2 : elems[i]? = some elems[i] := List.getElem?_eq_getElem (by omega)
      rw [h2] at h1
      cases hc : w.cells? 0 (a.add (i * k)) k with
      | none => rw [hc] at h1; simp at h1
      | some cs =>
        rw [hc] at h1
        obtain ⟨b, hb, hwf⟩ := E.get enc w n cs _ (by simpa using h1)
        subst hb
        exact ⟨b, hwf, (cells_some hc).2⟩
    obtain ⟨l, hll, hp⟩ := choose_list (fun i b => wf b ∧ ∀ r, r < k → w.cell? ((a.add (i * k)).add r) = (f b)[r]?) len0 each
    subst hll
    refine ⟨l, ⟨flat_len E.len l, some a, cap0, rfl, hl, hm, fun hpos => ?_⟩, fun b hb => ?_⟩
    · have hk := E.pos
      obtain ⟨b0, hb0⟩ : ∃ b, l[0]? = some b := ⟨l[0], List.getElem?_eq_getElem hpos⟩
      have hc0 := (hp 0 b0 hb0).2 0 hk
      have hadd : ∀ i r, (a.add (i * k)).add r = a.add (i * k + r) := by
        intro i r
        unfold Addr.add
        by_cases h1 : i * k = 0 <;> by_cases h2 : r = 0 <;> simp [h1, h2, Nat.add_assoc]
      have hfl : 0 < (f b0).length := by rw [E.len]; exact hk
      have h3 : (f b0)[0]? = some (f b0)[0] := List.getElem?_eq_getElem hfl
      have hs : a.spot = none := by
        rw [h3, Nat.zero_mul] at hc0
        have h4 := World.cell?_spot hc0
        simpa [Addr.add] using h4
      obtain ⟨b, o, s⟩ := a
      subst hs
      have hval : ∀ j, (⟨b, o, none⟩ : Addr).add j = ⟨b, o + j, none⟩ := by
        intro j
        unfold Addr.add
        split
        · rename_i h; subst h; rfl
        · rfl
      refine ⟨b, o, rfl, ?_, ?_⟩
      · rw [h3] at hc0
        have := World.block_lt_of_cell? w _ hc0
        rw [hadd, hval] at this
        exact this
      · intro j u hu
        have hj : j = j / k * k + j % k := by rw [Nat.mul_comm]; exact (Nat.div_add_mod j k).symm
        have hr : j % k < k := Nat.mod_lt _ hk
        rw [hj, flat_get E.len l _ _ hr] at hu
        cases hb : l[j / k]? with
        | none => rw [hb] at hu; simp at hu
        | some b1 =>
          rw [hb] at hu
          have h5 := (hp _ b1 hb).2 _ hr
          rw [hadd, hval, ← hj] at h5
          rw [h5]
          simpa using hu
    · obtain ⟨i, hi, he⟩ := List.getElem_of_mem hb
      exact (hp i b (by rw [List.getElem?_eq_getElem hi, he])).1

theorem flat_one {α : Type} (g : α → Value) : ∀ l : List α, l.flatMap (fun a => [g a]) = l.map g
  | [] => rfl
  | a :: l => by simp [List.flatMap_cons, flat_one g l]

theorem open_i64 {P : Program} {t : TypeId} (ht : P.underlying t = some (.int .i64)) {H : Type} {enc : TypeId × Value → H} {w : World} {v : Value} {d : DataW H} {ps : List MemPlace}
    (h : DataW.Trod enc P w 0 (fun _ => true) true t v d ps) (hv : ∃ n, v = .int .i64 n) : ∃ n, v = .int .i64 n ∧ isI64 n := by
  obtain ⟨n, rfl⟩ := hv
  obtain ⟨fuel, hf⟩ := h
  obtain ⟨n', h, _, hw⟩ := DataW.trod_int ht hf
  simp [Value.cells] at h
  subst h
  exact ⟨n, rfl, i64_bd hw⟩

end Go.Proofs.Ytmbdailffhdonaa
