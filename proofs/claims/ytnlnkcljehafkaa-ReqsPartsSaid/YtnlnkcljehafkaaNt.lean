/- Seals: what a notary has given. The map of a notary as a list of keys. -/
import Derived.Test.YtnlnkcljehafkaaPz
import Derived.Test.YtnlnkcljehafkaaStep
import Derived.Test.YtnlnkcljehafkaaOwn
import Derived.Maps.OwnSet
import Derived.Maps.OwnOps
import Derived.DeepKeys4
import Derived.Laws.IdiomStrings
namespace Go.Proofs.Ytnlnkcljehafkaa
open Go.RowKit Go.Maps
set_option linter.unusedVariables false

/-- A party and the bytes that it seals. -/
abbrev Key := Int × List UInt8
def KOk (k : Key) : Prop := isI64 k.1 ∧ k.2.length ≤ maxLen
def strOf (l : List UInt8) : ByteArray := ⟨l.toArray⟩
theorem strOf_size (l : List UInt8) : (strOf l).size = l.length := by simp [strOf, ByteArray.size]
theorem strOf_list (l : List UInt8) : (strOf l).data.toList = l := by simp [strOf]
def kv (k : Key) : Value := .agg #[.int .i64 k.1, .string (strOf k.2)]
def kl (k : Key) : Lit := .string (keyBytes [.int .i64 k.1, .string k.2])

theorem nt_laidOut : laidOutB Try.prog = true := by kernel_rfl
set_option maxRecDepth 100000 in
theorem nt_row : (66 : TypeId) < Try.prog.types.size := of_decide_eq_true (by kernel_rfl)
set_option maxRecDepth 100000 in
theorem nt_wide : (match Try.prog.underlying 66 with | some (.array _ _) | some (.struct _) => true | _ => false) = true := by kernel_rfl
set_option maxRecDepth 100000 in
theorem nt_law : Keyed Try.prog 66 := Keyed.of_law (deep_law_laid nt_laidOut (m := 2) (by omega) nt_row (by kernel_rfl) nt_wide)
set_option maxRecDepth 100000 in
theorem nt_keyType : Try.prog.keyType 66 = true := by kernel_rfl
theorem nt_cells : Try.prog.cellsOf 66 = 2 := by kernel_rfl
theorem nt_cells1 : Try.prog.cellsOf 3 = 1 := by kernel_rfl
theorem nt_cells2 : Try.prog.cellsOf 9 = 1 := by kernel_rfl
set_option maxRecDepth 100000 in
theorem nt_size : ∃ m, Try.prog.types.size = m + 1 := ⟨Try.prog.types.size - 1, by have h : 0 < Try.prog.types.size := Nat.lt_of_le_of_lt (Nat.zero_le _) nt_row; omega⟩
theorem zeroI (w : World) : (zeroValue 3).run Try.prog w = .ok (.int .i64 0) w := by kernel_rfl
theorem key_of (k : Key) (h : KOk k) : keyOf Try.prog 66 (kv k) = some (kl k) := by
  obtain ⟨m, hm⟩ := nt_size
  have hw : (Lit.int .i64 k.1).wf = true := by obtain ⟨⟨h1, h2⟩, _⟩ := h; exact WalkArith.wf_i64 ⟨h1, h2⟩
  have hs : (strOf k.2).size ≤ maxLen := by rw [strOf_size]; exact h.2
  unfold keyOf kv
  simp only [Try.underlying66]
  rw [if_pos (by simp [nt_keyType, Value.formed, Try.underlying66, nt_cells]), hm]
  unfold Program.keyLits
  simp only [Try.underlying66, Value.cells]
  rw [if_pos ⟨by rw [nt_cells]; rfl, by simp⟩, List.mapM_cons, List.mapM_cons, List.mapM_nil]
  simp [nt_cells1, nt_cells2, Program.keyLits, Try.underlying3, Try.underlying9, hw, hs, kl, strOf_list]
theorem strOf_inj {a b : List UInt8} (h : strOf a = strOf b) : a = b := by
  have := congrArg (fun s => s.data.toList) h
  simpa [strOf_list] using this
theorem kv_inj {a b : Key} (h : kv a = kv b) : a = b := by
  unfold kv at h
  injection h with h
  simp only [Array.mk.injEq, List.cons.injEq, Value.int.injEq, Value.string.injEq, and_true, true_and] at h
  exact Prod.ext h.1 (strOf_inj h.2)
theorem kl_inj {a b : Key} (ha : KOk a) (hb : KOk b) (h : kl a = kl b) : a = b := by
  refine kv_inj (nt_law.inj (key_of a ha) ?_)
  rw [h]; exact key_of b hb
theorem kl_is (k : Key) : WideAt.IsKeyLit (kl k) := by
  unfold kl; trivial

/-- Conversion of bytes that read as l. -/
theorem run_str {P : Nat → Prop} (w : World) (v : Value) (l : List UInt8) (h : RdP w P 1 v l.length (l.map bv)) : (convert 52 9 v).run Try.prog w = .ok (.string (strOf l)) w := by
  obtain ⟨_, A, c, rfl, _, _, hc⟩ := h
  cases l with
  | nil =>
    rw [run_convert_bytes_string w _ _ _ A _ c Try.underlying52 Try.underlying5 Try.underlying9]
    cases A <;> simp [Conv.bytesToString, strOf, loadCells] <;> rfl
  | cons x l =>
    obtain ⟨b, o, rfl, _, _, hl⟩ := hc (by simp)
    refine run_convert_bytes_back w _ _ _ ⟨b, o, none⟩ c (x :: l) Try.underlying52 Try.underlying5 Try.underlying9 fun j hj => ?_
    have h1 := hl j (.int .u8 ((x :: l)[j].toNat : Int)) (by rw [List.getElem?_map, List.getElem?_eq_getElem hj]; rfl)
    have ha : ((⟨b, o, none⟩ : Addr).add j) = ⟨b, o + j, none⟩ := by
      unfold Addr.add; by_cases h0 : j = 0
      · subst h0; rfl
      · simp [h0]
    rw [ha]; exact h1
/-- A notary: its block g leads to the map bm, which has given the numbers 1, 2, .. to the keys l. -/
structure Nt (w : World) (g bm : Nat) (l : List Key) : Prop where
  cell : w.heap[g]? = some (.cells #[.map (some bm)] 59 (0, 0))
  own : ∃ D : DataW Unit, w.ownsMap Try.prog 66 (plainElem Try.prog 3) bm l.length D ∧ Maps.size D = l.length ∧
    ∀ k, KOk k → Maps.has D (kl k) = decide (k ∈ l) ∧ D.atKey (kl k) (.lit (.int .i64 0)) = .lit (.int .i64 (if k ∈ l then (l.idxOf k : Int) + 1 else 0))
  nd : l.Nodup
  ok : ∀ k ∈ l, KOk k
def num (l : List Key) (k : Key) : Int := if k ∈ l then (l.idxOf k : Int) + 1 else 0
def sealN (l : List Key) (k : Key) : Int := if k ∈ l then (l.idxOf k : Int) + 1 else (l.length : Int) + 1
def sealL (l : List Key) (k : Key) : List Key := if k ∈ l then l else l ++ [k]
theorem Nt.lt {w : World} {g bm : Nat} {l : List Key} (h : Nt w g bm l) : g < w.heap.size ∧ bm < w.heap.size := by
  obtain ⟨D, hD, _⟩ := h.own
  exact ⟨(Array.getElem?_eq_some_iff.1 h.cell).1, hD.lt⟩
theorem Nt.keep {w w' : World} {g bm : Nat} {l : List Key} (h : Nt w g bm l) (h1 : w'.heap[g]? = w.heap[g]?) (h2 : w'.heap[bm]? = w.heap[bm]?) : Nt w' g bm l := by
  obtain ⟨D, ⟨es, ck, q1, q2⟩, hD⟩ := h.own
  exact ⟨h1.trans h.cell, ⟨D, ⟨es, ck, h2.trans q1, q2⟩, hD⟩, h.nd, h.ok⟩
theorem Nt.below {w w' : World} {g bm : Nat} {l : List Key} (h : Nt w g bm l) (hb : Below w.heap.size w w') : Nt w' g bm l := h.keep (hb.block _ h.lt.1) (hb.block _ h.lt.2)
theorem Nt.fp {w w' : World} {S : Nat → Prop} {g bm : Nat} {l : List Key} (h : Nt w g bm l) (hf : Fp S w w') (h1 : ¬ S g) (h2 : ¬ S bm) : Nt w' g bm l := h.keep (hf.block _ h.lt.1 h1) (hf.block _ h.lt.2 h2)
theorem Nt.ne {w : World} {g bm : Nat} {l : List Key} (h : Nt w g bm l) : g ≠ bm := by
  rintro rfl
  obtain ⟨D, ⟨es, ck, q1, q2⟩, hD⟩ := h.own
  rw [h.cell] at q1; cases q1
/-- One more. -/
theorem Nt.add {w w' : World} {g bm : Nat} {l : List Key} {k : Key} {D : DataW Unit} (h : Nt w g bm l) (hk : KOk k) (hkl : k ∉ l) (hown : w.ownsMap Try.prog 66 (plainElem Try.prog 3) bm l.length D)
    (hs : Maps.size D = l.length) (hD : ∀ k, KOk k → Maps.has D (kl k) = decide (k ∈ l) ∧ D.atKey (kl k) (.lit (.int .i64 0)) = .lit (.int .i64 (if k ∈ l then (l.idxOf k : Int) + 1 else 0)))
    (h1 : w'.heap[g]? = w.heap[g]?) (hown' : w'.ownsMap Try.prog 66 (plainElem Try.prog 3) bm (l.length + 1) (D.put (kl k) (.lit (.int .i64 ((l.length : Int) + 1))))) : Nt w' g bm (l ++ [k]) := by
  refine ⟨h1.trans h.cell, ⟨_, by rw [List.length_append]; exact hown', ?_, fun k' hk' => ?_⟩, ?_, ?_⟩
  · rw [Maps.size_put (hown.tidy nt_law), (hD k hk).1, decide_eq_false hkl, hs]; simp
  · by_cases he : k' = k
    · subst he
      rw [Maps.has_put_same hown.isMap (kl_is _), Maps.atKey_put_same hown.isMap (kl_is _)]
      simp [List.idxOf_append, hkl]
    · have hne : kl k' ≠ kl k := fun e => he (kl_inj hk' hk e)
      rw [Maps.has_put_other hne, Maps.atKey_put_other hne, (hD k' hk').1, (hD k' hk').2]
      by_cases hm : k' ∈ l
      · simp [hm, List.idxOf_append]
      · simp [hm, he]
  · rw [List.nodup_append]; exact ⟨h.nd, by simp, fun a ha b hb => by simp at hb; subst hb; rintro rfl; exact hkl ha⟩
  · intro a ha
    rcases List.mem_append.1 ha with ha | ha
    · exact h.ok a ha
    · simp at ha; subst ha; exact hk
end Go.Proofs.Ytnlnkcljehafkaa
