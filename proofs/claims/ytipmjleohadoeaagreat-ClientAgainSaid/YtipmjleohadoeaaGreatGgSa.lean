/- Joined texts: Nt Nt2 Rst Val Nr Nr2 Vote. -/
import Derived.Test.YtipmjleohadoeaaGreatGfSa
import Derived.Test.YtipmjleohadoeaaGreatGbSa
import Derived.Maps.OwnSet
import Derived.Maps.OwnOps
import Derived.DeepKeys4
import Derived.Laws.IdiomStrings
import Derived.Deep.CutBlock
import Derived.Laws.StructEq
import Derived.Deep.AppendLies
import Derived.Deep.RegionHeld3
import Derived.Deep.RegionLaw
import Derived.OwnWalk
import Derived.Test.YtipmjleohadoeaaGreatGaSa
section
/- Seals: what a notary has given. The map of a notary as a list of keys. -/
namespace Go.Proofs.YtipmjleohadoeaaGreat
open Go.RowKit Go.Maps
set_option linter.unusedVariables false

/-- A party and the bytes that it seals. -/
abbrev Key := Int × List UInt8
def KOk (k : Key) : Prop := isI64 k.1 ∧ k.2.length ≤ maxLen
def strOf (l : List UInt8) : ByteArray := ⟨l.toArray⟩
theorem strOf_size (l : List UInt8) : (strOf l).size = l.length := by simp [strOf, ByteArray.size]
theorem strOf_list (l : List UInt8) : (strOf l).data.toList = l := by simp [strOf]
def kv (k : Key) : Value := .agg #[.int .i64 k.1, .string (strOf k.2)]
def kl (k : Key) : Lit := .string (keyBytes [.int .i64 k.1, .string k.2])

theorem nt_laidOut : laidOutB Tryz.prog = true := by kernel_rfl
set_option maxRecDepth 100000 in
theorem nt_row : (116 : TypeId) < Tryz.prog.types.size := of_decide_eq_true (by kernel_rfl)
set_option maxRecDepth 100000 in
theorem nt_wide : (match Tryz.prog.underlying 116 with | some (.array _ _) | some (.struct _) => true | _ => false) = true := by kernel_rfl
set_option maxRecDepth 100000 in
theorem nt_law : Keyed Tryz.prog 116 := Keyed.of_law (deep_law_laid nt_laidOut (m := 2) (by omega) nt_row (by kernel_rfl) nt_wide)
set_option maxRecDepth 100000 in
theorem nt_keyType : Tryz.prog.keyType 116 = true := by kernel_rfl
theorem nt_cells : Tryz.prog.cellsOf 116 = 2 := by kernel_rfl
theorem nt_cells1 : Tryz.prog.cellsOf 3 = 1 := by kernel_rfl
theorem nt_cells2 : Tryz.prog.cellsOf 9 = 1 := by kernel_rfl
set_option maxRecDepth 100000 in
theorem nt_size : ∃ m, Tryz.prog.types.size = m + 1 := ⟨Tryz.prog.types.size - 1, by have h : 0 < Tryz.prog.types.size := Nat.lt_of_le_of_lt (Nat.zero_le _) nt_row; omega⟩
theorem zeroI (w : World) : (zeroValue 3).run Tryz.prog w = .ok (.int .i64 0) w := by kernel_rfl
theorem key_of (k : Key) (h : KOk k) : keyOf Tryz.prog 116 (kv k) = some (kl k) := by
  obtain ⟨m, hm⟩ := nt_size
  have hw : (Lit.int .i64 k.1).wf = true := by obtain ⟨⟨h1, h2⟩, _⟩ := h; exact WalkArith.wf_i64 ⟨h1, h2⟩
  have hs : (strOf k.2).size ≤ maxLen := by rw [strOf_size]; exact h.2
  unfold keyOf kv
  simp only [Tryz.underlying116]
  rw [if_pos (by simp [nt_keyType, Value.formed, Tryz.underlying116, nt_cells]), hm]
  unfold Program.keyLits
  simp only [Tryz.underlying116, Value.cells]
  rw [if_pos ⟨by rw [nt_cells]; rfl, by simp⟩, List.mapM_cons, List.mapM_cons, List.mapM_nil]
  simp [nt_cells1, nt_cells2, Program.keyLits, Tryz.underlying3, Tryz.underlying9, hw, hs, kl, strOf_list]
theorem strOf_inj {a b : List UInt8} (h : strOf a = strOf b) : a = b := by
  have := congrArg (fun s => s.data.toList) h
  simpa [strOf_list] using this
theorem kv_inj {a b : Key} (h : kv a = kv b) : a = b := by
  unfold kv at h
  injection h with h
  simp only [Array.mk.injEq, List.cons.injEq, Value.int.injEq, Value.string.injEq, and_true, true_and] at h
  exact Prod.ext h.1 (strOf_inj h.2)
theorem kl_inj {a b : Key} (ha : KOk a) (hb : KOk b) (h : kl a = kl b) : a = b := by
  refine kv_inj (nt_law.inj (key_of a ha) ?_)
  rw [h]; exact key_of b hb
theorem kl_is (k : Key) : WideAt.IsKeyLit (kl k) := by
  unfold kl; trivial

/-- Conversion of bytes that read as l. -/
theorem run_str {P : Nat → Prop} (w : World) (v : Value) (l : List UInt8) (h : RdP w P 1 v l.length (l.map bv)) : (convert 49 9 v).run Tryz.prog w = .ok (.string (strOf l)) w := by
  obtain ⟨_, A, c, rfl, _, _, hc⟩ := h
  cases l with
  | nil =>
    rw [run_convert_bytes_string w _ _ _ A _ c Tryz.underlying49 Tryz.underlying5 Tryz.underlying9]
    cases A <;> simp [Conv.bytesToString, strOf, loadCells] <;> rfl
  | cons x l =>
    obtain ⟨b, o, rfl, _, _, hl⟩ := hc (by simp)
    refine run_convert_bytes_back w _ _ _ ⟨b, o, none⟩ c (x :: l) Tryz.underlying49 Tryz.underlying5 Tryz.underlying9 fun j hj => ?_
    have h1 := hl j (.int .u8 ((x :: l)[j].toNat : Int)) (by rw [List.getElem?_map, List.getElem?_eq_getElem hj]; rfl)
    have ha : ((⟨b, o, none⟩ : Addr).add j) = ⟨b, o + j, none⟩ := by
      unfold Addr.add; by_cases h0 : j = 0
      · subst h0; rfl
      · simp [h0]
    rw [ha]; exact h1
/-- A notary: its block g leads to the map bm, which has given the numbers 1, 2, .. to the keys l. -/
structure Nt (w : World) (g bm : Nat) (l : List Key) : Prop where
  cell : w.heap[g]? = some (.cells #[.map (some bm)] 93 (0, 0))
  own : ∃ D : DataW Unit, w.ownsMap Tryz.prog 116 (plainElem Tryz.prog 3) bm l.length D ∧ Maps.size D = l.length ∧
    ∀ k, KOk k → Maps.has D (kl k) = decide (k ∈ l) ∧ D.atKey (kl k) (.lit (.int .i64 0)) = .lit (.int .i64 (if k ∈ l then (l.idxOf k : Int) + 1 else 0))
  nd : l.Nodup
  ok : ∀ k ∈ l, KOk k
def num (l : List Key) (k : Key) : Int := if k ∈ l then (l.idxOf k : Int) + 1 else 0
def sealN (l : List Key) (k : Key) : Int := if k ∈ l then (l.idxOf k : Int) + 1 else (l.length : Int) + 1
def sealL (l : List Key) (k : Key) : List Key := if k ∈ l then l else l ++ [k]
theorem Nt.lt {w : World} {g bm : Nat} {l : List Key} (h : Nt w g bm l) : g < w.heap.size ∧ bm < w.heap.size := by
  obtain ⟨D, hD, _⟩ := h.own
  exact ⟨(Array.getElem?_eq_some_iff.1 h.cell).1, hD.lt⟩
theorem Nt.keep {w w' : World} {g bm : Nat} {l : List Key} (h : Nt w g bm l) (h1 : w'.heap[g]? = w.heap[g]?) (h2 : w'.heap[bm]? = w.heap[bm]?) : Nt w' g bm l := by
  obtain ⟨D, ⟨es, ck, q1, q2⟩, hD⟩ := h.own
  exact ⟨h1.trans h.cell, ⟨D, ⟨es, ck, h2.trans q1, q2⟩, hD⟩, h.nd, h.ok⟩
theorem Nt.below {w w' : World} {g bm : Nat} {l : List Key} (h : Nt w g bm l) (hb : Below w.heap.size w w') : Nt w' g bm l := h.keep (hb.block _ h.lt.1) (hb.block _ h.lt.2)
theorem Nt.fp {w w' : World} {S : Nat → Prop} {g bm : Nat} {l : List Key} (h : Nt w g bm l) (hf : Fp S w w') (h1 : ¬ S g) (h2 : ¬ S bm) : Nt w' g bm l := h.keep (hf.block _ h.lt.1 h1) (hf.block _ h.lt.2 h2)
theorem Nt.ne {w : World} {g bm : Nat} {l : List Key} (h : Nt w g bm l) : g ≠ bm := by
  rintro rfl
  obtain ⟨D, ⟨es, ck, q1, q2⟩, hD⟩ := h.own
  rw [h.cell] at q1; cases q1
/-- One more. -/
theorem Nt.add {w w' : World} {g bm : Nat} {l : List Key} {k : Key} {D : DataW Unit} (h : Nt w g bm l) (hk : KOk k) (hkl : k ∉ l) (hown : w.ownsMap Tryz.prog 116 (plainElem Tryz.prog 3) bm l.length D)
    (hs : Maps.size D = l.length) (hD : ∀ k, KOk k → Maps.has D (kl k) = decide (k ∈ l) ∧ D.atKey (kl k) (.lit (.int .i64 0)) = .lit (.int .i64 (if k ∈ l then (l.idxOf k : Int) + 1 else 0)))
    (h1 : w'.heap[g]? = w.heap[g]?) (hown' : w'.ownsMap Tryz.prog 116 (plainElem Tryz.prog 3) bm (l.length + 1) (D.put (kl k) (.lit (.int .i64 ((l.length : Int) + 1))))) : Nt w' g bm (l ++ [k]) := by
  refine ⟨h1.trans h.cell, ⟨_, by rw [List.length_append]; exact hown', ?_, fun k' hk' => ?_⟩, ?_, ?_⟩
  · rw [Maps.size_put (hown.tidy nt_law), (hD k hk).1, decide_eq_false hkl, hs]; simp
  · by_cases he : k' = k
    · subst he
      rw [Maps.has_put_same hown.isMap (kl_is _), Maps.atKey_put_same hown.isMap (kl_is _)]
      simp [List.idxOf_append, hkl]
    · have hne : kl k' ≠ kl k := fun e => he (kl_inj hk' hk e)
      rw [Maps.has_put_other hne, Maps.atKey_put_other hne, (hD k' hk').1, (hD k' hk').2]
      by_cases hm : k' ∈ l
      · simp [hm, List.idxOf_append]
      · simp [hm, he]
  · rw [List.nodup_append]; exact ⟨h.nd, by simp, fun a ha b hb => by simp at hb; subst hb; rintro rfl; exact hkl ha⟩
  · intro a ha
    rcases List.mem_append.1 ha with ha | ha
    · exact h.ok a ha
    · simp at ha; subst ha; exact hk
end Go.Proofs.YtipmjleohadoeaaGreat

end

section
/- Package notary: New, Len, Find, Check, Seal. -/
namespace Go.Proofs.YtipmjleohadoeaaGreat
open Go.RowKit Go.Maps
set_option linter.unusedVariables false

set_option maxRecDepth 100000 in
theorem nt_new (w : World) : Calls Tryz.prog 9 #[] w fun e w' => ∃ g bm, e = .returned (.pointer (some ⟨g, 0, none⟩)) ∧ Nt w' g bm [] ∧ Below w.heap.size w w' ∧ w.heap.size ≤ g ∧ w.heap.size ≤ bm := by
  have hmm := @run_makeMap Tryz.prog
  go_enter Tryz.func9, Tryz.ntmps9
  go_wp2_with fail
  go_ret
  have hb := (alloc_below w (.map #[] 0)).trans ((alloc_below (w.alloc (.map #[] 0)) (.cells #[.map (some w.heap.size)] 93)).mono (by simp))
  have hs : (w.alloc (.map #[] 0)).heap.size = w.heap.size + 1 := by simp
  refine ⟨w.heap.size + 1, w.heap.size, rfl, ⟨?_, ⟨.map [], (World.ownsMap_made w _ _ _).alloc _, rfl, fun k hk => ⟨rfl, rfl⟩⟩, List.nodup_nil, fun k hk => by cases hk⟩, hb, Nat.le_succ _, Nat.le_refl _⟩
  have := heap_alloc_new (w.alloc (.map #[] 0)) (.cells #[.map (some w.heap.size)] 93)
  rwa [hs] at this
set_option maxRecDepth 100000 in
theorem nt_cell {w : World} {g bm : Nat} {l : List Key} (h : Nt w g bm l) : w.cell? ⟨g, 0, none⟩ = some (.map (some bm)) ∧ w.frozen? ⟨g, 0, none⟩ = false := by
  have hc := h.cell
  constructor
  · simp [World.cell?, hc]
  · simp [World.frozen?, hc]
set_option maxRecDepth 100000 in
theorem nt_len (g bm : Nat) (l : List Key) (w : World) (hN : Nt w g bm l) : Calls Tryz.prog 24 #[.pointer (some ⟨g, 0, none⟩)] w fun e w' => e = .returned (.int .i64 (l.length : Int)) ∧ w' = w := by
  obtain ⟨c0, c0'⟩ := nt_cell hN
  obtain ⟨D, hD, hs, _⟩ := hN.own
  have HD := Lib.hid hD
  have Hs := Lib.hid hs
  clear hD hs
  go_enter Tryz.func24, Tryz.ntmps24
  go_wp2_with (at_len; refine wpList_len_own _ rfl _ 91 rfl 116 3 Tryz.underlying91 _ bm _ _ rfl HD.out ?_; rw [Hs.out])
  go_ret
  exact ⟨rfl, rfl⟩
set_option maxRecDepth 100000 in
/-- The look-up, as a run. -/
theorem nt_look {w : World} {g bm : Nat} {l : List Key} (h : Nt w g bm l) {k : Key} (hk : KOk k) (w' : World) (hw : w'.heap[bm]? = w.heap[bm]?) :
    (Instr.lookup 91 (.map (some bm)) (kv k) true).run Tryz.prog w' = .ok (.tuple #[.int .i64 (num l k), .bool (decide (k ∈ l))]) w' := by
  obtain ⟨D, ⟨es, ck, q1, q2⟩, hs, hD⟩ := h.own
  have hown : w'.ownsMap Tryz.prog 116 (plainElem Tryz.prog 3) bm l.length D := ⟨es, ck, hw.trans q1, q2⟩
  obtain ⟨v, ps, hr, hv⟩ := hown.look_ok nt_law Tryz.underlying91 (zeroI w') (plainElem_int (H := Unit) Tryz.underlying3 (WalkArith.wf_i64 (n := 0) (by omega))) (key_of k hk)
  obtain ⟨c, rfl, hz, _⟩ := plainElem_int_inv Tryz.underlying3 hv
  rw [(hD k hk).2] at hz
  injection hz with hz _
  injection hz with hz
  injection hz with _ hz
  unfold num
  rw [hr, (hD k hk).1, ← hz]
set_option maxRecDepth 100000 in
theorem exec_look {a : Act} {o : Oper} {w : World} (x y : Operand) (ho : o.op = .lookup 91 x y true) {g bm : Nat} {l : List Key} {w0 : World} (h : Nt w0 g bm l) {k : Key} (hk : KOk k) (hw : w.heap[bm]? = w0.heap[bm]?)
    (hx : a.eval x = .map (some bm)) (hy : a.eval y = kv k) : (execOp a.eval o).run Tryz.prog w = .ok (.value (.tuple #[.int .i64 (num l k), .bool (decide (k ∈ l))])) w := by
  unfold execOp
  simp only [ho, hx, hy, Sem.run_bind, Sem.run_pure, nt_look h hk w hw, Result.andThen_ok]
set_option maxRecDepth 100000 in
theorem exec_look_b {a : Act} {o : Oper} {w : World} (x y : Operand) (ho : o.op = .lookup 91 x y true) {g bm : Nat} {l : List Key} {w0 : World} (h : Nt w0 g bm l) {k : Key} (hk : KOk k) (hw : w.heap[bm]? = w0.heap[bm]?)
    (hx : a.eval x = .map (some bm)) (hy : a.eval y = kv k) {b : Bool} (hb : decide (k ∈ l) = b) : (execOp a.eval o).run Tryz.prog w = .ok (.value (.tuple #[.int .i64 (num l k), .bool b])) w := by
  subst hb; exact exec_look x y ho h hk hw hx hy
set_option maxRecDepth 100000 in
theorem exec_str {a : Act} {o : Oper} {w : World} {P : Nat → Prop} (x : Operand) (ho : o.op = .convert 49 9 x) (v : Value) (l : List UInt8) (h : RdP w P 1 v l.length (l.map bv)) (hx : a.eval x = v) :
    (execOp a.eval o).run Tryz.prog w = .ok (.value (.string (strOf l))) w := by
  unfold execOp
  simp only [ho, hx, Sem.run_bind, Sem.run_pure, run_str w v l h, Result.andThen_ok]

set_option maxRecDepth 100000 in
theorem nt_find (g bm : Nat) (l : List Key) (p : Int) (bs : List UInt8) (v : Value) (w : World) (P : Nat → Prop) (hN : Nt w g bm l) (hk : KOk (p, bs)) (hv : RdP w P 1 v bs.length (bs.map bv)) :
    Calls Tryz.prog 97 #[.pointer (some ⟨g, 0, none⟩), .int .i64 p, v] w fun e w' => e = .returned (.tuple #[.int .i64 (num l (p, bs)), .bool (decide ((p, bs) ∈ l))]) ∧ ∃ q, w' = w.drewN q := by
  obtain ⟨c0, c0'⟩ := nt_cell hN
  obtain ⟨_, A, c, rfl, _, _, _⟩ := hv.parts
  have HN := Lib.hid hN
  have HV := Lib.hid hv
  have HK := Lib.hid hk
  clear hN hv hk c0'
  go_enter Tryz.func97, Tryz.ntmps97
  go_wp2_with fail
  refine wp_region_quiet_lit (by kernel_rfl) (by kernel_rfl) ?_
  repeat (first | (refine quiet_val rfl (.string (strOf bs)) (fun w' hC => by obtain ⟨n, rfl⟩ := hC; exact exec_str (.tmp 16) rfl _ bs HV.out rfl) ?_; intro K hK; go_simp; refine hK _ ?_; clear hK K) | (refine quiet_val rfl (.tuple #[.int .i64 (num l (p, bs)), .bool (decide ((p, bs) ∈ l))]) (fun w' hC => by obtain ⟨n, rfl⟩ := hC; exact exec_look (.tmp 14) (.tmp 18) rfl HN.out HK.out rfl rfl rfl) ?_; intro K hK; go_simp; refine hK _ ?_; clear hK K) | go_big_quiet_step (fail))
  refine wpQuiet_nil ?_
  intro _ hw'
  obtain ⟨nq, hw''⟩ := hw'
  subst hw''
  go_wp2_with fail
  go_ret2
  exact ⟨rfl, _, rfl⟩

set_option maxRecDepth 100000 in
theorem nt_check (g bm : Nat) (l : List Key) (p : Int) (bs : List UInt8) (s : Int) (v : Value) (w : World) (P : Nat → Prop) (hN : Nt w g bm l) (hk : KOk (p, bs)) (hv : RdP w P 1 v bs.length (bs.map bv)) :
    Calls Tryz.prog 62 #[.pointer (some ⟨g, 0, none⟩), .int .i64 p, v, .int .i64 s] w fun e w' => e = .returned (.bool (decide ((p, bs) ∈ l) && decide (num l (p, bs) = s))) ∧ ∃ q, w' = w.drewN q := by
  have HN := Lib.hid hN
  have HV := Lib.hid hv
  have HK := Lib.hid hk
  clear hN hv hk
  by_cases hm : (p, bs) ∈ l
  case' pos =>
    go_enter Tryz.func62, Tryz.ntmps62
    go_wp2_with fail
    refine (nt_find g bm l p bs v w P HN.out HK.out HV.out).mono ?_
    rintro e w' ⟨rfl, q, rfl⟩
    rw [decide_eq_true hm]
    go_wp2_with fail
    go_ret
    exact ⟨by simp [hm, Bool.beq_eq_decide_eq], q, rfl⟩
  case' neg =>
    go_enter Tryz.func62, Tryz.ntmps62
    go_wp2_with fail
    refine (nt_find g bm l p bs v w P HN.out HK.out HV.out).mono ?_
    rintro e w' ⟨rfl, q, rfl⟩
    rw [decide_eq_false hm]
    go_wp2_with fail
    go_ret
    exact ⟨by simp [hm], q, rfl⟩
set_option maxRecDepth 100000 in
theorem nt_ksize : (Tryz.prog.info? 116).map (·.size) = some 2 := by kernel_rfl

set_option maxRecDepth 100000 in
set_option maxHeartbeats 1000000 in
theorem nt_seal (g bm : Nat) (l : List Key) (p : Int) (bs : List UInt8) (v : Value) (w : World) (P : Nat → Prop) (hN : Nt w g bm l) (hk : KOk (p, bs)) (hl : l.length < 1099511627776) (hv : RdP w P 1 v bs.length (bs.map bv)) :
    Calls Tryz.prog 56 #[.pointer (some ⟨g, 0, none⟩), .int .i64 p, v] w fun e w' => e = .returned (.int .i64 (sealN l (p, bs))) ∧ Nt w' g bm (sealL l (p, bs)) ∧ Fp (fun b => b = bm) w w' := by
  have HN := Lib.hid hN
  have HV := Lib.hid hv
  have HK := Lib.hid hk
  clear hN hv hk
  go_enter Tryz.func56, Tryz.ntmps56
  go_wp2_with (first | (refine list_val rfl (.string (strOf bs)) (exec_str (.tmp 12) rfl _ bs HV.out rfl) ?_) | (refine list_store_new rfl 116 (.tmp 7) (.tmp 14) rfl _ _ [.int .i64 p, .string (strOf bs)] rfl rfl rfl nt_ksize (by simp [Value.oneCell']) ?_; intro w1 hb1 hr1 hs1))
  have HN1 := Lib.hid (HN.out.below hb1)
  have HR1 : Hid (∀ w' : World, (∃ n, w' = w1.drewN n) → w'.rangeAt w.heap.size 0 [.int .i64 p, .string (strOf bs)]) := Lib.hid (by rintro w' ⟨n, rfl⟩; exact hr1)
  have Hr1 := Lib.hid hr1
  have HB1 := Lib.hid hb1
  obtain ⟨c0, c0'⟩ := nt_cell HN1.out
  clear hb1 hr1 hs1 c0'
  go_frame
  by_cases hm : (p, bs) ∈ l
  case' pos =>
    have hd := decide_eq_true hm
    refine wp_region_quiet_lit (by kernel_rfl) (by kernel_rfl) ?_
    repeat (first | (refine quiet_load rfl 116 (.tmp 7) rfl w.heap.size 0 rfl _ _ HR1.out Tryz.underlying116 rfl nt_ksize ?_; intro K hK; go_simp; refine hK _ ?_; clear hK K) | (refine quiet_val rfl (.tuple #[.int .i64 (num l (p, bs)), .bool true]) (fun w' hC => by obtain ⟨n, rfl⟩ := hC; exact exec_look_b (.tmp 19) (.tmp 20) rfl HN1.out HK.out (by rfl) (by rfl) (by rfl) hd) ?_; intro K hK; go_simp; refine hK _ ?_; clear hK K) | go_big_quiet_step (fail))
    refine wpQuiet_nil ?_
    intro _ hw'
    obtain ⟨nq, hw''⟩ := hw'
    subst hw''
    go_wp2_with fail
    go_ret
    have e1 : sealN l (p, bs) = num l (p, bs) := by simp [sealN, num, hm]
    have e2 : sealL l (p, bs) = l := by simp [sealL, hm]
    rw [e1, e2]
    exact ⟨rfl, HN1.out.keep rfl rfl, (Fp.of_below HB1.out _).drewN nq⟩
  case' neg =>
    have hd := decide_eq_false hm
    refine wp_region_quiet_lit (by kernel_rfl) (by kernel_rfl) ?_
    repeat (first | (refine quiet_load rfl 116 (.tmp 7) rfl w.heap.size 0 rfl _ _ HR1.out Tryz.underlying116 rfl nt_ksize ?_; intro K hK; go_simp; refine hK _ ?_; clear hK K) | (refine quiet_val rfl (.tuple #[.int .i64 (num l (p, bs)), .bool false]) (fun w' hC => by obtain ⟨n, rfl⟩ := hC; exact exec_look_b (.tmp 19) (.tmp 20) rfl HN1.out HK.out (by rfl) (by rfl) (by rfl) hd) ?_; intro K hK; go_simp; refine hK _ ?_; clear hK K) | go_big_quiet_step (fail))
    refine wpQuiet_nil ?_
    intro _ hw'
    obtain ⟨nq, hw''⟩ := hw'
    subst hw''
    obtain ⟨D, hD, hs, hDk⟩ := HN1.out.own
    have HD := Lib.hid hD
    have Hs := Lib.hid hs
    have HDk := Lib.hid hDk
    clear hD hs hDk
    go_wp2_with (at_len; refine wpList_len_own _ rfl _ 91 rfl 116 3 Tryz.underlying91 _ bm _ D rfl (show (w1.drewN nq).ownsMap _ _ _ _ _ _ from HD.out) ?_; rw [Hs.out])
    have hr3 := Hr1.out
    have x0 : w1.cell? ⟨w.heap.size, 0, none⟩ = some (.int .i64 p) := by simpa using hr3 0 _ rfl
    have x1 : w1.cell? ⟨w.heap.size, 1, none⟩ = some (.string (strOf bs)) := by simpa using hr3 1 _ rfl
    clear hr3
    refine wp_region_still_tail_drew 6 (by kernel_rfl) (by kernel_rfl) ?_
    simp only [List.take_succ_cons, List.take_zero, List.drop_succ_cons, List.drop_zero]
    repeat still_step
    refine wpStill_nil ?_
    go_wp2_with (at_mapUpdate; refine wpList_mapUpdate_own _ rfl _ _ _ 91 rfl 116 3 nt_law Tryz.underlying91 _ bm l.length D rfl (show ((w1.drewN nq).drew).ownsMap _ _ _ _ _ _ from HD.out) (by unfold maxLen; omega) _ _ (kl (p, bs)) rfl rfl (key_of (p, bs) HK.out) (.lit (.int .i64 ((l.length : Int) + 1))) [] (plainElem_int Tryz.underlying3 (WalkArith.wf_i64 (by omega))) ?_; intro w2 hown2 hg2)
    go_ret
    have e1 : sealN l (p, bs) = (l.length : Int) + 1 := by simp [sealN, hm]
    have e2 : sealL l (p, bs) = l ++ [(p, bs)] := by simp [sealL, hm]
    rw [e1, e2]
    have hlt := HN1.out.lt
    have hne := HN1.out.ne
    refine ⟨rfl, HN1.out.add HK.out hm HD.out Hs.out HDk.out ?_ hown2, ?_⟩
    · exact hg2.block g hlt.1 (by simp; exact hne)
    · exact (((Fp.of_below HB1.out _).drewN nq).drew).grown hg2 (fun k hk => Or.inl (by injection hk with hk; exact hk.symm))
end Go.Proofs.YtipmjleohadoeaaGreat

end

section
/- Rows that are stored whole; results that lie in a cell. No function in sight. -/
namespace Go.Proofs.YtipmjleohadoeaaGreat
open Go.RowKit
set_option linter.unusedVariables false

theorem rst_sizeR : (Tryz.prog.info? 42).map (·.size) = some 6 := by kernel_rfl
theorem rst_store {W : World} {g : Nat} {zs : Array Value} {T : TypeId} (h : W.heap[g]? = some (.cells zs T (0, 0))) (l : List Value) (hl : l.length = zs.size) : (W.setCells g 0 l).heap[g]? = some (.cells l.toArray T (0, 0)) ∧ ∀ b, b ≠ g → (W.setCells g 0 l).heap[b]? = W.heap[b]? := by
  have key : ∀ (vs : List Value) (k : Nat) (W : World) (pre : List Value), W.heap[g]? = some (.cells (pre ++ zs.toList.drop k).toArray T (0, 0)) → pre.length = k → k + vs.length = zs.size → (W.setCells g k vs).heap[g]? = some (.cells (pre ++ vs).toArray T (0, 0)) := by
    intro vs
    induction vs with
    | nil =>
      intro k W pre h1 h2 h3
      rw [List.drop_eq_nil_of_le (by simp at h3 ⊢; omega)] at h1
      exact h1
    | cons v vs ih =>
      intro k W pre h1 h2 h3
      have h4 : (W.setCell ⟨g, k, none⟩ v).heap[g]? = some (.cells ((pre ++ [v]) ++ zs.toList.drop (k + 1)).toArray T (0, 0)) := by
        rw [heap_setCell_same W _ k _ _ v h1]
        congr 2
        have hk : k < zs.toList.length := by simp at h3 ⊢; omega
        rw [List.drop_eq_getElem_cons hk]
        apply Array.ext'
        simp [h2]
      have := ih (k + 1) _ (pre ++ [v]) h4 (by simp [h2]) (by simp at h3 ⊢; omega)
      simpa [World.setCells] using this
  have oth : ∀ (vs : List Value) (k : Nat) (W : World) (b : Nat), b ≠ g → (W.setCells g k vs).heap[b]? = W.heap[b]? := by
    intro vs
    induction vs with
    | nil => intro k W b _; rfl
    | cons v vs ih =>
      intro k W b hb
      exact (ih (k + 1) _ b hb).trans (Below.heap_setCell W ⟨g, k, none⟩ _ b hb)
  exact ⟨by simpa using key l 0 W [] (by simpa using h) rfl (by simpa using hl), fun b hb => oth l 0 W b hb⟩
theorem rst_there {W : World} {g : Nat} {zs : Array Value} {T : TypeId} (h : W.heap[g]? = some (.cells zs T (0, 0))) : W.there g 0 zs.size := fun j hj => by
  refine ⟨?_, frozen_of_row W _ (0 + j) _ _ h⟩
  rw [Nat.zero_add, cell_of_row W _ j _ _ _ h]
  simp [hj]
theorem results_cell_row1 {P : Program} {fn : Func} {p u : Tmp} {ty : TypeId} (h : fn.results = #[.cell p ty, .tmp u]) (tmps : Array Value) (w : World) (g : Nat) (t : TypeId) (cs : Array Value) (fr : Nat × Nat) (d : TypeDesc)
    (hp : tmps.getD p undef = .pointer (some ⟨g, 0, none⟩)) (hg : w.heap[g]? = some (.cells cs t fr))
    (hu : P.underlying ty = some d) (hd : (match d with | .struct _ | .array _ _ => true | _ => false) = true) (hi : (P.info? ty).map (·.size) = some cs.size) :
    (results fn tmps).run P w = .ok (.tuple #[.agg cs, tmps.getD u undef]) w := by
  have hp' : tmps[p]?.getD undef = .pointer (some ⟨g, 0, none⟩) := by simpa using hp
  simp [results, h, hp', asAddr, run_loadVar_row w g t ty cs fr d hg hu hd hi]
/-- The six cells of a request's block. -/
theorem rst_cells {w : World} {g : Nat} {r : Psp.Req} (h : w.heap[g]? = some (.cells #[.int .i64 r.c, .int .i64 r.t, .int .i64 r.k, .int .i64 r.y, .int .i64 r.v, .int .i64 r.s] 42 (0, 0))) :
    w.cell? ⟨g, 0, none⟩ = some (.int .i64 r.c) ∧ w.cell? ⟨g, 1, none⟩ = some (.int .i64 r.t) ∧ w.cell? ⟨g, 2, none⟩ = some (.int .i64 r.k) ∧ w.cell? ⟨g, 3, none⟩ = some (.int .i64 r.y) ∧ w.cell? ⟨g, 4, none⟩ = some (.int .i64 r.v) ∧ w.cell? ⟨g, 5, none⟩ = some (.int .i64 r.s) ∧ w.frozen? ⟨g, 5, none⟩ = false := by
  have hc := fun j => cell_of_row w g j _ _ _ h
  exact ⟨(hc 0).trans rfl, (hc 1).trans rfl, (hc 2).trans rfl, (hc 3).trans rfl, (hc 4).trans rfl, (hc 5).trans rfl, frozen_of_row w g 5 _ _ h⟩
theorem encN_len6 (n : Int) (h : Psp.okN n = true) : (Psp.encN n).length ≤ 6 := (Psp.encN_len h).2
theorem encR_len (r : Psp.Req) (h : Psp.okR r = true) : (Psp.encR r).length ≤ 36 := by
  unfold Psp.okR at h
  simp only [Bool.and_eq_true] at h
  obtain ⟨h1, h2, h3, _, _, h6⟩ := h
  have a1 := encN_len6 _ h1
  have a2 := encN_len6 _ h2
  have a3 := encN_len6 _ h3
  have a4 := (Psp.encS_len r.y).2
  have a5 := (Psp.encS_len r.v).2
  have a6 := encN_len6 _ h6
  unfold Psp.encR
  simp only [List.length_append]
  omega
theorem res_len (r : Psp.Req) : (res (Psp.encR r) (Psp.okR r)).length ≤ 36 := by
  cases h : Psp.okR r with
  | false => rw [res_no]; simp
  | true => rw [res_yes]; exact encR_len r h
end Go.Proofs.YtipmjleohadoeaaGreat

end

section
/- Which requests are right. Printed by gen_valid.py. -/
namespace Psp
def valid (r : Req) (clients : Int) : Bool := decide (0 ≤ r.c ∧ r.c < clients ∧ 1 ≤ r.t ∧ r.t ≤ 1048576 ∧ 0 ≤ r.s ∧ r.s < 1099511627776 ∧ 0 ≤ r.y ∧ r.y < 64 ∧ -2147483648 < r.v ∧ r.v < 2147483648 ∧ (r.k = 1 ∨ r.k = 3 ∨ (r.k = 2 ∧ r.v = 0) ∨ (r.k = 4 ∧ r.v = 0) ∨ (r.k = 5 ∧ r.y = 0 ∧ r.v = 0)))
end Psp
namespace Go.Proofs.YtipmjleohadoeaaGreat
open Go.RowKit
set_option linter.unusedVariables false

theorem val_size : (Tryz.prog.info? 40).map (·.size) = some 3 := by kernel_rfl
theorem val_load (r : Psp.Req) (w : World) : (w.alloc (.cells #[.int .i64 r.c, .int .i64 r.t, .int .i64 r.k, .int .i64 r.y, .int .i64 r.v, .int .i64 r.s] 42)).rangeAt w.heap.size 2 [.int .i64 r.k, .int .i64 r.y, .int .i64 r.v] := by
  intro j v hv
  rw [cell_of_row _ w.heap.size (2 + j) _ _ _ (heap_alloc_new w _)]
  match j, hv with
  | 0, hv => simpa using hv
  | 1, hv => simpa using hv
  | 2, hv => simpa using hv
set_option maxRecDepth 100000 in
set_option maxHeartbeats 4000000 in
theorem valid_any (r : Psp.Req) (clients : Int) (w : World) :
    Calls Tryz.prog 54 #[.agg #[.int .i64 r.c, .int .i64 r.t, .int .i64 r.k, .int .i64 r.y, .int .i64 r.v, .int .i64 r.s], .int .i64 clients] w fun e w' => e = .returned (.bool (Psp.valid r clients)) ∧ Below w.heap.size w w' := by
  have hld := val_load r w
  go_enter Tryz.func54, Tryz.ntmps54
  have hb0 : Below w.heap.size w (w.alloc (.cells #[.int .i64 r.c, .int .i64 r.t, .int .i64 r.k, .int .i64 r.y, .int .i64 r.v, .int .i64 r.s] 42)) := alloc_below _ _
  have hb1 : Below w.heap.size w ((w.alloc (.cells #[.int .i64 r.c, .int .i64 r.t, .int .i64 r.k, .int .i64 r.y, .int .i64 r.v, .int .i64 r.s] 42)).alloc (.cells #[.int .i64 r.k, .int .i64 r.y, .int .i64 r.v] 40)) := (alloc_below _ _).trans ((alloc_below _ _).mono (by simp))
  go_upto_region 1 with fail
  go_cut [34] from 6 to 34 (fun x wx => x = .bool (decide ((r.c < 0) ∨ (clients ≤ r.c) ∨ (r.t < 1) ∨ (1048576 < r.t) ∨ (r.s < 0) ∨ (1099511627776 ≤ r.s))) ∧ (w.alloc (.cells #[.int .i64 r.c, .int .i64 r.t, .int .i64 r.k, .int .i64 r.y, .int .i64 r.v, .int .i64 r.s] 42)) = wx)
  case first =>
    by_cases h0 : r.c < 0
    · have d0 : decide (r.c < 0) = true := decide_eq_true h0
      have hp : decide ((r.c < 0) ∨ (clients ≤ r.c) ∨ (r.t < 1) ∨ (1048576 < r.t) ∨ (r.s < 0) ∨ (1099511627776 ≤ r.s)) = true := decide_eq_true (by omega)
      go_wp2_with fail
      go_meet
      exact ⟨hp ▸ rfl, rfl⟩
    · have d0 : decide (r.c < 0) = false := decide_eq_false h0
      by_cases h1 : clients ≤ r.c
      · have d1 : decide (clients ≤ r.c) = true := decide_eq_true h1
        have hp : decide ((r.c < 0) ∨ (clients ≤ r.c) ∨ (r.t < 1) ∨ (1048576 < r.t) ∨ (r.s < 0) ∨ (1099511627776 ≤ r.s)) = true := decide_eq_true (by omega)
        go_wp2_with fail
        go_meet
        exact ⟨hp ▸ rfl, rfl⟩
      · have d1 : decide (clients ≤ r.c) = false := decide_eq_false h1
        by_cases h2 : r.t < 1
        · have d2 : decide (r.t < 1) = true := decide_eq_true h2
          have hp : decide ((r.c < 0) ∨ (clients ≤ r.c) ∨ (r.t < 1) ∨ (1048576 < r.t) ∨ (r.s < 0) ∨ (1099511627776 ≤ r.s)) = true := decide_eq_true (by omega)
          go_wp2_with fail
          go_meet
          exact ⟨hp ▸ rfl, rfl⟩
        · have d2 : decide (r.t < 1) = false := decide_eq_false h2
          by_cases h3 : 1048576 < r.t
          · have d3 : decide (1048576 < r.t) = true := decide_eq_true h3
            have hp : decide ((r.c < 0) ∨ (clients ≤ r.c) ∨ (r.t < 1) ∨ (1048576 < r.t) ∨ (r.s < 0) ∨ (1099511627776 ≤ r.s)) = true := decide_eq_true (by omega)
            go_wp2_with fail
            go_meet
            exact ⟨hp ▸ rfl, rfl⟩
          · have d3 : decide (1048576 < r.t) = false := decide_eq_false h3
            by_cases h4 : r.s < 0
            · have d4 : decide (r.s < 0) = true := decide_eq_true h4
              have hp : decide ((r.c < 0) ∨ (clients ≤ r.c) ∨ (r.t < 1) ∨ (1048576 < r.t) ∨ (r.s < 0) ∨ (1099511627776 ≤ r.s)) = true := decide_eq_true (by omega)
              go_wp2_with fail
              go_meet
              exact ⟨hp ▸ rfl, rfl⟩
            · have d4 : decide (r.s < 0) = false := decide_eq_false h4
              by_cases h5 : 1099511627776 ≤ r.s
              · have d5 : decide (1099511627776 ≤ r.s) = true := decide_eq_true h5
                have hp : decide ((r.c < 0) ∨ (clients ≤ r.c) ∨ (r.t < 1) ∨ (1048576 < r.t) ∨ (r.s < 0) ∨ (1099511627776 ≤ r.s)) = true := decide_eq_true (by omega)
                go_wp2_with fail
                go_meet
                exact ⟨hp ▸ rfl, rfl⟩
              · have d5 : decide (1099511627776 ≤ r.s) = false := decide_eq_false h5
                have hp : decide ((r.c < 0) ∨ (clients ≤ r.c) ∨ (r.t < 1) ∨ (1048576 < r.t) ∨ (r.s < 0) ∨ (1099511627776 ≤ r.s)) = false := decide_eq_false (by omega)
                go_wp2_with fail
                go_meet
                exact ⟨hp ▸ rfl, rfl⟩
  case' rest =>
    obtain ⟨rfl, rfl⟩ := hcut
    by_cases h20 : (r.c < 0) ∨ (clients ≤ r.c) ∨ (r.t < 1) ∨ (1048576 < r.t) ∨ (r.s < 0) ∨ (1099511627776 ≤ r.s)
    case' pos =>
      have d20 : decide ((r.c < 0) ∨ (clients ≤ r.c) ∨ (r.t < 1) ∨ (1048576 < r.t) ∨ (r.s < 0) ∨ (1099511627776 ≤ r.s)) = true := decide_eq_true h20
      have hv : Psp.valid r clients = false := decide_eq_false (by omega)
      rw [d20]
      go_wp2_with fail
      go_ret
      exact ⟨by rw [hv]; rfl, by assumption⟩
    case' neg =>
      have d20 : decide ((r.c < 0) ∨ (clients ≤ r.c) ∨ (r.t < 1) ∨ (1048576 < r.t) ∨ (r.s < 0) ∨ (1099511627776 ≤ r.s)) = false := decide_eq_false h20
      rw [d20]
      go_upto_region 4 with (first | (refine list_load (by simp [Region.wanted, yielded]) 40 (.tmp 35) rfl w.heap.size 2 rfl [.int .i64 r.k, .int .i64 r.y, .int .i64 r.v] _ hld Tryz.underlying40 rfl val_size ?_) | (refine list_store_new rfl 40 (.tmp 5) (.tmp 36) rfl _ _ [.int .i64 r.k, .int .i64 r.y, .int .i64 r.v] rfl rfl rfl val_size (by simp [Value.oneCell']) ?_; intro w1 hb1 hr1 hs1))
      go_upto_region 4 with fail
      go_cut [54] from 37 to 54 (fun x wx => x = .bool (decide ((r.y < 0) ∨ (64 ≤ r.y) ∨ (r.v ≤ -2147483648) ∨ (2147483648 ≤ r.v))) ∧ ((w.alloc (.cells #[.int .i64 r.c, .int .i64 r.t, .int .i64 r.k, .int .i64 r.y, .int .i64 r.v, .int .i64 r.s] 42)).alloc (.cells #[.int .i64 r.k, .int .i64 r.y, .int .i64 r.v] 40)) = wx)
      case first =>
        by_cases h0 : r.y < 0
        · have d0 : decide (r.y < 0) = true := decide_eq_true h0
          have hp : decide ((r.y < 0) ∨ (64 ≤ r.y) ∨ (r.v ≤ -2147483648) ∨ (2147483648 ≤ r.v)) = true := decide_eq_true (by omega)
          go_wp2_with fail
          go_meet
          exact ⟨hp ▸ rfl, rfl⟩
        · have d0 : decide (r.y < 0) = false := decide_eq_false h0
          by_cases h1 : 64 ≤ r.y
          · have d1 : decide (64 ≤ r.y) = true := decide_eq_true h1
            have hp : decide ((r.y < 0) ∨ (64 ≤ r.y) ∨ (r.v ≤ -2147483648) ∨ (2147483648 ≤ r.v)) = true := decide_eq_true (by omega)
            go_wp2_with fail
            go_meet
            exact ⟨hp ▸ rfl, rfl⟩
          · have d1 : decide (64 ≤ r.y) = false := decide_eq_false h1
            by_cases h2 : r.v ≤ -2147483648
            · have d2 : decide (r.v ≤ -2147483648) = true := decide_eq_true h2
              have hp : decide ((r.y < 0) ∨ (64 ≤ r.y) ∨ (r.v ≤ -2147483648) ∨ (2147483648 ≤ r.v)) = true := decide_eq_true (by omega)
              go_wp2_with fail
              go_meet
              exact ⟨hp ▸ rfl, rfl⟩
            · have d2 : decide (r.v ≤ -2147483648) = false := decide_eq_false h2
              by_cases h3 : 2147483648 ≤ r.v
              · have d3 : decide (2147483648 ≤ r.v) = true := decide_eq_true h3
                have hp : decide ((r.y < 0) ∨ (64 ≤ r.y) ∨ (r.v ≤ -2147483648) ∨ (2147483648 ≤ r.v)) = true := decide_eq_true (by omega)
                go_wp2_with fail
                go_meet
                exact ⟨hp ▸ rfl, rfl⟩
              · have d3 : decide (2147483648 ≤ r.v) = false := decide_eq_false h3
                have hp : decide ((r.y < 0) ∨ (64 ≤ r.y) ∨ (r.v ≤ -2147483648) ∨ (2147483648 ≤ r.v)) = false := decide_eq_false (by omega)
                go_wp2_with fail
                go_meet
                exact ⟨hp ▸ rfl, rfl⟩
      case' rest =>
        obtain ⟨rfl, rfl⟩ := hcut
        by_cases h21 : (r.y < 0) ∨ (64 ≤ r.y) ∨ (r.v ≤ -2147483648) ∨ (2147483648 ≤ r.v)
        case' pos =>
          have d21 : decide ((r.y < 0) ∨ (64 ≤ r.y) ∨ (r.v ≤ -2147483648) ∨ (2147483648 ≤ r.v)) = true := decide_eq_true h21
          have hv : Psp.valid r clients = false := decide_eq_false (by omega)
          rw [d21]
          go_wp2_with fail
          go_ret
          exact ⟨by rw [hv]; rfl, by assumption⟩
        case' neg =>
          have d21 : decide ((r.y < 0) ∨ (64 ≤ r.y) ∨ (r.v ≤ -2147483648) ∨ (2147483648 ≤ r.v)) = false := decide_eq_false h21
          rw [d21]
          by_cases h30 : r.k = 1
          · have d30 : decide (r.k = 1) = true := decide_eq_true h30
            have hv : Psp.valid r clients = true := decide_eq_true (by omega)
            go_wp2_with fail
            go_ret
            exact ⟨by rw [hv]; first | rfl | exact congrArg (fun x => Ending.returned (.bool x)) b30 | exact congrArg (fun x => Ending.returned (.bool x)) b31 | exact congrArg (fun x => Ending.returned (.bool x)) b32 | exact congrArg (fun x => Ending.returned (.bool x)) b33 | exact congrArg (fun x => Ending.returned (.bool x)) b34 | exact congrArg (fun x => Ending.returned (.bool x)) b35 | exact congrArg (fun x => Ending.returned (.bool x)) b36 | exact congrArg (fun x => Ending.returned (.bool x)) b37, (alloc_below _ _).trans ((alloc_below _ _).mono (by simp))⟩
          · have d30 : decide (r.k = 1) = false := decide_eq_false h30
            have b30 : (r.k == 1) = false := by simpa using h30
            by_cases h31 : r.k = 3
            · have d31 : decide (r.k = 3) = true := decide_eq_true h31
              have hv : Psp.valid r clients = true := decide_eq_true (by omega)
              go_wp2_with fail
              go_ret
              exact ⟨by rw [hv]; first | rfl | exact congrArg (fun x => Ending.returned (.bool x)) b30 | exact congrArg (fun x => Ending.returned (.bool x)) b31 | exact congrArg (fun x => Ending.returned (.bool x)) b32 | exact congrArg (fun x => Ending.returned (.bool x)) b33 | exact congrArg (fun x => Ending.returned (.bool x)) b34 | exact congrArg (fun x => Ending.returned (.bool x)) b35 | exact congrArg (fun x => Ending.returned (.bool x)) b36 | exact congrArg (fun x => Ending.returned (.bool x)) b37, (alloc_below _ _).trans ((alloc_below _ _).mono (by simp))⟩
            · have d31 : decide (r.k = 3) = false := decide_eq_false h31
              have b31 : (r.k == 3) = false := by simpa using h31
              by_cases h32 : r.k = 2
              · have d32 : decide (r.k = 2) = true := decide_eq_true h32
                by_cases h33 : r.v = 0
                · have d33 : decide (r.v = 0) = true := decide_eq_true h33
                  have hv : Psp.valid r clients = true := decide_eq_true (by omega)
                  go_wp2_with fail
                  go_ret
                  exact ⟨by rw [hv]; first | rfl | exact congrArg (fun x => Ending.returned (.bool x)) b30 | exact congrArg (fun x => Ending.returned (.bool x)) b31 | exact congrArg (fun x => Ending.returned (.bool x)) b32 | exact congrArg (fun x => Ending.returned (.bool x)) b33 | exact congrArg (fun x => Ending.returned (.bool x)) b34 | exact congrArg (fun x => Ending.returned (.bool x)) b35 | exact congrArg (fun x => Ending.returned (.bool x)) b36 | exact congrArg (fun x => Ending.returned (.bool x)) b37, (alloc_below _ _).trans ((alloc_below _ _).mono (by simp))⟩
                · have d33 : decide (r.v = 0) = false := decide_eq_false h33
                  have b33 : (r.v == 0) = false := by simpa using h33
                  have hv : Psp.valid r clients = false := decide_eq_false (by omega)
                  go_wp2_with fail
                  go_ret
                  exact ⟨by rw [hv]; first | rfl | exact congrArg (fun x => Ending.returned (.bool x)) b30 | exact congrArg (fun x => Ending.returned (.bool x)) b31 | exact congrArg (fun x => Ending.returned (.bool x)) b32 | exact congrArg (fun x => Ending.returned (.bool x)) b33 | exact congrArg (fun x => Ending.returned (.bool x)) b34 | exact congrArg (fun x => Ending.returned (.bool x)) b35 | exact congrArg (fun x => Ending.returned (.bool x)) b36 | exact congrArg (fun x => Ending.returned (.bool x)) b37, (alloc_below _ _).trans ((alloc_below _ _).mono (by simp))⟩
              · have d32 : decide (r.k = 2) = false := decide_eq_false h32
                have b32 : (r.k == 2) = false := by simpa using h32
                by_cases h33 : r.k = 4
                · have d33 : decide (r.k = 4) = true := decide_eq_true h33
                  by_cases h34 : r.v = 0
                  · have d34 : decide (r.v = 0) = true := decide_eq_true h34
                    have hv : Psp.valid r clients = true := decide_eq_true (by omega)
                    go_wp2_with fail
                    go_ret
                    exact ⟨by rw [hv]; first | rfl | exact congrArg (fun x => Ending.returned (.bool x)) b30 | exact congrArg (fun x => Ending.returned (.bool x)) b31 | exact congrArg (fun x => Ending.returned (.bool x)) b32 | exact congrArg (fun x => Ending.returned (.bool x)) b33 | exact congrArg (fun x => Ending.returned (.bool x)) b34 | exact congrArg (fun x => Ending.returned (.bool x)) b35 | exact congrArg (fun x => Ending.returned (.bool x)) b36 | exact congrArg (fun x => Ending.returned (.bool x)) b37, (alloc_below _ _).trans ((alloc_below _ _).mono (by simp))⟩
                  · have d34 : decide (r.v = 0) = false := decide_eq_false h34
                    have b34 : (r.v == 0) = false := by simpa using h34
                    have hv : Psp.valid r clients = false := decide_eq_false (by omega)
                    go_wp2_with fail
                    go_ret
                    exact ⟨by rw [hv]; first | rfl | exact congrArg (fun x => Ending.returned (.bool x)) b30 | exact congrArg (fun x => Ending.returned (.bool x)) b31 | exact congrArg (fun x => Ending.returned (.bool x)) b32 | exact congrArg (fun x => Ending.returned (.bool x)) b33 | exact congrArg (fun x => Ending.returned (.bool x)) b34 | exact congrArg (fun x => Ending.returned (.bool x)) b35 | exact congrArg (fun x => Ending.returned (.bool x)) b36 | exact congrArg (fun x => Ending.returned (.bool x)) b37, (alloc_below _ _).trans ((alloc_below _ _).mono (by simp))⟩
                · have d33 : decide (r.k = 4) = false := decide_eq_false h33
                  have b33 : (r.k == 4) = false := by simpa using h33
                  by_cases h34 : r.k = 5
                  · have d34 : decide (r.k = 5) = true := decide_eq_true h34
                    by_cases h35 : r.y = 0
                    · have d35 : decide (r.y = 0) = true := decide_eq_true h35
                      by_cases h36 : r.v = 0
                      · have d36 : decide (r.v = 0) = true := decide_eq_true h36
                        have hv : Psp.valid r clients = true := decide_eq_true (by omega)
                        go_wp2_with fail
                        go_ret
                        exact ⟨by rw [hv]; first | rfl | exact congrArg (fun x => Ending.returned (.bool x)) b30 | exact congrArg (fun x => Ending.returned (.bool x)) b31 | exact congrArg (fun x => Ending.returned (.bool x)) b32 | exact congrArg (fun x => Ending.returned (.bool x)) b33 | exact congrArg (fun x => Ending.returned (.bool x)) b34 | exact congrArg (fun x => Ending.returned (.bool x)) b35 | exact congrArg (fun x => Ending.returned (.bool x)) b36 | exact congrArg (fun x => Ending.returned (.bool x)) b37, (alloc_below _ _).trans ((alloc_below _ _).mono (by simp))⟩
                      · have d36 : decide (r.v = 0) = false := decide_eq_false h36
                        have b36 : (r.v == 0) = false := by simpa using h36
                        have hv : Psp.valid r clients = false := decide_eq_false (by omega)
                        go_wp2_with fail
                        go_ret
                        exact ⟨by rw [hv]; first | rfl | exact congrArg (fun x => Ending.returned (.bool x)) b30 | exact congrArg (fun x => Ending.returned (.bool x)) b31 | exact congrArg (fun x => Ending.returned (.bool x)) b32 | exact congrArg (fun x => Ending.returned (.bool x)) b33 | exact congrArg (fun x => Ending.returned (.bool x)) b34 | exact congrArg (fun x => Ending.returned (.bool x)) b35 | exact congrArg (fun x => Ending.returned (.bool x)) b36 | exact congrArg (fun x => Ending.returned (.bool x)) b37, (alloc_below _ _).trans ((alloc_below _ _).mono (by simp))⟩
                    · have d35 : decide (r.y = 0) = false := decide_eq_false h35
                      have b35 : (r.y == 0) = false := by simpa using h35
                      have hv : Psp.valid r clients = false := decide_eq_false (by omega)
                      go_wp2_with fail
                      go_ret
                      exact ⟨by rw [hv]; first | rfl | exact congrArg (fun x => Ending.returned (.bool x)) b30 | exact congrArg (fun x => Ending.returned (.bool x)) b31 | exact congrArg (fun x => Ending.returned (.bool x)) b32 | exact congrArg (fun x => Ending.returned (.bool x)) b33 | exact congrArg (fun x => Ending.returned (.bool x)) b34 | exact congrArg (fun x => Ending.returned (.bool x)) b35 | exact congrArg (fun x => Ending.returned (.bool x)) b36 | exact congrArg (fun x => Ending.returned (.bool x)) b37, (alloc_below _ _).trans ((alloc_below _ _).mono (by simp))⟩
                  · have d34 : decide (r.k = 5) = false := decide_eq_false h34
                    have b34 : (r.k == 5) = false := by simpa using h34
                    have hv : Psp.valid r clients = false := decide_eq_false (by omega)
                    go_wp2_with fail
                    go_ret
                    exact ⟨by rw [hv]; first | rfl | exact congrArg (fun x => Ending.returned (.bool x)) b30 | exact congrArg (fun x => Ending.returned (.bool x)) b31 | exact congrArg (fun x => Ending.returned (.bool x)) b32 | exact congrArg (fun x => Ending.returned (.bool x)) b33 | exact congrArg (fun x => Ending.returned (.bool x)) b34 | exact congrArg (fun x => Ending.returned (.bool x)) b35 | exact congrArg (fun x => Ending.returned (.bool x)) b36 | exact congrArg (fun x => Ending.returned (.bool x)) b37, (alloc_below _ _).trans ((alloc_below _ _).mono (by simp))⟩
end Go.Proofs.YtipmjleohadoeaaGreat

end

section
/- The reference's notary: two rows. -/
namespace Go.Proofs.YtipmjleohadoeaaGreat
open Go.RowKit
set_option linter.unusedVariables false

set_option maxRecDepth 100000 in
theorem strOf_ne {a b : List UInt8} (h : strOf a ≠ strOf b) : ((strOf a).toList == (strOf b).toList) = false := by
  have e : ∀ c : List UInt8, (strOf c).toList = c := fun c => by
    have := ByteArray.toList_loop_eq (strOf c) (strOf c).size 0 [] (by omega) (by omega)
    unfold ByteArray.toList
    rw [this, strOf_list]; rfl
  rw [e, e]
  simpa using fun h' => h (by rw [h'])
set_option maxRecDepth 100000 in
theorem num_hit : ∀ {l : List Key} {k : Nat} {x : Key}, (∀ j, j < k → l[j]? ≠ some x) → l[k]? = some x → x ∈ l ∧ l.idxOf x = k
  | [], k, x, _, h => by simp at h
  | y :: l, 0, x, _, h => by
    simp at h; subst h; simp
  | y :: l, k + 1, x, h0, h => by
    have hy : y ≠ x := by have := h0 0 (by omega); simpa using this
    obtain ⟨h1, h2⟩ := num_hit (l := l) (k := k) (x := x) (fun j hj => by simpa using h0 (j + 1) (by omega)) (by simpa using h)
    refine ⟨List.mem_cons_of_mem _ h1, ?_⟩
    have hb : (y == x) = false := by simpa using hy
    simp [List.idxOf_cons, hb, h2]
set_option maxRecDepth 100000 in
theorem numk_end {l : List Key} {x : Key} (h : ∀ j, j < l.length → l[j]? ≠ some x) : x ∉ l := by
  intro hx
  obtain ⟨j, hj, e⟩ := List.mem_iff_getElem.1 hx
  exact h j hj (by rw [List.getElem?_eq_getElem hj, e])

/-- The reference's notary: its block g, and all blocks that it may write (S). -/
structure Ntr (w : World) (S : Nat → Prop) (g : Nat) (l : List Key) : Prop where
  ex : ∃ vp vt, w.heap[g]? = some (.cells #[vp, vt] 29 (0, 0)) ∧ w.ownsRow 0 3 1 vp l.length (l.map fun k => .int .i64 k.1) ∧ w.ownsRow 0 9 1 vt l.length (l.map fun k => .string (strOf k.2)) ∧
    S g ∧ (∀ b, vp.ownBlock = some b → S b ∧ b ≠ g) ∧ (∀ b, vt.ownBlock = some b → S b ∧ b ≠ g ∧ vp.ownBlock ≠ some b)
set_option maxRecDepth 100000 in
theorem own_keep0 {w w' : World} {e : TypeId} {k n : Nat} {v : Value} {xs : List Value} (h : w.ownsRow 0 e k v n xs) (hk : ∀ b, v.ownBlock = some b → w'.heap[b]? = w.heap[b]?) : w'.ownsRow 0 e k v n xs := by
  refine ⟨h.1, h.2.imp id ?_⟩
  rintro ⟨g, cap, cur, rfl, h1, h2, h3⟩
  exact ⟨g, cap, cur, rfl, h1, (hk g rfl).trans h2, h3⟩
set_option maxRecDepth 100000 in
theorem own_lt0 {w : World} {e : TypeId} {k n : Nat} {v : Value} {xs : List Value} (h : w.ownsRow 0 e k v n xs) {b : Nat} (hb : v.ownBlock = some b) : b < w.heap.size := by
  rcases h.2 with ⟨rfl, _⟩ | ⟨g, cap, cur, rfl, h1, h2, h3⟩
  · cases hb
  · injection hb with hb; subst hb; exact (Array.getElem?_eq_some_iff.1 h2).1
set_option maxRecDepth 100000 in
theorem Ntr.keep {w w' : World} {S : Nat → Prop} {g : Nat} {l : List Key} (h : Ntr w S g l) (hk : ∀ b, S b → b < w.heap.size → w'.heap[b]? = w.heap[b]?) : Ntr w' S g l := by
  obtain ⟨vp, vt, h1, h2, h3, h4, h5, h6⟩ := h.ex
  exact ⟨vp, vt, (hk g h4 (Array.getElem?_eq_some_iff.1 h1).1).trans h1, own_keep0 h2 fun b hb => hk b (h5 b hb).1 (own_lt0 h2 hb), own_keep0 h3 fun b hb => hk b (h6 b hb).1 (own_lt0 h3 hb), h4, h5, h6⟩
set_option maxRecDepth 100000 in
theorem Ntr.below {w w' : World} {S : Nat → Prop} {g : Nat} {l : List Key} (h : Ntr w S g l) (hb : Below w.heap.size w w') : Ntr w' S g l := h.keep fun b _ hlt => hb.block b hlt
set_option maxRecDepth 100000 in
theorem Ntr.fp {w w' : World} {S S' : Nat → Prop} {g : Nat} {l : List Key} (h : Ntr w S g l) (hf : Fp S' w w') (hd : ∀ b, S b → ¬ S' b) : Ntr w' S g l := h.keep fun b hS hlt => hf.block b hlt (hd b hS)
set_option maxRecDepth 100000 in
theorem Ntr.slices {w : World} {S : Nat → Prop} {g : Nat} {l : List Key} (h : Ntr w S g l) : ∃ A B c d, w.cell? ⟨g, 0, none⟩ = some (.slice A l.length c) ∧ w.cell? ⟨g, 1, none⟩ = some (.slice B l.length d) ∧ l.length ≤ c ∧ l.length ≤ d ∧ c ≤ maxLen ∧ d ≤ maxLen ∧
    ∀ j k, l[j]? = some k → ∃ b1 b2, A = some ⟨b1, 0, none⟩ ∧ B = some ⟨b2, 0, none⟩ ∧ w.cell? ⟨b1, j, none⟩ = some (.int .i64 k.1) ∧ w.cell? ⟨b2, j, none⟩ = some (.string (strOf k.2)) := by
  obtain ⟨vp, vt, h1, h2, h3, h4, h5, h6⟩ := h.ex
  obtain ⟨A, c, rfl, _⟩ := own_slice h2
  obtain ⟨B, d, rfl, _⟩ := own_slice h3
  obtain ⟨_, A', c', e1, q1, q2, q3⟩ := Rd.of_own h2
  obtain ⟨_, B', d', e2, r1, r2, r3⟩ := Rd.of_own h3
  injection e1 with e11 _ e12
  injection e2 with e21 _ e22
  subst e11 e12 e21 e22
  refine ⟨A, B, c, d, (cell_of_row w g 0 _ _ _ h1).trans rfl, (cell_of_row w g 1 _ _ _ h1).trans rfl, q1, r1, q2, r2, fun j k hk => ?_⟩
  have hj : 0 < l.length := by have := (List.getElem?_eq_some_iff.1 hk).1; omega
  have f1 : ∃ b1, A = some ⟨b1, 0, none⟩ := by
    rcases h2.2 with ⟨e, e0⟩ | ⟨b, cap, cur, e, _⟩
    · omega
    · injection e with e; exact ⟨b, e⟩
  have f2 : ∃ b1, B = some ⟨b1, 0, none⟩ := by
    rcases h3.2 with ⟨e, e0⟩ | ⟨b, cap, cur, e, _⟩
    · omega
    · injection e with e; exact ⟨b, e⟩
  obtain ⟨b1, rfl⟩ := f1
  obtain ⟨b2, rfl⟩ := f2
  obtain ⟨b1', o1, e3, _, hl1⟩ := q3 hj
  obtain ⟨b2', o2, e4, _, hl2⟩ := r3 hj
  injection e3 with e3
  injection e3 with e31 e32
  injection e4 with e4
  injection e4 with e41 e42
  subst e31 e32 e41 e42
  have g1 := hl1 j (.int .i64 k.1) (by rw [List.getElem?_map, hk]; rfl)
  have g2 := hl2 j (.string (strOf k.2)) (by rw [List.getElem?_map, hk]; rfl)
  rw [Nat.zero_add] at g1 g2
  exact ⟨b1, b2, rfl, rfl, g1, g2⟩

set_option maxRecDepth 100000 in
set_option maxHeartbeats 1000000 in
theorem nr_find (S : Nat → Prop) (g : Nat) (l : List Key) (p : Int) (bs : List UInt8) (v : Value) (w : World) (P : Nat → Prop) (hN : Ntr w S g l) (hv : RdP w P 1 v bs.length (bs.map bv)) :
    Calls Tryz.prog 101 #[.pointer (some ⟨g, 0, none⟩), .int .i64 p, v] w fun e w' => e = .returned (.tuple #[.int .i64 (num l (p, bs)), .bool (decide ((p, bs) ∈ l))]) ∧ w' = w := by
  obtain ⟨A, B, c, d, c0, c1, q1, q2, q3, q4, hcell⟩ := hN.slices
  unfold maxLen at q3 q4
  obtain ⟨n, hn⟩ : ∃ n, l.length = n := ⟨_, rfl⟩
  rw [hn] at c0 c1 q1 q2
  have Hn := Lib.hid hn
  have HV := Lib.hid hv
  have Hcell := Lib.hid hcell
  clear hN hv hn hcell
  go_enter Tryz.func101, Tryz.ntmps101
  go_wp2_with (refine list_val rfl (.string (strOf bs)) (exec_str (.tmp 10) rfl _ bs HV.out rfl) ?_)
  go_loopw [9] (fun i wr => ∃ k : Nat, i = .int .i64 (k : Int) ∧ k ≤ n ∧ Hid (∀ j, j < k → l[j]? ≠ some (p, bs)) ∧ wr = w) (fun i _ => n - (intOf i).toNat)
  case atStart => exact ⟨0, rfl, Nat.zero_le _, Lib.hid (fun j hj => by omega), rfl⟩
  case round =>
    obtain ⟨k, rfl, hk, H0, rfl⟩ := hrel
    by_cases hlt : k < n
    · obtain ⟨x, hx⟩ : ∃ x, l[k]? = some x := ⟨l[k]'(by rw [Hn.out]; exact hlt), List.getElem?_eq_getElem (by rw [Hn.out]; exact hlt)⟩
      obtain ⟨b1, b2, rfl, rfl, g1, g2⟩ := Hcell.out k x hx
      have Hx := Lib.hid hx
      clear hx
      by_cases h1 : x.1 = p
      · have e1 : (x.1 == p) = true := by simpa using h1
        by_cases h2 : strOf x.2 = strOf bs
        · have e2 : ((strOf x.2).toList == (strOf bs).toList) = true := by rw [h2]; simp
          have hxe : x = (p, bs) := Prod.ext h1 (strOf_inj h2)
          obtain ⟨m1, m2⟩ := num_hit H0.out (by rw [Hx.out, hxe])
          have e3 : num l (p, bs) = (k : Int) + 1 := by simp [num, m1, m2]
          have Hm := Lib.hid (And.intro m1 e3)
          clear hxe m1 m2 h1 h2 e3
          go_wp2_with fail
          go_ret2
          exact ⟨by rw [Hm.out.2, decide_eq_true Hm.out.1]; rfl, by first | rfl | trivial⟩
        · have e2 : ((strOf x.2).toList == (strOf bs).toList) = false := strOf_ne h2
          have Hne : Hid (some x ≠ some (p, bs)) := Lib.hid (fun h => h2 (by injection h with h; rw [h]))
          clear h1 h2
          go_wp2_with fail
          go_roundw
          case rel => exact ⟨k + 1, by go_num, by omega, Lib.hid (fun j hj => by
            by_cases hjk : j = k
            · subst hjk; rw [Hx.out]; exact Hne.out
            · exact H0.out j (by omega)), by first | rfl | trivial⟩
          case measure => simp [intOf]; omega
      · have e1 : (x.1 == p) = false := by simpa using h1
        have Hne : Hid (some x ≠ some (p, bs)) := Lib.hid (fun h => h1 (by injection h with h; rw [h]))
        clear h1
        go_wp2_with fail
        go_roundw
        case rel => exact ⟨k + 1, by go_num, by omega, Lib.hid (fun j hj => by
          by_cases hjk : j = k
          · subst hjk; rw [Hx.out]; exact Hne.out
          · exact H0.out j (by omega)), by first | rfl | trivial⟩
        case measure => simp [intOf]; omega
    · have d1 : decide ((k : Int) < (n : Int)) = false := by simp; omega
      go_wp2_with fail
      go_ret2
      have hm := numk_end (l := l) (x := (p, bs)) (fun j hj => H0.out j (by rw [Hn.out] at hj; omega))
      exact ⟨by simp [num, hm], rfl⟩
end Go.Proofs.YtipmjleohadoeaaGreat

end

section
/- The reference's notary: Seal. -/
namespace Go.Proofs.YtipmjleohadoeaaGreat
open Go.RowKit
set_option linter.unusedVariables false

theorem step_val {P : Program} {w : World} {ops : Array Oper} {o : Oper} {a : Act} {K : Act → World → Prop} {Q : Exit → Act → World → Prop} {E : Prop} (hw : Region.wanted o (yielded ops a.tmps) = true) (v : Value)
    (hr : (execOp a.eval o).run P w = .ok (.value v) w) (h : K (a.put o.dst v) w) : if Region.wanted o (yielded ops a.tmps) = true then Oper.wp P o a w K Q else E := by
  rw [if_pos hw]
  unfold Oper.wp
  rw [hr]
  exact h
theorem str_info : (Tryz.prog.info? 9).map (fun i => (i.zero, i.size, i.bytes)) = some (some (.string ByteArray.empty), 1, 16) := by kernel_rfl
theorem intE : Elem Tryz.prog 22 3 1 8 := ⟨Tryz.underlying22, by kernel_rfl, by decide⟩
/-- What Seal leaves. -/
theorem nr_fin {S : Nat → Prop} {g : Nat} {l : List Key} {p : Int} {bs : List UInt8} {w w4 w6 : World} {A3 B : Option Addr} {c3 d gg cap : Nat}
    (h4 : S g) (h6 : ∀ b, (Value.slice B l.length d).ownBlock = some b → S b ∧ b ≠ g) (hz : w.heap.size < w4.heap.size) (hgl : g < w.heap.size)
    (ha3 : ∀ b, (Value.slice A3 (l.length + 1) c3).ownBlock = some b → (S b ∨ (w.heap.size ≤ b ∧ b < w4.heap.size)) ∧ b ≠ g ∧ (Value.slice B l.length d).ownBlock ≠ some b)
    (ho3 : w4.ownsRow 0 3 1 (.slice A3 (l.length + 1) c3) (l.length + 1) (l.map (fun k => Value.int .i64 k.1) ++ [.int .i64 p])) (hf : Fp S w w4)
    (hgw : w6.heap[g]? = some (.cells #[.slice A3 (l.length + 1) c3, .slice B l.length d] 29 (0, 0)))
    (hg6 : (w4.drew.alloc (.cells #[.string (strOf bs)] 9)).grownBy w6 (Value.slice B l.length d).ownBlock)
    (ho6 : w6.ownsRow 0 9 1 (.slice (some ⟨gg, 0, none⟩) (l.length + 1) cap) (l.length + 1) (l.map (fun k => Value.string (strOf k.2)) ++ [.string (strOf bs)]))
    (hat : (Value.slice B l.length d).ownBlock = some gg ∨ gg = w4.heap.size + 1) (hlt : gg < w6.heap.size) :
    Ntr (w6.setCell ⟨g, 1, none⟩ (.slice (some ⟨gg, 0, none⟩) (l.length + 1) cap)) (fun b => S b ∨ (w.heap.size ≤ b ∧ b < (w6.setCell ⟨g, 1, none⟩ (.slice (some ⟨gg, 0, none⟩) (l.length + 1) cap)).heap.size)) g (l ++ [(p, bs)]) ∧ Fp S w (w6.setCell ⟨g, 1, none⟩ (.slice (some ⟨gg, 0, none⟩) (l.length + 1) cap)) := by
  have hs7 : (w6.setCell ⟨g, 1, none⟩ (.slice (some ⟨gg, 0, none⟩) (l.length + 1) cap)).heap.size = w6.heap.size := by simp [World.setCell]
  have hz6 : w4.heap.size + 1 ≤ w6.heap.size := by have := hg6.size; simpa using this
  have hggne : gg ≠ g := by
    rcases hat with h | h
    · exact (h6 gg h).2
    · have := hf.size; omega
  refine ⟨⟨_, _, heap_setCell_same w6 g 1 _ _ (.slice (some ⟨gg, 0, none⟩) (l.length + 1) cap) hgw, ?_, ?_, Or.inl h4, ?_, ?_⟩, ?_⟩
  · have := own_keep0 (w' := w6.setCell ⟨g, 1, none⟩ (.slice (some ⟨gg, 0, none⟩) (l.length + 1) cap)) ho3 fun b hb => by
      rw [Below.heap_setCell w6 _ _ b (fun he => (ha3 b hb).2.1 he), hg6.block b (by have := own_lt0 ho3 hb; simp; omega) (fun he => (ha3 b hb).2.2 he.symm)]
      exact (alloc_below w4.drew _).block b (own_lt0 ho3 hb)
    simpa using this
  · have := own_keep0 (w' := w6.setCell ⟨g, 1, none⟩ (.slice (some ⟨gg, 0, none⟩) (l.length + 1) cap)) ho6 fun b hb => Below.heap_setCell w6 _ _ b (fun he => hggne (by injection hb with hb; exact hb.trans he))
    simpa using this
  · intro b hb
    obtain ⟨q1, q2, _⟩ := ha3 b hb
    refine ⟨?_, q2⟩
    rcases q1 with q | q
    · exact Or.inl q
    · exact Or.inr ⟨q.1, by rw [hs7]; omega⟩
  · intro b hb
    injection hb with hb
    simp only at hb
    subst hb
    refine ⟨?_, hggne, fun he => ?_⟩
    · rcases hat with h | h
      · exact Or.inl (h6 _ h).1
      · exact Or.inr ⟨by omega, by rw [hs7]; exact hlt⟩
    · obtain ⟨_, _, q3⟩ := ha3 _ he
      rcases hat with h | h
      · exact q3 h
      · have := own_lt0 ho3 he; omega
  · exact (((hf.drew).alloc _).grown hg6 (fun k hk => Or.inl (h6 k hk).1)).setCell (p := ⟨g, 1, none⟩) (Or.inl h4) _

set_option maxRecDepth 100000 in
set_option maxHeartbeats 4000000 in
theorem nr_seal (S : Nat → Prop) (g : Nat) (l : List Key) (p : Int) (bs : List UInt8) (v : Value) (w : World) (P : Nat → Prop) (hN : Ntr w S g l) (hl : l.length < 1099511627776) (hv : RdP w P 1 v bs.length (bs.map bv)) (hP : ∀ b, P b → ¬ S b) :
    Calls Tryz.prog 72 #[.pointer (some ⟨g, 0, none⟩), .int .i64 p, v] w fun e w' => e = .returned (.int .i64 (sealN l (p, bs))) ∧ Ntr w' (fun b => S b ∨ (w.heap.size ≤ b ∧ b < w'.heap.size)) g (sealL l (p, bs)) ∧ Fp S w w' := by
  have HN := Lib.hid hN
  have HV := Lib.hid hv
  by_cases hm : (p, bs) ∈ l
  · have e1 : sealN l (p, bs) = num l (p, bs) := by simp [sealN, num, hm]
    have e2 : sealL l (p, bs) = l := by simp [sealL, hm]
    have hd := decide_eq_true hm
    rw [e1, e2]
    clear hN hv e1 e2
    go_enter Tryz.func72, Tryz.ntmps72
    go_wp2_with fail
    refine (nr_find S g l p bs v w P HN.out HV.out).mono ?_
    rw [hd]
    rintro e w' ⟨rfl, rfl⟩
    go_wp2_with fail
    go_ret
    refine ⟨rfl, ?_, Fp.refl _ _⟩
    obtain ⟨vp, vt, h1, h2, h3, h4, h5, h6⟩ := HN.out.ex
    exact ⟨vp, vt, h1, h2, h3, Or.inl h4, fun b hb => ⟨Or.inl (h5 b hb).1, (h5 b hb).2⟩, fun b hb => ⟨Or.inl (h6 b hb).1, (h6 b hb).2⟩⟩
  · have e1 : sealN l (p, bs) = (l.length : Int) + 1 := by simp [sealN, hm]
    have e2 : sealL l (p, bs) = l ++ [(p, bs)] := by simp [sealL, hm]
    have hd := decide_eq_false hm
    rw [e1, e2]
    clear e1 e2
    obtain ⟨vp, vt, h1, h2, h3, h4, h5, h6⟩ := hN.ex
    obtain ⟨A, c, rfl, _, _, _⟩ := own_slice h2
    obtain ⟨B, d, rfl, _, _, _⟩ := own_slice h3
    have hgl : g < w.heap.size := (Array.getElem?_eq_some_iff.1 h1).1
    have c0 : w.cell? ⟨g, 0, none⟩ = some (.slice A l.length c) := (cell_of_row w g 0 _ _ _ h1).trans rfl
    have f0 := frozen_of_row w g 0 _ _ h1
    have H1 := Lib.hid h1
    have H2 := Lib.hid h2
    have H3 := Lib.hid h3
    have H4 := Lib.hid h4
    have H5 := Lib.hid h5
    have H6 := Lib.hid h6
    clear hN hv h1 h2 h3 h4 h5 h6
    go_enter Tryz.func72, Tryz.ntmps72
    go_wp2_with fail
    refine (nr_find S g l p bs v w P HN.out HV.out).mono ?_
    rw [hd]
    rintro e w' ⟨rfl, rfl⟩
    have hown0 : (w'.alloc (.cells #[.int .i64 p] 3)).ownsRow 0 3 1 (.slice A l.length c) l.length (l.map fun k => .int .i64 k.1) := own_below H2.out (alloc_below _ _)
    go_wp2_with (at_builtin; refine wpList_app intE rfl _ _ rfl 0 (.slice A l.length c) l.length _ rfl hown0 _ (.slice (some ⟨w'.heap.size, 0, none⟩) 1 1) 1 [.int .i64 p] rfl (Rd.lit w' #[.int .i64 p] 3 1 rfl) (by simp [Value.oneCell']) (by unfold maxLen; omega) (by omega) (by omega) ?_; intro v1 w3 h3 hg3 hb3; obtain ⟨A3, c3, rfl, _, _, _⟩ := own_slice h3; have hgw := (hg3.block g (by simp; omega) (fun he => ((H5.out g he.symm).2 rfl))).trans (((alloc_below w' (.cells #[.int .i64 p] 3)).block g hgl).trans H1.out); have k0 := (cell_of_row w3 g 0 _ _ _ hgw).trans rfl; have z0 := frozen_of_row w3 g 0 _ _ hgw)
    clear c0 f0
    have f3 : Fp S w' w3 := ((Fp.refl S w').alloc _).grown hg3 (fun k hk => Or.inl (H5.out k hk).1)
    have hg4 := heap_setCell_same w3 g 0 _ _ (.slice A3 (l.length + 1) c3) hgw
    have hs4 : (w3.setCell ⟨g, 0, none⟩ (.slice A3 (l.length + 1) c3)).heap.size = w3.heap.size := by simp [World.setCell]
    have f4 : Fp S w' (w3.setCell ⟨g, 0, none⟩ (.slice A3 (l.length + 1) c3)) := f3.setCell (p := ⟨g, 0, none⟩) (Or.inl H4.out) _
    have hsz0 : (w'.alloc (.cells #[.int .i64 p] 3)).heap.size = w'.heap.size + 1 := by simp
    have hz3 : w'.heap.size < w3.heap.size := by have := hg3.size; rw [hsz0] at this; omega
    have hA3 : ∀ b, (Value.slice A3 (l.length + 1) c3).ownBlock = some b → (S b ∨ (w'.heap.size ≤ b ∧ b < w3.heap.size)) ∧ b ≠ g ∧ (Value.slice B l.length d).ownBlock ≠ some b := by
      intro b hb
      rcases hb3 with he | he
      · rw [he] at hb
        refine ⟨Or.inl (H5.out b hb).1, (H5.out b hb).2, fun hq => (H6.out b hq).2.2 hb⟩
      · have hlt := own_lt0 h3 hb
        rw [he, hsz0] at hb
        injection hb with hb
        refine ⟨Or.inr ⟨by omega, hlt⟩, by omega, fun hq => ?_⟩
        have := own_lt0 H3.out hq
        omega
    have hown3 : (w3.setCell ⟨g, 0, none⟩ (.slice A3 (l.length + 1) c3)).ownsRow 0 3 1 (.slice A3 (l.length + 1) c3) (l.length + 1) (l.map (fun k => Value.int .i64 k.1) ++ [.int .i64 p]) :=
      own_keep0 h3 fun b hb => Below.heap_setCell w3 _ _ b (fun he => (hA3 b hb).2.1 he)
    have hown4 : (w3.setCell ⟨g, 0, none⟩ (.slice A3 (l.length + 1) c3)).ownsRow 0 9 1 (.slice B l.length d) l.length (l.map fun k => .string (strOf k.2)) :=
      own_keep0 H3.out fun b hb => by
        have hlt := own_lt0 H3.out hb
        rw [Below.heap_setCell w3 _ _ b (fun he => (H6.out b hb).2.1 he), hg3.block b (by rw [hsz0]; omega) (fun he => (H6.out b hb).2.2 he.symm)]
        exact (alloc_below w' _).block b hlt
    have hrd4 := HV.out.fp f4 hP
    obtain ⟨w4, hw4⟩ : ∃ w4, w4 = w3.setCell ⟨g, 0, none⟩ (.slice A3 (l.length + 1) c3) := ⟨_, rfl⟩
    rw [← hw4] at hg4 hs4 f4 hown3 hown4 hrd4 ⊢
    have hg4' : w4.heap[g]? = some (.cells #[.slice A3 (l.length + 1) c3, .slice B l.length d] 29 (0, 0)) := hg4
    have HG4 := Lib.hid hg4'
    have HF4 := Lib.hid f4
    have HO3 := Lib.hid hown3
    have HO4 := Lib.hid hown4
    have HV4 := Lib.hid hrd4
    rw [← hs4] at hA3
    have HA3 := Lib.hid hA3
    have k1 : w4.cell? ⟨g, 1, none⟩ = some (.slice B l.length d) := (cell_of_row w4 g 1 _ _ _ hg4').trans rfl
    have k00 : w4.cell? ⟨g, 0, none⟩ = some (.slice A3 (l.length + 1) c3) := (cell_of_row w4 g 0 _ _ _ hg4').trans rfl
    have hgl4 : g < w4.heap.size := (Array.getElem?_eq_some_iff.1 hg4').1
    have hz4 : w'.heap.size < w4.heap.size := by rw [hs4]; exact hz3
    clear hs4 hg4 hg4' f4 f3 hown3 hown4 hrd4 hA3 hw4 h3 hg3 hb3 hgw k0 z0 hown0 hsz0 hz3
    obtain ⟨i0, hi0, hz0, hz1, hz2⟩ := info_parts str_info
    have hown5 : (w4.drew.alloc (.cells #[.string (strOf bs)] 9)).ownsRow 0 9 1 (.slice B l.length d) l.length (l.map fun k => .string (strOf k.2)) := own_below (show w4.drew.ownsRow _ _ _ _ _ _ from HO4.out) (alloc_below _ _)
    have z1 : w4.frozen? ⟨g, 1, none⟩ = false := frozen_of_row w4 g 1 _ _ HG4.out
    have hstr := run_str w4.drew v bs (show RdP w4.drew P 1 v bs.length (bs.map bv) from HV4.out)
    go_region_law (first
      | (refine step_val (by rfl) (.string (strOf bs)) (exec_str (.tmp 33) (by rfl) _ bs (show RdP w4.drew _ _ _ _ _ from HV4.out) (by rfl)) ?_)
      | (refine step_append_lies _ (by rfl) _ _ _ (by rfl) 0 9 i0 _ 1 16 Tryz.underlying27 hi0 hz0 hz1 hz2 rfl (by omega) (.slice B l.length d) l.length _ (by rfl) hown5 ⟨w4.heap.size, 0, none⟩ 1 1 [.string (strOf bs)] (by rfl) (by rfl) (World.news_of_block (cs := #[.string (strOf bs)]) (t := 9) (fr := (0, 0)) (heap_alloc_new w4.drew _)) (by simp [Value.oneCell'])
           (by omega) (by unfold maxLen; omega) (by omega) (by omega) (w4.heap.size + 1) (by simp) ?_; intro gg cap w6 h6 hg6 hat hlt'; have hgw := (hg6.block g (by simp; omega) (fun he => ((H6.out g he.symm).2.1 rfl))).trans (((alloc_below w4.drew (.cells #[.string (strOf bs)] 9)).block g hgl4).trans (show w4.drew.heap[g]? = _ from HG4.out)); have k2 : w6.cell? ⟨g, 0, none⟩ = some (.slice A3 (l.length + 1) c3) := (cell_of_row w6 g 0 _ _ _ hgw).trans rfl; have k3 : w6.cell? ⟨g, 1, none⟩ = some (.slice B l.length d) := (cell_of_row w6 g 1 _ _ _ hgw).trans rfl; have z3 := frozen_of_row w6 g 1 _ _ hgw))
    all_goals
      go_wp2_with fail
      go_ret
      obtain ⟨r1, r2⟩ := nr_fin H4.out (fun b hb => ⟨(H6.out b hb).1, (H6.out b hb).2.1⟩) hz4 hgl HA3.out HO3.out HF4.out hgw hg6 h6 hat hlt'
      exact ⟨by first | rfl | simp, r1, r2⟩
end Go.Proofs.YtipmjleohadoeaaGreat

end

section
/- Rows of votes: how they are read; Rising of both sides. -/
namespace Psp

/-- The numbers rise, above 'last', below n. -/
def upTo (n : Int) : Int → List Int → Bool
  | _, [] => true
  | last, x :: l => if x ≤ last ∨ n ≤ x then false else upTo n x l

def rising (l : List Int) (f : Int) : Bool := may f && (decide ((l.length : Int) = quorum f) && upTo (nodes f) (-1) l)

end Psp
namespace Go.Proofs.YtipmjleohadoeaaGreat
open Go.RowKit Go.ChangeShapes
set_option linter.unusedVariables false

theorem may_zero (f : Int) : (Psp.nodes f == 0) = !Psp.may f := by
  unfold Psp.nodes Psp.may
  by_cases h1 : 1 ≤ f <;> by_cases h2 : f ≤ 4 <;> simp [h1, h2]
  omega

end Go.Proofs.YtipmjleohadoeaaGreat

end
