/- Package notary: New, Len, Find, Check, Seal. -/
import Derived.Test.YtnlnkcljehafkaaNt
namespace Go.Proofs.Ytnlnkcljehafkaa
open Go.RowKit Go.Maps
set_option linter.unusedVariables false

set_option maxRecDepth 100000 in
theorem nt_new (w : World) : Calls Try.prog 20 #[] w fun e w' => ∃ g bm, e = .returned (.pointer (some ⟨g, 0, none⟩)) ∧ Nt w' g bm [] ∧ Below w.heap.size w w' ∧ w.heap.size ≤ g ∧ w.heap.size ≤ bm := by
  have hmm := @run_makeMap Try.prog
  go_enter Try.func20, Try.ntmps20
  go_wp2_with fail
  go_ret
  have hb := (alloc_below w (.map #[] 0)).trans ((alloc_below (w.alloc (.map #[] 0)) (.cells #[.map (some w.heap.size)] 59)).mono (by simp))
  have hs : (w.alloc (.map #[] 0)).heap.size = w.heap.size + 1 := by simp
  refine ⟨w.heap.size + 1, w.heap.size, rfl, ⟨?_, ⟨.map [], (World.ownsMap_made w _ _ _).alloc _, rfl, fun k hk => ⟨rfl, rfl⟩⟩, List.nodup_nil, fun k hk => by cases hk⟩, hb, Nat.le_succ _, Nat.le_refl _⟩
  have := heap_alloc_new (w.alloc (.map #[] 0)) (.cells #[.map (some w.heap.size)] 59)
  rwa [hs] at this
set_option maxRecDepth 100000 in
theorem nt_cell {w : World} {g bm : Nat} {l : List Key} (h : Nt w g bm l) : w.cell? ⟨g, 0, none⟩ = some (.map (some bm)) ∧ w.frozen? ⟨g, 0, none⟩ = false := by
  have hc := h.cell
  constructor
  · simp [World.cell?, hc]
  · simp [World.frozen?, hc]
set_option maxRecDepth 100000 in
/-- The look-up, as a run. -/
theorem nt_look {w : World} {g bm : Nat} {l : List Key} (h : Nt w g bm l) {k : Key} (hk : KOk k) (w' : World) (hw : w'.heap[bm]? = w.heap[bm]?) :
    (Instr.lookup 57 (.map (some bm)) (kv k) true).run Try.prog w' = .ok (.tuple #[.int .i64 (num l k), .bool (decide (k ∈ l))]) w' := by
  obtain ⟨D, ⟨es, ck, q1, q2⟩, hs, hD⟩ := h.own
  have hown : w'.ownsMap Try.prog 66 (plainElem Try.prog 3) bm l.length D := ⟨es, ck, hw.trans q1, q2⟩
  obtain ⟨v, ps, hr, hv⟩ := hown.look_ok nt_law Try.underlying57 (zeroI w') (plainElem_int (H := Unit) Try.underlying3 (WalkArith.wf_i64 (n := 0) (by omega))) (key_of k hk)
  obtain ⟨c, rfl, hz, _⟩ := plainElem_int_inv Try.underlying3 hv
  rw [(hD k hk).2] at hz
  injection hz with hz _
  injection hz with hz
  injection hz with _ hz
  unfold num
  rw [hr, (hD k hk).1, ← hz]
set_option maxRecDepth 100000 in
theorem exec_look {a : Act} {o : Oper} {w : World} (x y : Operand) (ho : o.op = .lookup 57 x y true) {g bm : Nat} {l : List Key} {w0 : World} (h : Nt w0 g bm l) {k : Key} (hk : KOk k) (hw : w.heap[bm]? = w0.heap[bm]?)
    (hx : a.eval x = .map (some bm)) (hy : a.eval y = kv k) : (execOp a.eval o).run Try.prog w = .ok (.value (.tuple #[.int .i64 (num l k), .bool (decide (k ∈ l))])) w := by
  unfold execOp
  simp only [ho, hx, hy, Sem.run_bind, Sem.run_pure, nt_look h hk w hw, Result.andThen_ok]
set_option maxRecDepth 100000 in
theorem exec_look_b {a : Act} {o : Oper} {w : World} (x y : Operand) (ho : o.op = .lookup 57 x y true) {g bm : Nat} {l : List Key} {w0 : World} (h : Nt w0 g bm l) {k : Key} (hk : KOk k) (hw : w.heap[bm]? = w0.heap[bm]?)
    (hx : a.eval x = .map (some bm)) (hy : a.eval y = kv k) {b : Bool} (hb : decide (k ∈ l) = b) : (execOp a.eval o).run Try.prog w = .ok (.value (.tuple #[.int .i64 (num l k), .bool b])) w := by
  subst hb; exact exec_look x y ho h hk hw hx hy
set_option maxRecDepth 100000 in
theorem exec_str {a : Act} {o : Oper} {w : World} {P : Nat → Prop} (x : Operand) (ho : o.op = .convert 52 9 x) (v : Value) (l : List UInt8) (h : RdP w P 1 v l.length (l.map bv)) (hx : a.eval x = v) :
    (execOp a.eval o).run Try.prog w = .ok (.value (.string (strOf l))) w := by
  unfold execOp
  simp only [ho, hx, Sem.run_bind, Sem.run_pure, run_str w v l h, Result.andThen_ok]

set_option maxRecDepth 100000 in
theorem nt_find (g bm : Nat) (l : List Key) (p : Int) (bs : List UInt8) (v : Value) (w : World) (P : Nat → Prop) (hN : Nt w g bm l) (hk : KOk (p, bs)) (hv : RdP w P 1 v bs.length (bs.map bv)) :
    Calls Try.prog 52 #[.pointer (some ⟨g, 0, none⟩), .int .i64 p, v] w fun e w' => e = .returned (.tuple #[.int .i64 (num l (p, bs)), .bool (decide ((p, bs) ∈ l))]) ∧ ∃ q, w' = w.drewN q := by
  obtain ⟨c0, c0'⟩ := nt_cell hN
  obtain ⟨_, A, c, rfl, _, _, _⟩ := hv.parts
  have HN := Lib.hid hN
  have HV := Lib.hid hv
  have HK := Lib.hid hk
  clear hN hv hk c0'
  go_enter Try.func52, Try.ntmps52
  go_wp2_with fail
  refine wp_region_quiet_lit (by kernel_rfl) (by kernel_rfl) ?_
  repeat (first | (refine quiet_val rfl (.string (strOf bs)) (fun w' hC => by obtain ⟨n, rfl⟩ := hC; exact exec_str (.tmp 16) rfl _ bs HV.out rfl) ?_; intro K hK; go_simp; refine hK _ ?_; clear hK K) | (refine quiet_val rfl (.tuple #[.int .i64 (num l (p, bs)), .bool (decide ((p, bs) ∈ l))]) (fun w' hC => by obtain ⟨n, rfl⟩ := hC; exact exec_look (.tmp 14) (.tmp 18) rfl HN.out HK.out rfl rfl rfl) ?_; intro K hK; go_simp; refine hK _ ?_; clear hK K) | go_big_quiet_step (fail))
  refine wpQuiet_nil ?_
  intro _ hw'
  obtain ⟨nq, hw''⟩ := hw'
  subst hw''
  go_wp2_with fail
  go_ret2
  exact ⟨rfl, _, rfl⟩

set_option maxRecDepth 100000 in
theorem nt_check (g bm : Nat) (l : List Key) (p : Int) (bs : List UInt8) (s : Int) (v : Value) (w : World) (P : Nat → Prop) (hN : Nt w g bm l) (hk : KOk (p, bs)) (hv : RdP w P 1 v bs.length (bs.map bv)) :
    Calls Try.prog 38 #[.pointer (some ⟨g, 0, none⟩), .int .i64 p, v, .int .i64 s] w fun e w' => e = .returned (.bool (decide ((p, bs) ∈ l) && decide (num l (p, bs) = s))) ∧ ∃ q, w' = w.drewN q := by
  have HN := Lib.hid hN
  have HV := Lib.hid hv
  have HK := Lib.hid hk
  clear hN hv hk
  by_cases hm : (p, bs) ∈ l
  case' pos =>
    go_enter Try.func38, Try.ntmps38
    go_wp2_with fail
    refine (nt_find g bm l p bs v w P HN.out HK.out HV.out).mono ?_
    rintro e w' ⟨rfl, q, rfl⟩
    rw [decide_eq_true hm]
    go_wp2_with fail
    go_ret
    exact ⟨by simp [hm, Bool.beq_eq_decide_eq], q, rfl⟩
  case' neg =>
    go_enter Try.func38, Try.ntmps38
    go_wp2_with fail
    refine (nt_find g bm l p bs v w P HN.out HK.out HV.out).mono ?_
    rintro e w' ⟨rfl, q, rfl⟩
    rw [decide_eq_false hm]
    go_wp2_with fail
    go_ret
    exact ⟨by simp [hm], q, rfl⟩
set_option maxRecDepth 100000 in
theorem nt_ksize : (Try.prog.info? 66).map (·.size) = some 2 := by kernel_rfl

set_option maxRecDepth 100000 in
set_option maxHeartbeats 1000000 in
theorem nt_seal (g bm : Nat) (l : List Key) (p : Int) (bs : List UInt8) (v : Value) (w : World) (P : Nat → Prop) (hN : Nt w g bm l) (hk : KOk (p, bs)) (hl : l.length < 1099511627776) (hv : RdP w P 1 v bs.length (bs.map bv)) :
    Calls Try.prog 28 #[.pointer (some ⟨g, 0, none⟩), .int .i64 p, v] w fun e w' => e = .returned (.int .i64 (sealN l (p, bs))) ∧ Nt w' g bm (sealL l (p, bs)) ∧ Fp (fun b => b = bm) w w' := by
  have HN := Lib.hid hN
  have HV := Lib.hid hv
  have HK := Lib.hid hk
  clear hN hv hk
  go_enter Try.func28, Try.ntmps28
  go_wp2_with (first | (refine list_val rfl (.string (strOf bs)) (exec_str (.tmp 12) rfl _ bs HV.out rfl) ?_) | (refine list_store_new rfl 66 (.tmp 7) (.tmp 14) rfl _ _ [.int .i64 p, .string (strOf bs)] rfl rfl rfl nt_ksize (by simp [Value.oneCell']) ?_; intro w1 hb1 hr1 hs1))
  have HN1 := Lib.hid (HN.out.below hb1)
  have HR1 : Hid (∀ w' : World, (∃ n, w' = w1.drewN n) → w'.rangeAt w.heap.size 0 [.int .i64 p, .string (strOf bs)]) := Lib.hid (by rintro w' ⟨n, rfl⟩; exact hr1)
  have Hr1 := Lib.hid hr1
  have HB1 := Lib.hid hb1
  obtain ⟨c0, c0'⟩ := nt_cell HN1.out
  clear hb1 hr1 hs1 c0'
  go_frame
  by_cases hm : (p, bs) ∈ l
  case' pos =>
    have hd := decide_eq_true hm
    refine wp_region_quiet_lit (by kernel_rfl) (by kernel_rfl) ?_
    repeat (first | (refine quiet_load rfl 66 (.tmp 7) rfl w.heap.size 0 rfl _ _ HR1.out Try.underlying66 rfl nt_ksize ?_; intro K hK; go_simp; refine hK _ ?_; clear hK K) | (refine quiet_val rfl (.tuple #[.int .i64 (num l (p, bs)), .bool true]) (fun w' hC => by obtain ⟨n, rfl⟩ := hC; exact exec_look_b (.tmp 19) (.tmp 20) rfl HN1.out HK.out (by rfl) (by rfl) (by rfl) hd) ?_; intro K hK; go_simp; refine hK _ ?_; clear hK K) | go_big_quiet_step (fail))
    refine wpQuiet_nil ?_
    intro _ hw'
    obtain ⟨nq, hw''⟩ := hw'
    subst hw''
    go_wp2_with fail
    go_ret
    have e1 : sealN l (p, bs) = num l (p, bs) := by simp [sealN, num, hm]
    have e2 : sealL l (p, bs) = l := by simp [sealL, hm]
    rw [e1, e2]
    exact ⟨rfl, HN1.out.keep rfl rfl, (Fp.of_below HB1.out _).drewN nq⟩
  case' neg =>
    have hd := decide_eq_false hm
    refine wp_region_quiet_lit (by kernel_rfl) (by kernel_rfl) ?_
    repeat (first | (refine quiet_load rfl 66 (.tmp 7) rfl w.heap.size 0 rfl _ _ HR1.out Try.underlying66 rfl nt_ksize ?_; intro K hK; go_simp; refine hK _ ?_; clear hK K) | (refine quiet_val rfl (.tuple #[.int .i64 (num l (p, bs)), .bool false]) (fun w' hC => by obtain ⟨n, rfl⟩ := hC; exact exec_look_b (.tmp 19) (.tmp 20) rfl HN1.out HK.out (by rfl) (by rfl) (by rfl) hd) ?_; intro K hK; go_simp; refine hK _ ?_; clear hK K) | go_big_quiet_step (fail))
    refine wpQuiet_nil ?_
    intro _ hw'
    obtain ⟨nq, hw''⟩ := hw'
    subst hw''
    obtain ⟨D, hD, hs, hDk⟩ := HN1.out.own
    have HD := Lib.hid hD
    have Hs := Lib.hid hs
    have HDk := Lib.hid hDk
    clear hD hs hDk
    go_wp2_with (at_len; refine wpList_len_own _ rfl _ 57 rfl 66 3 Try.underlying57 _ bm _ D rfl (show (w1.drewN nq).ownsMap _ _ _ _ _ _ from HD.out) ?_; rw [Hs.out])
    have hr3 := Hr1.out
    have x0 : w1.cell? ⟨w.heap.size, 0, none⟩ = some (.int .i64 p) := by simpa using hr3 0 _ rfl
    have x1 : w1.cell? ⟨w.heap.size, 1, none⟩ = some (.string (strOf bs)) := by simpa using hr3 1 _ rfl
    clear hr3
    refine wp_region_still_tail_drew 6 (by kernel_rfl) (by kernel_rfl) ?_
    simp only [List.take_succ_cons, List.take_zero, List.drop_succ_cons, List.drop_zero]
    repeat still_step
    refine wpStill_nil ?_
    go_wp2_with (at_mapUpdate; refine wpList_mapUpdate_own _ rfl _ _ _ 57 rfl 66 3 nt_law Try.underlying57 _ bm l.length D rfl (show ((w1.drewN nq).drew).ownsMap _ _ _ _ _ _ from HD.out) (by unfold maxLen; omega) _ _ (kl (p, bs)) rfl rfl (key_of (p, bs) HK.out) (.lit (.int .i64 ((l.length : Int) + 1))) [] (plainElem_int Try.underlying3 (WalkArith.wf_i64 (by omega))) ?_; intro w2 hown2 hg2)
    go_ret
    have e1 : sealN l (p, bs) = (l.length : Int) + 1 := by simp [sealN, hm]
    have e2 : sealL l (p, bs) = l ++ [(p, bs)] := by simp [sealL, hm]
    rw [e1, e2]
    have hlt := HN1.out.lt
    have hne := HN1.out.ne
    refine ⟨rfl, HN1.out.add HK.out hm HD.out Hs.out HDk.out ?_ hown2, ?_⟩
    · exact hg2.block g hlt.1 (by simp; exact hne)
    · exact (((Fp.of_below HB1.out _).drewN nq).drew).grown hg2 (fun k hk => Or.inl (by injection hk with hk; exact hk.symm))
end Go.Proofs.Ytnlnkcljehafkaa
