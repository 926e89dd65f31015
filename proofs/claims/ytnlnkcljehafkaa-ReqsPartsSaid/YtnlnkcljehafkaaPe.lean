/- The walks of psephoskeep.Same on requests and votes, of Cert, Certs, Parts. Printed by gen_same2.py. -/
import Derived.Test.YtnlnkcljehafkaaPs
import Derived.Test.YtnlnkcljehafkaaSame
namespace Go.Proofs.Ytnlnkcljehafkaa
open Go.RowKit
set_option linter.unusedVariables false

theorem take_eq {α : Type} {l r : List α} {k : Nat} (hl : k < l.length) (hr : k < r.length) (h : l.take k = r.take k) (e : l[k] = r[k]) : l.take (k + 1) = r.take (k + 1) := by
  rw [List.take_succ_eq_append_getElem hl, List.take_succ_eq_append_getElem hr, h, e]
theorem eql_vote (a b : Psp.Vote) (w : World) : (binOp .eql 125 (.agg (vt a).toArray) (.agg (vt b).toArray)).run Try.prog w = .ok (.bool (decide (a = b))) w := by
  have h25 : Try.prog.stoodInHeld 125 = false := by kernel_rfl
  have he : a = b ↔ (a.n = b.n ∧ a.s = b.s) := by cases a; cases b; simp
  rw [run_eql_struct]
  simp [go_sem, h25, vt, iv]
  by_cases h1 : a.n = b.n
  · by_cases h2 : a.s = b.s <;> simp [*]
  · simp [*]
theorem neq_vote (a b : Psp.Vote) (w : World) : (binOp .neq 125 (.agg (vt a).toArray) (.agg (vt b).toArray)).run Try.prog w = .ok (.bool (!decide (a = b))) w := by
  have h := eql_vote a b w
  rw [run_eql_struct] at h
  rw [run_neq_struct]
  cases hr : (Op.equalIn 10000 125 (.agg (vt a).toArray) (.agg (vt b).toArray)).run Try.prog w with
  | ok x w' =>
    rw [hr] at h
    simp only [Result.andThen_ok] at h ⊢
    simp only [Result.ok.injEq, Value.bool.injEq] at h
    rw [h.1, h.2]
  | halt x w' => rw [hr] at h; simp [Result.andThen] at h
theorem exec_neq_vote {act : Act} {o : Oper} {w : World} (x y : Operand) (t : TypeId) (ho : o.op = .binOp .neq 125 x y t) (a b : Psp.Vote) (hx : act.eval x = .agg (vt a).toArray) (hy : act.eval y = .agg (vt b).toArray) :
    (execOp act.eval o).run Try.prog w = .ok (.value (.bool (!decide (a = b)))) w := by
  have hm : Try.prog.eqGuardType Try.prog.depth 125 = false := by kernel_rfl
  unfold execOp
  simp only [ho, hx, hy, Sem.run_bind, Sem.run_pure, run_eqGuard_agg w .neq 125 x y _ _ hm, Result.andThen_ok, neq_vote]

set_option maxRecDepth 100000 in
set_option maxHeartbeats 1000000 in
theorem same_R (x y : Value) (n m : Nat) (l r : List Psp.Req) (w : World) (P Q : Nat → Prop) (hx : RdP w P 6 x n (l.flatMap rq)) (hy : RdP w Q 6 y m (r.flatMap rq)) (hn : l.length = n) (hm : r.length = m) :
    Calls Try.prog 9 #[x, y] w fun e w' => e = .returned (.bool (decide (l = r))) ∧ ∃ k, w' = w.drewN k := by
  obtain ⟨hxl, A, c, rfl, hx1, hx2, hxc⟩ := hx.parts
  obtain ⟨hyl, A2, d, rfl, hy1, hy2, hyc⟩ := hy.parts
  have Hxc := Lib.hid hxc
  have Hyc := Lib.hid hyc
  have Hn := Lib.hid hn
  have Hm := Lib.hid hm
  by_cases hnm : n = m
  · subst hnm
    clear hxl hyl hxc hyc hn hm hx hy
    go_enter Try.func9, Try.ntmps9
    go_wp2_with fail
    go_loopw [5] (fun i wr => ∃ k : Nat, i = .int .i64 (k : Int) ∧ k ≤ n ∧ Hid (l.take k = r.take k) ∧ ∃ q, wr = w.drewN q) (fun i _ => n - (intOf i).toNat)
    case atStart => exact ⟨0, rfl, Nat.zero_le _, Lib.hid (by simp), 0, rfl⟩
    case round =>
      obtain ⟨k, rfl, hk, Heq, q, rfl⟩ := hrel
      by_cases hlt : k < n
      · obtain ⟨b1, o1, hA1, hP1, hb1, h1⟩ := Hxc.out (by omega)
        obtain ⟨b2, o2, hA2, hP2, hb2, h2⟩ := Hyc.out (by omega)
        subst hA1 hA2
        have hkl : k < l.length := by have := Hn.out; omega
        have hkr : k < r.length := by have := Hm.out; omega
        have r1 := range_elem (f := rq) (k := 6) (fun _ => rfl) h1 hkl
        have r2 := range_elem (f := rq) (k := 6) (fun _ => rfl) h2 hkr
        have hnx := fun e => take_eq hkl hkr Heq.out e
        obtain ⟨t1, ht1⟩ : ∃ r, l[k] = r := ⟨_, rfl⟩
        obtain ⟨t2, ht2⟩ : ∃ t, r[k] = t := ⟨_, rfl⟩
        have hne : t1 ≠ t2 → l ≠ r := fun hne e => by subst e; exact hne (ht1.symm.trans ht2)
        rw [ht1] at r1
        rw [ht2] at r2
        rw [ht1, ht2] at hnx
        have HQ1 : Hid (∀ w' : World, (∃ n, w' = (w.drewN q).drewN n) → w'.rangeAt b1 (o1 + k * 6) (rq t1)) := Lib.hid (by rintro w' ⟨n, rfl⟩; exact r1)
        have HQ2 : Hid (∀ w' : World, (∃ n, w' = (w.drewN q).drewN n) → w'.rangeAt b2 (o2 + k * 6) (rq t2)) := Lib.hid (by rintro w' ⟨n, rfl⟩; exact r2)
        have Hnx := Lib.hid hnx
        have Hne := Lib.hid hne
        clear r1 r2 ht1 ht2 h1 h2 hkl hkr hnx hne
        by_cases he : t1 = t2
        · have He := Lib.hid he
          clear he
          go_wp2_with fail
          refine wp_region_quiet_lit (by kernel_rfl) (by kernel_rfl) ?_
          repeat (first | (refine quiet_load rfl 26 (.tmp 19) rfl b1 (o1 + k * 6) rfl (rq t1) _ HQ1.out Try.underlying26 rfl sizeR ?_; intro K hK; go_simp; refine hK _ ?_; clear hK K) | (refine quiet_load rfl 26 (.tmp 23) rfl b2 (o2 + k * 6) rfl (rq t2) _ HQ2.out Try.underlying26 rfl sizeR ?_; intro K hK; go_simp; refine hK _ ?_; clear hK K) | (refine quiet_val rfl (.bool false) (fun w hC => (exec_neq_req (.tmp 20) (.tmp 24) _ rfl t1 t2 rfl rfl).trans (by simp [He.out])) ?_; intro K hK; go_simp; refine hK _ ?_; clear hK K) | go_big_quiet_step (fail))
          refine wpQuiet_nil ?_
          intro _ hw'
          obtain ⟨nq, hw''⟩ := hw'
          subst hw''
          go_wp2_with fail
          go_roundw
          case rel => exact ⟨k + 1, by go_num, by omega, Lib.hid (Hnx.out He.out), _, rfl⟩
          case measure => simp [intOf]; omega
        · have He := Lib.hid he
          clear he
          go_wp2_with fail
          refine wp_region_quiet_lit (by kernel_rfl) (by kernel_rfl) ?_
          repeat (first | (refine quiet_load rfl 26 (.tmp 19) rfl b1 (o1 + k * 6) rfl (rq t1) _ HQ1.out Try.underlying26 rfl sizeR ?_; intro K hK; go_simp; refine hK _ ?_; clear hK K) | (refine quiet_load rfl 26 (.tmp 23) rfl b2 (o2 + k * 6) rfl (rq t2) _ HQ2.out Try.underlying26 rfl sizeR ?_; intro K hK; go_simp; refine hK _ ?_; clear hK K) | (refine quiet_val rfl (.bool true) (fun w hC => (exec_neq_req (.tmp 20) (.tmp 24) _ rfl t1 t2 rfl rfl).trans (by simp [He.out])) ?_; intro K hK; go_simp; refine hK _ ?_; clear hK K) | go_big_quiet_step (fail))
          refine wpQuiet_nil ?_
          intro _ hw'
          obtain ⟨nq, hw''⟩ := hw'
          subst hw''
          go_wp2_with fail
          go_ret
          exact ⟨ret_bool (decide_eq_false (Hne.out He.out)).symm, _, World.drewN_drewN _ _ _⟩
      · go_wp2_with fail
        go_ret
        refine ⟨ret_bool (decide_eq_true ?_).symm, _, rfl⟩
        have h1 := Heq.out
        rwa [List.take_of_length_le (by rw [Hn.out]; omega), List.take_of_length_le (by rw [Hm.out]; omega)] at h1
  · have hne : ((n : Int) != (m : Int)) = true := by simp; omega
    have hf := Lib.hid (show decide (l = r) = false from decide_eq_false (fun h => by subst h; omega))
    clear hxl hyl hxc hyc hn hm hx hy
    go_enter Try.func9, Try.ntmps9
    go_wp2_with fail
    go_ret
    exact ⟨ret_bool hf.out.symm, 0, rfl⟩

end Go.Proofs.Ytnlnkcljehafkaa
