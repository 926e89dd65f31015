/- psephoskeep.Same on requests, where the lists are the same. -/
import Derived.Test.YtmbdailffhdonaaTold
import Derived.Test.YtmbdailffhdonaaOpenAct
namespace Go.Proofs.Ytmbdailffhdonaa
open Go.RowKit
set_option linter.unusedVariables false

set_option maxRecDepth 100000 in
set_option maxHeartbeats 2000000 in
theorem same_req (x y : Value) (l : List Psp.Req) (n : Nat) (w : World) (B C : Nat) (hn : l.length = n) (hx : Rd w B 6 x n (l.flatMap rq)) (hy : Rd w C 6 y n (l.flatMap rq)) :
    Calls Try.prog 17 #[x, y] w fun e w' => e = .returned (.bool true) ∧ ∃ k, w' = w.drewN k := by
  obtain ⟨hxl, A, c, rfl, hx1, hx2, hxc⟩ := hx
  obtain ⟨hyl, A2, d, rfl, hy1, hy2, hyc⟩ := hy
  unfold maxLen at hx2 hy2
  have Hxc := Lib.hid hxc
  have Hyc := Lib.hid hyc
  have Hn := Lib.hid hn
  clear hxl hyl hxc hyc hn
  go_enter Try.func17, Try.ntmps17
  go_wp2_with fail
  go_loopw [5] (fun i wr => ∃ k : Nat, i = .int .i64 (k : Int) ∧ k ≤ n ∧ ∃ q, wr = w.drewN q) (fun i _ => n - (intOf i).toNat)
  case atStart => exact ⟨0, rfl, Nat.zero_le _, 0, rfl⟩
  case round =>
    obtain ⟨k, rfl, hk, q, rfl⟩ := hrel
    by_cases hlt : k < n
    · obtain ⟨b1, o1, hA1, hb1, h1⟩ := Hxc.out (by omega)
      obtain ⟨b2, o2, hA2, hb2, h2⟩ := Hyc.out (by omega)
      subst hA1 hA2
      have hkl : k < l.length := by have := Hn.out; omega
      have r1 := reqs_range h1 hkl
      have r2 := reqs_range h2 hkl
      obtain ⟨r, hr⟩ : ∃ r, l[k] = r := ⟨_, rfl⟩
      rw [hr] at r1 r2
      have HQ1 : Hid (∀ w' : World, (∃ n, w' = (w.drewN q).drewN n) → w'.rangeAt b1 (o1 + k * 6) (rq r)) := Lib.hid (by rintro w' ⟨n, rfl⟩; exact r1)
      have HQ2 : Hid (∀ w' : World, (∃ n, w' = (w.drewN q).drewN n) → w'.rangeAt b2 (o2 + k * 6) (rq r)) := Lib.hid (by rintro w' ⟨n, rfl⟩; exact r2)
      clear r1 r2 hr h1 h2 hkl
      go_wp2_with fail
      refine wp_region_quiet_lit (by kernel_rfl) (by kernel_rfl) ?_
      repeat (first | (refine quiet_load rfl 25 (.tmp 19) rfl b1 (o1 + k * 6) rfl (rq r) _ HQ1.out Try.underlying25 rfl req_size ?_; intro K hK; go_simp; refine hK _ ?_; clear hK K) | (refine quiet_load rfl 25 (.tmp 23) rfl b2 (o2 + k * 6) rfl (rq r) _ HQ2.out Try.underlying25 rfl req_size ?_; intro K hK; go_simp; refine hK _ ?_; clear hK K) | (refine quiet_val rfl (.bool false) (fun w hC => (exec_neq_req (.tmp 20) (.tmp 24) _ rfl r r rfl rfl).trans (by simp)) ?_; intro K hK; go_simp; refine hK _ ?_; clear hK K) | go_big_quiet_step (fail))
      refine wpQuiet_nil ?_
      intro _ hw'
      obtain ⟨nq, hw''⟩ := hw'
      subst hw''
      go_wp2_with fail
      go_roundw
      case rel => exact ⟨k + 1, by go_num, by omega, _, rfl⟩
      case measure => simp [intOf]; omega
    · obtain rfl : k = n := by omega
      go_wp2_with fail
      go_ret
      exact ⟨rfl, _, rfl⟩
end Go.Proofs.Ytmbdailffhdonaa
