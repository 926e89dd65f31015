/- The reference's form: has, blank. -/
import Derived.Test.YtljfoajhobambaaGb
import Derived.Laws.Strings
namespace Go.Proofs.Ytljfoajhobambaa
open Go.RowKit
set_option linter.unusedVariables false
set_option linter.unusedSimpArgs false

def hasB (s : ByteArray) (c : UInt8) : Bool := s.data.toList.contains c
theorem has_step {s : ByteArray} {c : UInt8} {n : Nat} (hn : s.size = n) (h : ∀ j, j < n → s.data.toList.getD j 0 ≠ c) : hasB s c = false := by
  unfold hasB
  rw [Bool.eq_false_iff]
  intro hc
  obtain ⟨j, hj, he⟩ := List.getElem_of_mem (List.contains_iff_mem.1 hc)
  have hj' : j < n := by rw [← hn]; simpa using hj
  refine h j hj' ?_
  rw [List.getD_eq_getElem?_getD, List.getElem?_eq_getElem hj]
  exact he
set_option maxRecDepth 100000 in
set_option maxHeartbeats 1000000 in
theorem has_any (s : ByteArray) (c : UInt8) (n : Nat) (w : World) (hn : s.size = n) (h9 : n ≤ 9) :
    Calls Try.prog 122 #[.string s, .int .u8 (c.toNat : Int)] w fun e w' => e = .returned (.bool (hasB s c)) ∧ w = w' := by
  go_enter Try.func122, Try.ntmps122
  go_wp2_with fail
  go_loopw [5] (fun i wr => ∃ k : Nat, i = .int .i64 (k : Int) ∧ k ≤ n ∧ wr = w ∧ Hid (∀ j, j < k → s.data.toList.getD j 0 ≠ c)) (fun i _ => n - (intOf i).toNat)
  case atStart => exact ⟨0, rfl, Nat.zero_le _, rfl, Lib.hid fun j h => by omega⟩
  case round =>
    obtain ⟨k, rfl, hk, rfl, HI⟩ := hrel
    by_cases hlt : k < n
    · have hks : k < s.size := by omega
      have hg : s.data.toList.getD k 0 = s[k] := by
        rw [List.getD_eq_getElem?_getD, List.getElem?_eq_getElem (by simpa using hks)]; rfl
      by_cases he : s[k] = c
      · have e1 : (((s[k]'hks).toNat : Int) == (c.toNat : Int)) = true := by rw [he]; simp
        have Hf : Hid (hasB s c = true) := Lib.hid (List.contains_iff_mem.2 (by rw [← he, ← hg, List.getD_eq_getElem?_getD, List.getElem?_eq_getElem (by simpa using hks)]; exact List.getElem_mem _))
        clear HI hg he
        go_wp2_with fail
        go_ret
        exact ⟨by rw [Hf.out]; rfl, rfl⟩
      · have e1 : (((s[k]'hks).toNat : Int) == (c.toNat : Int)) = false := by
          rw [beq_eq_false_iff_ne]; intro h; exact he (UInt8.toNat_inj.1 (by omega))
        have HI2 : Hid (∀ j, j < k + 1 → s.data.toList.getD j 0 ≠ c) := Lib.hid fun j hj => by
          by_cases hjk : j = k
          · subst hjk; rw [hg]; exact he
          · exact HI.out j (by omega)
        clear HI hg he
        go_wp2_with fail
        refine ⟨⟨k + 1, by go_num, by omega, trivial, HI2⟩, ?_⟩
        simp [intOf]; omega
    · obtain rfl : k = n := by omega
      have Hf : Hid (hasB s c = false) := Lib.hid (has_step hn HI.out)
      clear HI
      go_wp2_with fail
      go_ret
      exact ⟨by rw [Hf.out]; rfl, rfl⟩
end Go.Proofs.Ytljfoajhobambaa
