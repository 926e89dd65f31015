/- The reference's form: has, blank. The reference's form: blank, for each text of names. Printed by gen_rf2.py. -/
import Derived.Test.YtadpkjgjciodnaaGreatGbRa
import Derived.Laws.Strings
import Derived.Test.YtadpkjgjciodnaaGreatFp2Ra
section
namespace Go.Proofs.YtadpkjgjciodnaaGreat
open Go.RowKit
set_option linter.unusedVariables false
set_option linter.unusedSimpArgs false

def hasB (s : ByteArray) (c : UInt8) : Bool := s.data.toList.contains c
theorem has_step {s : ByteArray} {c : UInt8} {n : Nat} (hn : s.size = n) (h : ∀ j, j < n → s.data.toList.getD j 0 ≠ c) : hasB s c = false := by
  unfold hasB
  rw [Bool.eq_false_iff]
  intro hc
  obtain ⟨j, hj, he⟩ := List.getElem_of_mem (List.contains_iff_mem.1 hc)
  have hj' : j < n := by rw [← hn]; simpa using hj
  refine h j hj' ?_
  rw [List.getD_eq_getElem?_getD, List.getElem?_eq_getElem hj]
  exact he
set_option maxRecDepth 100000 in
set_option maxHeartbeats 1000000 in
theorem has_any (s : ByteArray) (c : UInt8) (n : Nat) (w : World) (hn : s.size = n) (h9 : n ≤ 9) :
    Calls Tryz.prog 144 #[.string s, .int .u8 (c.toNat : Int)] w fun e w' => e = .returned (.bool (hasB s c)) ∧ w = w' := by
  go_enter Tryz.func144, Tryz.ntmps144
  go_wp2_with fail
  go_loopw [5] (fun i wr => ∃ k : Nat, i = .int .i64 (k : Int) ∧ k ≤ n ∧ wr = w ∧ Hid (∀ j, j < k → s.data.toList.getD j 0 ≠ c)) (fun i _ => n - (intOf i).toNat)
  case atStart => exact ⟨0, rfl, Nat.zero_le _, rfl, Lib.hid fun j h => by omega⟩
  case round =>
    obtain ⟨k, rfl, hk, rfl, HI⟩ := hrel
    by_cases hlt : k < n
    · have hks : k < s.size := by omega
      have hg : s.data.toList.getD k 0 = s[k] := by
        rw [List.getD_eq_getElem?_getD, List.getElem?_eq_getElem (by simpa using hks)]; rfl
      by_cases he : s[k] = c
      · have e1 : (((s[k]'hks).toNat : Int) == (c.toNat : Int)) = true := by rw [he]; simp
        have Hf : Hid (hasB s c = true) := Lib.hid (List.contains_iff_mem.2 (by rw [← he, ← hg, List.getD_eq_getElem?_getD, List.getElem?_eq_getElem (by simpa using hks)]; exact List.getElem_mem _))
        clear HI hg he
        go_wp2_with fail
        go_ret
        exact ⟨by rw [Hf.out]; rfl, rfl⟩
      · have e1 : (((s[k]'hks).toNat : Int) == (c.toNat : Int)) = false := by
          rw [beq_eq_false_iff_ne]; intro h; exact he (UInt8.toNat_inj.1 (by omega))
        have HI2 : Hid (∀ j, j < k + 1 → s.data.toList.getD j 0 ≠ c) := Lib.hid fun j hj => by
          by_cases hjk : j = k
          · subst hjk; rw [hg]; exact he
          · exact HI.out j (by omega)
        clear HI hg he
        go_wp2_with fail
        refine ⟨⟨k + 1, by go_num, by omega, trivial, HI2⟩, ?_⟩
        simp [intOf]; omega
    · obtain rfl : k = n := by omega
      have Hf : Hid (hasB s c = false) := Lib.hid (has_step hn HI.out)
      clear HI
      go_wp2_with fail
      go_ret
      exact ⟨by rw [Hf.out]; rfl, rfl⟩
end Go.Proofs.YtadpkjgjciodnaaGreat
end
section
namespace Go.Proofs.YtadpkjgjciodnaaGreat
open Go.RowKit
set_option linter.unusedVariables false
set_option linter.unusedSimpArgs false

def hasN (s : ByteArray) (cn : Int) : Bool := hasB s (UInt8.ofNat cn.toNat)
theorem has_is (s : ByteArray) (n : Nat) (hn : s.size = n) (h9 : n ≤ 9) (cn : Int) (h : cn = 118 ∨ cn = 105 ∨ cn = 115 ∨ cn = 114 ∨ cn = 98 ∨ cn = 111 ∨ cn = 99 ∨ cn = 112) (w : World) :
    Calls Tryz.prog 144 #[.string s, .int .u8 cn] w fun e w' => e = .returned (.bool (hasN s cn)) ∧ w = w' := by
  rcases h with rfl | rfl | rfl | rfl | rfl | rfl | rfl | rfl <;> exact has_any s _ n w hn h9
/-- Is there nothing but what is named? -/
def blankB (hv hi hs hr hb ho hc hp : Bool) (v i q r : Int) (nb no nc np : Nat) : Bool :=
  (hv || v == 0) && ((hi || i == 0) && ((hs || q == 0) && ((hr || r == 0) && ((hb || decide (nb = 0)) && ((ho || decide (no = 0)) && ((hc || decide (nc = 0)) && (hp || decide (np = 0))))))))

set_option maxRecDepth 100000 in
set_option maxHeartbeats 8000000 in
theorem blank_voc (k f v i q r : Int) (Ab Ao Ac Ap : Option Addr) (nb no nc np cb co cc cp : Nat) (w : World) :
    Calls Tryz.prog 107 #[.agg #[.int .i64 k, .int .i64 f, .int .i64 v, .int .i64 i, .int .i64 q, .int .i64 r, .slice Ab nb cb, .slice Ao no co, .slice Ac nc cc, .slice Ap np cp], .string { data := #[118, 111, 99] }] w fun e w' => e = .returned (.bool (blankB true false false false false true true false v i q r nb no nc np)) ∧ Below w.heap.size w w' := by
  obtain ⟨s, hs⟩ : ∃ s : ByteArray, s = { data := #[118, 111, 99] } := ⟨_, rfl⟩
  rw [← hs]
  have HH := Lib.hid (has_is s 3 (by rw [hs]; rfl) (by omega))
  have Nv : hasN s 118 = true := by rw [hs]; decide
  have Ni : hasN s 105 = false := by rw [hs]; decide
  have Ns : hasN s 115 = false := by rw [hs]; decide
  have Nr : hasN s 114 = false := by rw [hs]; decide
  have Nb : hasN s 98 = false := by rw [hs]; decide
  have No : hasN s 111 = true := by rw [hs]; decide
  have Nc : hasN s 99 = true := by rw [hs]; decide
  have Np : hasN s 112 = false := by rw [hs]; decide
  have HNs := Lib.hid (And.intro Nv (And.intro Ni (And.intro Ns (And.intro Nr (And.intro Nb (And.intro No (And.intro Nc Np)))))))
  clear hs Nv Ni Ns Nr Nb No Nc Np
  by_cases h0 : i = 0
  · subst h0
    by_cases h1 : q = 0
    · subst h1
      by_cases h2 : r = 0
      · subst h2
        by_cases h3 : nb = 0
        · subst h3
          by_cases h4 : np = 0
          · subst h4
            go_enter Tryz.func107, Tryz.ntmps107
            simp only [List.append_eq, List.cons_append, List.nil_append]
            go_wp2_with (go_at_call 144; refine (HH.out _ (by decide) _).mono ?_; rintro e w' ⟨rfl, rfl⟩; obtain ⟨Nv, Ni, Ns, Nr, Nb, No, Nc, Np⟩ := HNs.out; simp only [Nv, Ni, Ns, Nr, Nb, No, Nc, Np]; clear Nv Ni Ns Nr Nb No Nc Np)
            go_ret
            refine ⟨?_, by first | exact alloc_below w _ | exact below_drewN (alloc_below w _) _⟩
            simp [blankB, *]
          · have d4 : (((np : Nat) : Int) == 0) = false := by rw [beq_eq_false_iff_ne]; omega
            go_enter Tryz.func107, Tryz.ntmps107
            simp only [List.append_eq, List.cons_append, List.nil_append]
            go_wp2_with (go_at_call 144; refine (HH.out _ (by decide) _).mono ?_; rintro e w' ⟨rfl, rfl⟩; obtain ⟨Nv, Ni, Ns, Nr, Nb, No, Nc, Np⟩ := HNs.out; simp only [Nv, Ni, Ns, Nr, Nb, No, Nc, Np]; clear Nv Ni Ns Nr Nb No Nc Np)
            go_ret
            refine ⟨?_, by first | exact alloc_below w _ | exact below_drewN (alloc_below w _) _⟩
            simp [blankB, *]
        · have d3 : (((nb : Nat) : Int) == 0) = false := by rw [beq_eq_false_iff_ne]; omega
          go_enter Tryz.func107, Tryz.ntmps107
          simp only [List.append_eq, List.cons_append, List.nil_append]
          go_wp2_with (go_at_call 144; refine (HH.out _ (by decide) _).mono ?_; rintro e w' ⟨rfl, rfl⟩; obtain ⟨Nv, Ni, Ns, Nr, Nb, No, Nc, Np⟩ := HNs.out; simp only [Nv, Ni, Ns, Nr, Nb, No, Nc, Np]; clear Nv Ni Ns Nr Nb No Nc Np)
          go_ret
          refine ⟨?_, by first | exact alloc_below w _ | exact below_drewN (alloc_below w _) _⟩
          simp [blankB, *]
      · have d2 : (r == 0) = false := beq_eq_false_iff_ne.2 h2
        go_enter Tryz.func107, Tryz.ntmps107
        simp only [List.append_eq, List.cons_append, List.nil_append]
        go_wp2_with (go_at_call 144; refine (HH.out _ (by decide) _).mono ?_; rintro e w' ⟨rfl, rfl⟩; obtain ⟨Nv, Ni, Ns, Nr, Nb, No, Nc, Np⟩ := HNs.out; simp only [Nv, Ni, Ns, Nr, Nb, No, Nc, Np]; clear Nv Ni Ns Nr Nb No Nc Np)
        go_ret
        refine ⟨?_, by first | exact alloc_below w _ | exact below_drewN (alloc_below w _) _⟩
        simp [blankB, *]
    · have d1 : (q == 0) = false := beq_eq_false_iff_ne.2 h1
      go_enter Tryz.func107, Tryz.ntmps107
      simp only [List.append_eq, List.cons_append, List.nil_append]
      go_wp2_with (go_at_call 144; refine (HH.out _ (by decide) _).mono ?_; rintro e w' ⟨rfl, rfl⟩; obtain ⟨Nv, Ni, Ns, Nr, Nb, No, Nc, Np⟩ := HNs.out; simp only [Nv, Ni, Ns, Nr, Nb, No, Nc, Np]; clear Nv Ni Ns Nr Nb No Nc Np)
      go_ret
      refine ⟨?_, by first | exact alloc_below w _ | exact below_drewN (alloc_below w _) _⟩
      simp [blankB, *]
  · have d0 : (i == 0) = false := beq_eq_false_iff_ne.2 h0
    go_enter Tryz.func107, Tryz.ntmps107
    simp only [List.append_eq, List.cons_append, List.nil_append]
    go_wp2_with (go_at_call 144; refine (HH.out _ (by decide) _).mono ?_; rintro e w' ⟨rfl, rfl⟩; obtain ⟨Nv, Ni, Ns, Nr, Nb, No, Nc, Np⟩ := HNs.out; simp only [Nv, Ni, Ns, Nr, Nb, No, Nc, Np]; clear Nv Ni Ns Nr Nb No Nc Np)
    go_ret
    refine ⟨?_, by first | exact alloc_below w _ | exact below_drewN (alloc_below w _) _⟩
    simp [blankB, *]

end Go.Proofs.YtadpkjgjciodnaaGreat
end
