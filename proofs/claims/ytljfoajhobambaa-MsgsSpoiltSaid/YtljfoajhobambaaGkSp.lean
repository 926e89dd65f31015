/- Joined texts: Rf1 Rf2 Rf3 Rf4 Rf5. -/
import Derived.Test.YtljfoajhobambaaGbSp
import Derived.Laws.Strings
import Derived.Test.YtljfoajhobambaaFp2Sp
import Derived.Test.YtljfoajhobambaaFp3Sp
import Derived.Test.YtljfoajhobambaaFp4Sp
import Derived.Test.YtljfoajhobambaaFgSp
section
/- The reference's form: has, blank. -/
namespace Go.Proofs.Ytljfoajhobambaa
open Go.RowKit
set_option linter.unusedVariables false
set_option linter.unusedSimpArgs false

def hasB (s : ByteArray) (c : UInt8) : Bool := s.data.toList.contains c
theorem has_step {s : ByteArray} {c : UInt8} {n : Nat} (hn : s.size = n) (h : ∀ j, j < n → s.data.toList.getD j 0 ≠ c) : hasB s c = false := by
  unfold hasB
  rw [Bool.eq_false_iff]
  intro hc
  obtain ⟨j, hj, he⟩ := List.getElem_of_mem (List.contains_iff_mem.1 hc)
  have hj' : j < n := by rw [← hn]; simpa using hj
  refine h j hj' ?_
  rw [List.getD_eq_getElem?_getD, List.getElem?_eq_getElem hj]
  exact he
set_option maxRecDepth 100000 in
set_option maxHeartbeats 1000000 in
theorem has_any (s : ByteArray) (c : UInt8) (n : Nat) (w : World) (hn : s.size = n) (h9 : n ≤ 9) :
    Calls Try.prog 122 #[.string s, .int .u8 (c.toNat : Int)] w fun e w' => e = .returned (.bool (hasB s c)) ∧ w = w' := by
  go_enter Try.func122, Try.ntmps122
  go_wp2_with fail
  go_loopw [5] (fun i wr => ∃ k : Nat, i = .int .i64 (k : Int) ∧ k ≤ n ∧ wr = w ∧ Hid (∀ j, j < k → s.data.toList.getD j 0 ≠ c)) (fun i _ => n - (intOf i).toNat)
  case atStart => exact ⟨0, rfl, Nat.zero_le _, rfl, Lib.hid fun j h => by omega⟩
  case round =>
    obtain ⟨k, rfl, hk, rfl, HI⟩ := hrel
    by_cases hlt : k < n
    · have hks : k < s.size := by omega
      have hg : s.data.toList.getD k 0 = s[k] := by
        rw [List.getD_eq_getElem?_getD, List.getElem?_eq_getElem (by simpa using hks)]; rfl
      by_cases he : s[k] = c
      · have e1 : (((s[k]'hks).toNat : Int) == (c.toNat : Int)) = true := by rw [he]; simp
        have Hf : Hid (hasB s c = true) := Lib.hid (List.contains_iff_mem.2 (by rw [← he, ← hg, List.getD_eq_getElem?_getD, List.getElem?_eq_getElem (by simpa using hks)]; exact List.getElem_mem _))
        clear HI hg he
        go_wp2_with fail
        go_ret
        exact ⟨by rw [Hf.out]; rfl, rfl⟩
      · have e1 : (((s[k]'hks).toNat : Int) == (c.toNat : Int)) = false := by
          rw [beq_eq_false_iff_ne]; intro h; exact he (UInt8.toNat_inj.1 (by omega))
        have HI2 : Hid (∀ j, j < k + 1 → s.data.toList.getD j 0 ≠ c) := Lib.hid fun j hj => by
          by_cases hjk : j = k
          · subst hjk; rw [hg]; exact he
          · exact HI.out j (by omega)
        clear HI hg he
        go_wp2_with fail
        refine ⟨⟨k + 1, by go_num, by omega, trivial, HI2⟩, ?_⟩
        simp [intOf]; omega
    · obtain rfl : k = n := by omega
      have Hf : Hid (hasB s c = false) := Lib.hid (has_step hn HI.out)
      clear HI
      go_wp2_with fail
      go_ret
      exact ⟨by rw [Hf.out]; rfl, rfl⟩
end Go.Proofs.Ytljfoajhobambaa

end

section
/- The reference's form: blank, for each text of names. Printed by gen_rf2.py. -/
namespace Go.Proofs.Ytljfoajhobambaa
open Go.RowKit
set_option linter.unusedVariables false
set_option linter.unusedSimpArgs false

def hasN (s : ByteArray) (cn : Int) : Bool := hasB s (UInt8.ofNat cn.toNat)
theorem has_is (s : ByteArray) (n : Nat) (hn : s.size = n) (h9 : n ≤ 9) (cn : Int) (h : cn = 118 ∨ cn = 105 ∨ cn = 115 ∨ cn = 114 ∨ cn = 98 ∨ cn = 111 ∨ cn = 99 ∨ cn = 112) (w : World) :
    Calls Try.prog 122 #[.string s, .int .u8 cn] w fun e w' => e = .returned (.bool (hasN s cn)) ∧ w = w' := by
  rcases h with rfl | rfl | rfl | rfl | rfl | rfl | rfl | rfl <;> exact has_any s _ n w hn h9
/-- Is there nothing but what is named? -/
def blankB (hv hi hs hr hb ho hc hp : Bool) (v i q r : Int) (nb no nc np : Nat) : Bool :=
  (hv || v == 0) && ((hi || i == 0) && ((hs || q == 0) && ((hr || r == 0) && ((hb || decide (nb = 0)) && ((ho || decide (no = 0)) && ((hc || decide (nc = 0)) && (hp || decide (np = 0))))))))

set_option maxRecDepth 100000 in
set_option maxHeartbeats 8000000 in
theorem blank_b (k f v i q r : Int) (Ab Ao Ac Ap : Option Addr) (nb no nc np cb co cc cp : Nat) (w : World) :
    Calls Try.prog 65 #[.agg #[.int .i64 k, .int .i64 f, .int .i64 v, .int .i64 i, .int .i64 q, .int .i64 r, .slice Ab nb cb, .slice Ao no co, .slice Ac nc cc, .slice Ap np cp], .string { data := #[98] }] w fun e w' => e = .returned (.bool (blankB false false false false true false false false v i q r nb no nc np)) ∧ Below w.heap.size w w' := by
  obtain ⟨s, hs⟩ : ∃ s : ByteArray, s = { data := #[98] } := ⟨_, rfl⟩
  rw [← hs]
  have HH := Lib.hid (has_is s 1 (by rw [hs]; rfl) (by omega))
  have Nv : hasN s 118 = false := by rw [hs]; decide
  have Ni : hasN s 105 = false := by rw [hs]; decide
  have Ns : hasN s 115 = false := by rw [hs]; decide
  have Nr : hasN s 114 = false := by rw [hs]; decide
  have Nb : hasN s 98 = true := by rw [hs]; decide
  have No : hasN s 111 = false := by rw [hs]; decide
  have Nc : hasN s 99 = false := by rw [hs]; decide
  have Np : hasN s 112 = false := by rw [hs]; decide
  have HNs := Lib.hid (And.intro Nv (And.intro Ni (And.intro Ns (And.intro Nr (And.intro Nb (And.intro No (And.intro Nc Np)))))))
  clear hs Nv Ni Ns Nr Nb No Nc Np
  by_cases h0 : v = 0
  · subst h0
    by_cases h1 : i = 0
    · subst h1
      by_cases h2 : q = 0
      · subst h2
        by_cases h3 : r = 0
        · subst h3
          by_cases h4 : no = 0
          · subst h4
            by_cases h5 : nc = 0
            · subst h5
              by_cases h6 : np = 0
              · subst h6
                go_enter Try.func65, Try.ntmps65
                simp only [List.append_eq, List.cons_append, List.nil_append]
                go_wp2_with (go_at_call 122; refine (HH.out _ (by decide) _).mono ?_; rintro e w' ⟨rfl, rfl⟩; obtain ⟨Nv, Ni, Ns, Nr, Nb, No, Nc, Np⟩ := HNs.out; simp only [Nv, Ni, Ns, Nr, Nb, No, Nc, Np]; clear Nv Ni Ns Nr Nb No Nc Np)
                go_ret
                refine ⟨?_, by first | exact alloc_below w _ | exact below_drewN (alloc_below w _) _⟩
                simp [blankB, *]
              · have d6 : (((np : Nat) : Int) == 0) = false := by rw [beq_eq_false_iff_ne]; omega
                go_enter Try.func65, Try.ntmps65
                simp only [List.append_eq, List.cons_append, List.nil_append]
                go_wp2_with (go_at_call 122; refine (HH.out _ (by decide) _).mono ?_; rintro e w' ⟨rfl, rfl⟩; obtain ⟨Nv, Ni, Ns, Nr, Nb, No, Nc, Np⟩ := HNs.out; simp only [Nv, Ni, Ns, Nr, Nb, No, Nc, Np]; clear Nv Ni Ns Nr Nb No Nc Np)
                go_ret
                refine ⟨?_, by first | exact alloc_below w _ | exact below_drewN (alloc_below w _) _⟩
                simp [blankB, *]
            · have d5 : (((nc : Nat) : Int) == 0) = false := by rw [beq_eq_false_iff_ne]; omega
              go_enter Try.func65, Try.ntmps65
              simp only [List.append_eq, List.cons_append, List.nil_append]
              go_wp2_with (go_at_call 122; refine (HH.out _ (by decide) _).mono ?_; rintro e w' ⟨rfl, rfl⟩; obtain ⟨Nv, Ni, Ns, Nr, Nb, No, Nc, Np⟩ := HNs.out; simp only [Nv, Ni, Ns, Nr, Nb, No, Nc, Np]; clear Nv Ni Ns Nr Nb No Nc Np)
              go_ret
              refine ⟨?_, by first | exact alloc_below w _ | exact below_drewN (alloc_below w _) _⟩
              simp [blankB, *]
          · have d4 : (((no : Nat) : Int) == 0) = false := by rw [beq_eq_false_iff_ne]; omega
            go_enter Try.func65, Try.ntmps65
            simp only [List.append_eq, List.cons_append, List.nil_append]
            go_wp2_with (go_at_call 122; refine (HH.out _ (by decide) _).mono ?_; rintro e w' ⟨rfl, rfl⟩; obtain ⟨Nv, Ni, Ns, Nr, Nb, No, Nc, Np⟩ := HNs.out; simp only [Nv, Ni, Ns, Nr, Nb, No, Nc, Np]; clear Nv Ni Ns Nr Nb No Nc Np)
            go_ret
            refine ⟨?_, by first | exact alloc_below w _ | exact below_drewN (alloc_below w _) _⟩
            simp [blankB, *]
        · have d3 : (r == 0) = false := beq_eq_false_iff_ne.2 h3
          go_enter Try.func65, Try.ntmps65
          simp only [List.append_eq, List.cons_append, List.nil_append]
          go_wp2_with (go_at_call 122; refine (HH.out _ (by decide) _).mono ?_; rintro e w' ⟨rfl, rfl⟩; obtain ⟨Nv, Ni, Ns, Nr, Nb, No, Nc, Np⟩ := HNs.out; simp only [Nv, Ni, Ns, Nr, Nb, No, Nc, Np]; clear Nv Ni Ns Nr Nb No Nc Np)
          go_ret
          refine ⟨?_, by first | exact alloc_below w _ | exact below_drewN (alloc_below w _) _⟩
          simp [blankB, *]
      · have d2 : (q == 0) = false := beq_eq_false_iff_ne.2 h2
        go_enter Try.func65, Try.ntmps65
        simp only [List.append_eq, List.cons_append, List.nil_append]
        go_wp2_with (go_at_call 122; refine (HH.out _ (by decide) _).mono ?_; rintro e w' ⟨rfl, rfl⟩; obtain ⟨Nv, Ni, Ns, Nr, Nb, No, Nc, Np⟩ := HNs.out; simp only [Nv, Ni, Ns, Nr, Nb, No, Nc, Np]; clear Nv Ni Ns Nr Nb No Nc Np)
        go_ret
        refine ⟨?_, by first | exact alloc_below w _ | exact below_drewN (alloc_below w _) _⟩
        simp [blankB, *]
    · have d1 : (i == 0) = false := beq_eq_false_iff_ne.2 h1
      go_enter Try.func65, Try.ntmps65
      simp only [List.append_eq, List.cons_append, List.nil_append]
      go_wp2_with (go_at_call 122; refine (HH.out _ (by decide) _).mono ?_; rintro e w' ⟨rfl, rfl⟩; obtain ⟨Nv, Ni, Ns, Nr, Nb, No, Nc, Np⟩ := HNs.out; simp only [Nv, Ni, Ns, Nr, Nb, No, Nc, Np]; clear Nv Ni Ns Nr Nb No Nc Np)
      go_ret
      refine ⟨?_, by first | exact alloc_below w _ | exact below_drewN (alloc_below w _) _⟩
      simp [blankB, *]
  · have d0 : (v == 0) = false := beq_eq_false_iff_ne.2 h0
    go_enter Try.func65, Try.ntmps65
    simp only [List.append_eq, List.cons_append, List.nil_append]
    go_wp2_with (go_at_call 122; refine (HH.out _ (by decide) _).mono ?_; rintro e w' ⟨rfl, rfl⟩; obtain ⟨Nv, Ni, Ns, Nr, Nb, No, Nc, Np⟩ := HNs.out; simp only [Nv, Ni, Ns, Nr, Nb, No, Nc, Np]; clear Nv Ni Ns Nr Nb No Nc Np)
    go_ret
    refine ⟨?_, by first | exact alloc_below w _ | exact below_drewN (alloc_below w _) _⟩
    simp [blankB, *]

set_option maxRecDepth 100000 in
set_option maxHeartbeats 8000000 in
theorem blank_visb (k f v i q r : Int) (Ab Ao Ac Ap : Option Addr) (nb no nc np cb co cc cp : Nat) (w : World) :
    Calls Try.prog 65 #[.agg #[.int .i64 k, .int .i64 f, .int .i64 v, .int .i64 i, .int .i64 q, .int .i64 r, .slice Ab nb cb, .slice Ao no co, .slice Ac nc cc, .slice Ap np cp], .string { data := #[118, 105, 115, 98] }] w fun e w' => e = .returned (.bool (blankB true true true false true false false false v i q r nb no nc np)) ∧ Below w.heap.size w w' := by
  obtain ⟨s, hs⟩ : ∃ s : ByteArray, s = { data := #[118, 105, 115, 98] } := ⟨_, rfl⟩
  rw [← hs]
  have HH := Lib.hid (has_is s 4 (by rw [hs]; rfl) (by omega))
  have Nv : hasN s 118 = true := by rw [hs]; decide
  have Ni : hasN s 105 = true := by rw [hs]; decide
  have Ns : hasN s 115 = true := by rw [hs]; decide
  have Nr : hasN s 114 = false := by rw [hs]; decide
  have Nb : hasN s 98 = true := by rw [hs]; decide
  have No : hasN s 111 = false := by rw [hs]; decide
  have Nc : hasN s 99 = false := by rw [hs]; decide
  have Np : hasN s 112 = false := by rw [hs]; decide
  have HNs := Lib.hid (And.intro Nv (And.intro Ni (And.intro Ns (And.intro Nr (And.intro Nb (And.intro No (And.intro Nc Np)))))))
  clear hs Nv Ni Ns Nr Nb No Nc Np
  by_cases h0 : r = 0
  · subst h0
    by_cases h1 : no = 0
    · subst h1
      by_cases h2 : nc = 0
      · subst h2
        by_cases h3 : np = 0
        · subst h3
          go_enter Try.func65, Try.ntmps65
          simp only [List.append_eq, List.cons_append, List.nil_append]
          go_wp2_with (go_at_call 122; refine (HH.out _ (by decide) _).mono ?_; rintro e w' ⟨rfl, rfl⟩; obtain ⟨Nv, Ni, Ns, Nr, Nb, No, Nc, Np⟩ := HNs.out; simp only [Nv, Ni, Ns, Nr, Nb, No, Nc, Np]; clear Nv Ni Ns Nr Nb No Nc Np)
          go_ret
          refine ⟨?_, by first | exact alloc_below w _ | exact below_drewN (alloc_below w _) _⟩
          simp [blankB, *]
        · have d3 : (((np : Nat) : Int) == 0) = false := by rw [beq_eq_false_iff_ne]; omega
          go_enter Try.func65, Try.ntmps65
          simp only [List.append_eq, List.cons_append, List.nil_append]
          go_wp2_with (go_at_call 122; refine (HH.out _ (by decide) _).mono ?_; rintro e w' ⟨rfl, rfl⟩; obtain ⟨Nv, Ni, Ns, Nr, Nb, No, Nc, Np⟩ := HNs.out; simp only [Nv, Ni, Ns, Nr, Nb, No, Nc, Np]; clear Nv Ni Ns Nr Nb No Nc Np)
          go_ret
          refine ⟨?_, by first | exact alloc_below w _ | exact below_drewN (alloc_below w _) _⟩
          simp [blankB, *]
      · have d2 : (((nc : Nat) : Int) == 0) = false := by rw [beq_eq_false_iff_ne]; omega
        go_enter Try.func65, Try.ntmps65
        simp only [List.append_eq, List.cons_append, List.nil_append]
        go_wp2_with (go_at_call 122; refine (HH.out _ (by decide) _).mono ?_; rintro e w' ⟨rfl, rfl⟩; obtain ⟨Nv, Ni, Ns, Nr, Nb, No, Nc, Np⟩ := HNs.out; simp only [Nv, Ni, Ns, Nr, Nb, No, Nc, Np]; clear Nv Ni Ns Nr Nb No Nc Np)
        go_ret
        refine ⟨?_, by first | exact alloc_below w _ | exact below_drewN (alloc_below w _) _⟩
        simp [blankB, *]
    · have d1 : (((no : Nat) : Int) == 0) = false := by rw [beq_eq_false_iff_ne]; omega
      go_enter Try.func65, Try.ntmps65
      simp only [List.append_eq, List.cons_append, List.nil_append]
      go_wp2_with (go_at_call 122; refine (HH.out _ (by decide) _).mono ?_; rintro e w' ⟨rfl, rfl⟩; obtain ⟨Nv, Ni, Ns, Nr, Nb, No, Nc, Np⟩ := HNs.out; simp only [Nv, Ni, Ns, Nr, Nb, No, Nc, Np]; clear Nv Ni Ns Nr Nb No Nc Np)
      go_ret
      refine ⟨?_, by first | exact alloc_below w _ | exact below_drewN (alloc_below w _) _⟩
      simp [blankB, *]
  · have d0 : (r == 0) = false := beq_eq_false_iff_ne.2 h0
    go_enter Try.func65, Try.ntmps65
    simp only [List.append_eq, List.cons_append, List.nil_append]
    go_wp2_with (go_at_call 122; refine (HH.out _ (by decide) _).mono ?_; rintro e w' ⟨rfl, rfl⟩; obtain ⟨Nv, Ni, Ns, Nr, Nb, No, Nc, Np⟩ := HNs.out; simp only [Nv, Ni, Ns, Nr, Nb, No, Nc, Np]; clear Nv Ni Ns Nr Nb No Nc Np)
    go_ret
    refine ⟨?_, by first | exact alloc_below w _ | exact below_drewN (alloc_below w _) _⟩
    simp [blankB, *]

set_option maxRecDepth 100000 in
set_option maxHeartbeats 8000000 in
theorem blank_v (k f v i q r : Int) (Ab Ao Ac Ap : Option Addr) (nb no nc np cb co cc cp : Nat) (w : World) :
    Calls Try.prog 65 #[.agg #[.int .i64 k, .int .i64 f, .int .i64 v, .int .i64 i, .int .i64 q, .int .i64 r, .slice Ab nb cb, .slice Ao no co, .slice Ac nc cc, .slice Ap np cp], .string { data := #[118] }] w fun e w' => e = .returned (.bool (blankB true false false false false false false false v i q r nb no nc np)) ∧ Below w.heap.size w w' := by
  obtain ⟨s, hs⟩ : ∃ s : ByteArray, s = { data := #[118] } := ⟨_, rfl⟩
  rw [← hs]
  have HH := Lib.hid (has_is s 1 (by rw [hs]; rfl) (by omega))
  have Nv : hasN s 118 = true := by rw [hs]; decide
  have Ni : hasN s 105 = false := by rw [hs]; decide
  have Ns : hasN s 115 = false := by rw [hs]; decide
  have Nr : hasN s 114 = false := by rw [hs]; decide
  have Nb : hasN s 98 = false := by rw [hs]; decide
  have No : hasN s 111 = false := by rw [hs]; decide
  have Nc : hasN s 99 = false := by rw [hs]; decide
  have Np : hasN s 112 = false := by rw [hs]; decide
  have HNs := Lib.hid (And.intro Nv (And.intro Ni (And.intro Ns (And.intro Nr (And.intro Nb (And.intro No (And.intro Nc Np)))))))
  clear hs Nv Ni Ns Nr Nb No Nc Np
  by_cases h0 : i = 0
  · subst h0
    by_cases h1 : q = 0
    · subst h1
      by_cases h2 : r = 0
      · subst h2
        by_cases h3 : nb = 0
        · subst h3
          by_cases h4 : no = 0
          · subst h4
            by_cases h5 : nc = 0
            · subst h5
              by_cases h6 : np = 0
              · subst h6
                go_enter Try.func65, Try.ntmps65
                simp only [List.append_eq, List.cons_append, List.nil_append]
                go_wp2_with (go_at_call 122; refine (HH.out _ (by decide) _).mono ?_; rintro e w' ⟨rfl, rfl⟩; obtain ⟨Nv, Ni, Ns, Nr, Nb, No, Nc, Np⟩ := HNs.out; simp only [Nv, Ni, Ns, Nr, Nb, No, Nc, Np]; clear Nv Ni Ns Nr Nb No Nc Np)
                go_ret
                refine ⟨?_, by first | exact alloc_below w _ | exact below_drewN (alloc_below w _) _⟩
                simp [blankB, *]
              · have d6 : (((np : Nat) : Int) == 0) = false := by rw [beq_eq_false_iff_ne]; omega
                go_enter Try.func65, Try.ntmps65
                simp only [List.append_eq, List.cons_append, List.nil_append]
                go_wp2_with (go_at_call 122; refine (HH.out _ (by decide) _).mono ?_; rintro e w' ⟨rfl, rfl⟩; obtain ⟨Nv, Ni, Ns, Nr, Nb, No, Nc, Np⟩ := HNs.out; simp only [Nv, Ni, Ns, Nr, Nb, No, Nc, Np]; clear Nv Ni Ns Nr Nb No Nc Np)
                go_ret
                refine ⟨?_, by first | exact alloc_below w _ | exact below_drewN (alloc_below w _) _⟩
                simp [blankB, *]
            · have d5 : (((nc : Nat) : Int) == 0) = false := by rw [beq_eq_false_iff_ne]; omega
              go_enter Try.func65, Try.ntmps65
              simp only [List.append_eq, List.cons_append, List.nil_append]
              go_wp2_with (go_at_call 122; refine (HH.out _ (by decide) _).mono ?_; rintro e w' ⟨rfl, rfl⟩; obtain ⟨Nv, Ni, Ns, Nr, Nb, No, Nc, Np⟩ := HNs.out; simp only [Nv, Ni, Ns, Nr, Nb, No, Nc, Np]; clear Nv Ni Ns Nr Nb No Nc Np)
              go_ret
              refine ⟨?_, by first | exact alloc_below w _ | exact below_drewN (alloc_below w _) _⟩
              simp [blankB, *]
          · have d4 : (((no : Nat) : Int) == 0) = false := by rw [beq_eq_false_iff_ne]; omega
            go_enter Try.func65, Try.ntmps65
            simp only [List.append_eq, List.cons_append, List.nil_append]
            go_wp2_with (go_at_call 122; refine (HH.out _ (by decide) _).mono ?_; rintro e w' ⟨rfl, rfl⟩; obtain ⟨Nv, Ni, Ns, Nr, Nb, No, Nc, Np⟩ := HNs.out; simp only [Nv, Ni, Ns, Nr, Nb, No, Nc, Np]; clear Nv Ni Ns Nr Nb No Nc Np)
            go_ret
            refine ⟨?_, by first | exact alloc_below w _ | exact below_drewN (alloc_below w _) _⟩
            simp [blankB, *]
        · have d3 : (((nb : Nat) : Int) == 0) = false := by rw [beq_eq_false_iff_ne]; omega
          go_enter Try.func65, Try.ntmps65
          simp only [List.append_eq, List.cons_append, List.nil_append]
          go_wp2_with (go_at_call 122; refine (HH.out _ (by decide) _).mono ?_; rintro e w' ⟨rfl, rfl⟩; obtain ⟨Nv, Ni, Ns, Nr, Nb, No, Nc, Np⟩ := HNs.out; simp only [Nv, Ni, Ns, Nr, Nb, No, Nc, Np]; clear Nv Ni Ns Nr Nb No Nc Np)
          go_ret
          refine ⟨?_, by first | exact alloc_below w _ | exact below_drewN (alloc_below w _) _⟩
          simp [blankB, *]
      · have d2 : (r == 0) = false := beq_eq_false_iff_ne.2 h2
        go_enter Try.func65, Try.ntmps65
        simp only [List.append_eq, List.cons_append, List.nil_append]
        go_wp2_with (go_at_call 122; refine (HH.out _ (by decide) _).mono ?_; rintro e w' ⟨rfl, rfl⟩; obtain ⟨Nv, Ni, Ns, Nr, Nb, No, Nc, Np⟩ := HNs.out; simp only [Nv, Ni, Ns, Nr, Nb, No, Nc, Np]; clear Nv Ni Ns Nr Nb No Nc Np)
        go_ret
        refine ⟨?_, by first | exact alloc_below w _ | exact below_drewN (alloc_below w _) _⟩
        simp [blankB, *]
    · have d1 : (q == 0) = false := beq_eq_false_iff_ne.2 h1
      go_enter Try.func65, Try.ntmps65
      simp only [List.append_eq, List.cons_append, List.nil_append]
      go_wp2_with (go_at_call 122; refine (HH.out _ (by decide) _).mono ?_; rintro e w' ⟨rfl, rfl⟩; obtain ⟨Nv, Ni, Ns, Nr, Nb, No, Nc, Np⟩ := HNs.out; simp only [Nv, Ni, Ns, Nr, Nb, No, Nc, Np]; clear Nv Ni Ns Nr Nb No Nc Np)
      go_ret
      refine ⟨?_, by first | exact alloc_below w _ | exact below_drewN (alloc_below w _) _⟩
      simp [blankB, *]
  · have d0 : (i == 0) = false := beq_eq_false_iff_ne.2 h0
    go_enter Try.func65, Try.ntmps65
    simp only [List.append_eq, List.cons_append, List.nil_append]
    go_wp2_with (go_at_call 122; refine (HH.out _ (by decide) _).mono ?_; rintro e w' ⟨rfl, rfl⟩; obtain ⟨Nv, Ni, Ns, Nr, Nb, No, Nc, Np⟩ := HNs.out; simp only [Nv, Ni, Ns, Nr, Nb, No, Nc, Np]; clear Nv Ni Ns Nr Nb No Nc Np)
    go_ret
    refine ⟨?_, by first | exact alloc_below w _ | exact below_drewN (alloc_below w _) _⟩
    simp [blankB, *]

set_option maxRecDepth 100000 in
set_option maxHeartbeats 8000000 in
theorem blank_voc (k f v i q r : Int) (Ab Ao Ac Ap : Option Addr) (nb no nc np cb co cc cp : Nat) (w : World) :
    Calls Try.prog 65 #[.agg #[.int .i64 k, .int .i64 f, .int .i64 v, .int .i64 i, .int .i64 q, .int .i64 r, .slice Ab nb cb, .slice Ao no co, .slice Ac nc cc, .slice Ap np cp], .string { data := #[118, 111, 99] }] w fun e w' => e = .returned (.bool (blankB true false false false false true true false v i q r nb no nc np)) ∧ Below w.heap.size w w' := by
  obtain ⟨s, hs⟩ : ∃ s : ByteArray, s = { data := #[118, 111, 99] } := ⟨_, rfl⟩
  rw [← hs]
  have HH := Lib.hid (has_is s 3 (by rw [hs]; rfl) (by omega))
  have Nv : hasN s 118 = true := by rw [hs]; decide
  have Ni : hasN s 105 = false := by rw [hs]; decide
  have Ns : hasN s 115 = false := by rw [hs]; decide
  have Nr : hasN s 114 = false := by rw [hs]; decide
  have Nb : hasN s 98 = false := by rw [hs]; decide
  have No : hasN s 111 = true := by rw [hs]; decide
  have Nc : hasN s 99 = true := by rw [hs]; decide
  have Np : hasN s 112 = false := by rw [hs]; decide
  have HNs := Lib.hid (And.intro Nv (And.intro Ni (And.intro Ns (And.intro Nr (And.intro Nb (And.intro No (And.intro Nc Np)))))))
  clear hs Nv Ni Ns Nr Nb No Nc Np
  by_cases h0 : i = 0
  · subst h0
    by_cases h1 : q = 0
    · subst h1
      by_cases h2 : r = 0
      · subst h2
        by_cases h3 : nb = 0
        · subst h3
          by_cases h4 : np = 0
          · subst h4
            go_enter Try.func65, Try.ntmps65
            simp only [List.append_eq, List.cons_append, List.nil_append]
            go_wp2_with (go_at_call 122; refine (HH.out _ (by decide) _).mono ?_; rintro e w' ⟨rfl, rfl⟩; obtain ⟨Nv, Ni, Ns, Nr, Nb, No, Nc, Np⟩ := HNs.out; simp only [Nv, Ni, Ns, Nr, Nb, No, Nc, Np]; clear Nv Ni Ns Nr Nb No Nc Np)
            go_ret
            refine ⟨?_, by first | exact alloc_below w _ | exact below_drewN (alloc_below w _) _⟩
            simp [blankB, *]
          · have d4 : (((np : Nat) : Int) == 0) = false := by rw [beq_eq_false_iff_ne]; omega
            go_enter Try.func65, Try.ntmps65
            simp only [List.append_eq, List.cons_append, List.nil_append]
            go_wp2_with (go_at_call 122; refine (HH.out _ (by decide) _).mono ?_; rintro e w' ⟨rfl, rfl⟩; obtain ⟨Nv, Ni, Ns, Nr, Nb, No, Nc, Np⟩ := HNs.out; simp only [Nv, Ni, Ns, Nr, Nb, No, Nc, Np]; clear Nv Ni Ns Nr Nb No Nc Np)
            go_ret
            refine ⟨?_, by first | exact alloc_below w _ | exact below_drewN (alloc_below w _) _⟩
            simp [blankB, *]
        · have d3 : (((nb : Nat) : Int) == 0) = false := by rw [beq_eq_false_iff_ne]; omega
          go_enter Try.func65, Try.ntmps65
          simp only [List.append_eq, List.cons_append, List.nil_append]
          go_wp2_with (go_at_call 122; refine (HH.out _ (by decide) _).mono ?_; rintro e w' ⟨rfl, rfl⟩; obtain ⟨Nv, Ni, Ns, Nr, Nb, No, Nc, Np⟩ := HNs.out; simp only [Nv, Ni, Ns, Nr, Nb, No, Nc, Np]; clear Nv Ni Ns Nr Nb No Nc Np)
          go_ret
          refine ⟨?_, by first | exact alloc_below w _ | exact below_drewN (alloc_below w _) _⟩
          simp [blankB, *]
      · have d2 : (r == 0) = false := beq_eq_false_iff_ne.2 h2
        go_enter Try.func65, Try.ntmps65
        simp only [List.append_eq, List.cons_append, List.nil_append]
        go_wp2_with (go_at_call 122; refine (HH.out _ (by decide) _).mono ?_; rintro e w' ⟨rfl, rfl⟩; obtain ⟨Nv, Ni, Ns, Nr, Nb, No, Nc, Np⟩ := HNs.out; simp only [Nv, Ni, Ns, Nr, Nb, No, Nc, Np]; clear Nv Ni Ns Nr Nb No Nc Np)
        go_ret
        refine ⟨?_, by first | exact alloc_below w _ | exact below_drewN (alloc_below w _) _⟩
        simp [blankB, *]
    · have d1 : (q == 0) = false := beq_eq_false_iff_ne.2 h1
      go_enter Try.func65, Try.ntmps65
      simp only [List.append_eq, List.cons_append, List.nil_append]
      go_wp2_with (go_at_call 122; refine (HH.out _ (by decide) _).mono ?_; rintro e w' ⟨rfl, rfl⟩; obtain ⟨Nv, Ni, Ns, Nr, Nb, No, Nc, Np⟩ := HNs.out; simp only [Nv, Ni, Ns, Nr, Nb, No, Nc, Np]; clear Nv Ni Ns Nr Nb No Nc Np)
      go_ret
      refine ⟨?_, by first | exact alloc_below w _ | exact below_drewN (alloc_below w _) _⟩
      simp [blankB, *]
  · have d0 : (i == 0) = false := beq_eq_false_iff_ne.2 h0
    go_enter Try.func65, Try.ntmps65
    simp only [List.append_eq, List.cons_append, List.nil_append]
    go_wp2_with (go_at_call 122; refine (HH.out _ (by decide) _).mono ?_; rintro e w' ⟨rfl, rfl⟩; obtain ⟨Nv, Ni, Ns, Nr, Nb, No, Nc, Np⟩ := HNs.out; simp only [Nv, Ni, Ns, Nr, Nb, No, Nc, Np]; clear Nv Ni Ns Nr Nb No Nc Np)
    go_ret
    refine ⟨?_, by first | exact alloc_below w _ | exact below_drewN (alloc_below w _) _⟩
    simp [blankB, *]

set_option maxRecDepth 100000 in
set_option maxHeartbeats 8000000 in
theorem blank_vip (k f v i q r : Int) (Ab Ao Ac Ap : Option Addr) (nb no nc np cb co cc cp : Nat) (w : World) :
    Calls Try.prog 65 #[.agg #[.int .i64 k, .int .i64 f, .int .i64 v, .int .i64 i, .int .i64 q, .int .i64 r, .slice Ab nb cb, .slice Ao no co, .slice Ac nc cc, .slice Ap np cp], .string { data := #[118, 105, 112] }] w fun e w' => e = .returned (.bool (blankB true true false false false false false true v i q r nb no nc np)) ∧ Below w.heap.size w w' := by
  obtain ⟨s, hs⟩ : ∃ s : ByteArray, s = { data := #[118, 105, 112] } := ⟨_, rfl⟩
  rw [← hs]
  have HH := Lib.hid (has_is s 3 (by rw [hs]; rfl) (by omega))
  have Nv : hasN s 118 = true := by rw [hs]; decide
  have Ni : hasN s 105 = true := by rw [hs]; decide
  have Ns : hasN s 115 = false := by rw [hs]; decide
  have Nr : hasN s 114 = false := by rw [hs]; decide
  have Nb : hasN s 98 = false := by rw [hs]; decide
  have No : hasN s 111 = false := by rw [hs]; decide
  have Nc : hasN s 99 = false := by rw [hs]; decide
  have Np : hasN s 112 = true := by rw [hs]; decide
  have HNs := Lib.hid (And.intro Nv (And.intro Ni (And.intro Ns (And.intro Nr (And.intro Nb (And.intro No (And.intro Nc Np)))))))
  clear hs Nv Ni Ns Nr Nb No Nc Np
  by_cases h0 : q = 0
  · subst h0
    by_cases h1 : r = 0
    · subst h1
      by_cases h2 : nb = 0
      · subst h2
        by_cases h3 : no = 0
        · subst h3
          by_cases h4 : nc = 0
          · subst h4
            go_enter Try.func65, Try.ntmps65
            simp only [List.append_eq, List.cons_append, List.nil_append]
            go_wp2_with (go_at_call 122; refine (HH.out _ (by decide) _).mono ?_; rintro e w' ⟨rfl, rfl⟩; obtain ⟨Nv, Ni, Ns, Nr, Nb, No, Nc, Np⟩ := HNs.out; simp only [Nv, Ni, Ns, Nr, Nb, No, Nc, Np]; clear Nv Ni Ns Nr Nb No Nc Np)
            go_ret
            refine ⟨?_, by first | exact alloc_below w _ | exact below_drewN (alloc_below w _) _⟩
            simp [blankB, *]
          · have d4 : (((nc : Nat) : Int) == 0) = false := by rw [beq_eq_false_iff_ne]; omega
            go_enter Try.func65, Try.ntmps65
            simp only [List.append_eq, List.cons_append, List.nil_append]
            go_wp2_with (go_at_call 122; refine (HH.out _ (by decide) _).mono ?_; rintro e w' ⟨rfl, rfl⟩; obtain ⟨Nv, Ni, Ns, Nr, Nb, No, Nc, Np⟩ := HNs.out; simp only [Nv, Ni, Ns, Nr, Nb, No, Nc, Np]; clear Nv Ni Ns Nr Nb No Nc Np)
            go_ret
            refine ⟨?_, by first | exact alloc_below w _ | exact below_drewN (alloc_below w _) _⟩
            simp [blankB, *]
        · have d3 : (((no : Nat) : Int) == 0) = false := by rw [beq_eq_false_iff_ne]; omega
          go_enter Try.func65, Try.ntmps65
          simp only [List.append_eq, List.cons_append, List.nil_append]
          go_wp2_with (go_at_call 122; refine (HH.out _ (by decide) _).mono ?_; rintro e w' ⟨rfl, rfl⟩; obtain ⟨Nv, Ni, Ns, Nr, Nb, No, Nc, Np⟩ := HNs.out; simp only [Nv, Ni, Ns, Nr, Nb, No, Nc, Np]; clear Nv Ni Ns Nr Nb No Nc Np)
          go_ret
          refine ⟨?_, by first | exact alloc_below w _ | exact below_drewN (alloc_below w _) _⟩
          simp [blankB, *]
      · have d2 : (((nb : Nat) : Int) == 0) = false := by rw [beq_eq_false_iff_ne]; omega
        go_enter Try.func65, Try.ntmps65
        simp only [List.append_eq, List.cons_append, List.nil_append]
        go_wp2_with (go_at_call 122; refine (HH.out _ (by decide) _).mono ?_; rintro e w' ⟨rfl, rfl⟩; obtain ⟨Nv, Ni, Ns, Nr, Nb, No, Nc, Np⟩ := HNs.out; simp only [Nv, Ni, Ns, Nr, Nb, No, Nc, Np]; clear Nv Ni Ns Nr Nb No Nc Np)
        go_ret
        refine ⟨?_, by first | exact alloc_below w _ | exact below_drewN (alloc_below w _) _⟩
        simp [blankB, *]
    · have d1 : (r == 0) = false := beq_eq_false_iff_ne.2 h1
      go_enter Try.func65, Try.ntmps65
      simp only [List.append_eq, List.cons_append, List.nil_append]
      go_wp2_with (go_at_call 122; refine (HH.out _ (by decide) _).mono ?_; rintro e w' ⟨rfl, rfl⟩; obtain ⟨Nv, Ni, Ns, Nr, Nb, No, Nc, Np⟩ := HNs.out; simp only [Nv, Ni, Ns, Nr, Nb, No, Nc, Np]; clear Nv Ni Ns Nr Nb No Nc Np)
      go_ret
      refine ⟨?_, by first | exact alloc_below w _ | exact below_drewN (alloc_below w _) _⟩
      simp [blankB, *]
  · have d0 : (q == 0) = false := beq_eq_false_iff_ne.2 h0
    go_enter Try.func65, Try.ntmps65
    simp only [List.append_eq, List.cons_append, List.nil_append]
    go_wp2_with (go_at_call 122; refine (HH.out _ (by decide) _).mono ?_; rintro e w' ⟨rfl, rfl⟩; obtain ⟨Nv, Ni, Ns, Nr, Nb, No, Nc, Np⟩ := HNs.out; simp only [Nv, Ni, Ns, Nr, Nb, No, Nc, Np]; clear Nv Ni Ns Nr Nb No Nc Np)
    go_ret
    refine ⟨?_, by first | exact alloc_below w _ | exact below_drewN (alloc_below w _) _⟩
    simp [blankB, *]

set_option maxRecDepth 100000 in
set_option maxHeartbeats 8000000 in
theorem blank_c (k f v i q r : Int) (Ab Ao Ac Ap : Option Addr) (nb no nc np cb co cc cp : Nat) (w : World) :
    Calls Try.prog 65 #[.agg #[.int .i64 k, .int .i64 f, .int .i64 v, .int .i64 i, .int .i64 q, .int .i64 r, .slice Ab nb cb, .slice Ao no co, .slice Ac nc cc, .slice Ap np cp], .string { data := #[99] }] w fun e w' => e = .returned (.bool (blankB false false false false false false true false v i q r nb no nc np)) ∧ Below w.heap.size w w' := by
  obtain ⟨s, hs⟩ : ∃ s : ByteArray, s = { data := #[99] } := ⟨_, rfl⟩
  rw [← hs]
  have HH := Lib.hid (has_is s 1 (by rw [hs]; rfl) (by omega))
  have Nv : hasN s 118 = false := by rw [hs]; decide
  have Ni : hasN s 105 = false := by rw [hs]; decide
  have Ns : hasN s 115 = false := by rw [hs]; decide
  have Nr : hasN s 114 = false := by rw [hs]; decide
  have Nb : hasN s 98 = false := by rw [hs]; decide
  have No : hasN s 111 = false := by rw [hs]; decide
  have Nc : hasN s 99 = true := by rw [hs]; decide
  have Np : hasN s 112 = false := by rw [hs]; decide
  have HNs := Lib.hid (And.intro Nv (And.intro Ni (And.intro Ns (And.intro Nr (And.intro Nb (And.intro No (And.intro Nc Np)))))))
  clear hs Nv Ni Ns Nr Nb No Nc Np
  by_cases h0 : v = 0
  · subst h0
    by_cases h1 : i = 0
    · subst h1
      by_cases h2 : q = 0
      · subst h2
        by_cases h3 : r = 0
        · subst h3
          by_cases h4 : nb = 0
          · subst h4
            by_cases h5 : no = 0
            · subst h5
              by_cases h6 : np = 0
              · subst h6
                go_enter Try.func65, Try.ntmps65
                simp only [List.append_eq, List.cons_append, List.nil_append]
                go_wp2_with (go_at_call 122; refine (HH.out _ (by decide) _).mono ?_; rintro e w' ⟨rfl, rfl⟩; obtain ⟨Nv, Ni, Ns, Nr, Nb, No, Nc, Np⟩ := HNs.out; simp only [Nv, Ni, Ns, Nr, Nb, No, Nc, Np]; clear Nv Ni Ns Nr Nb No Nc Np)
                go_ret
                refine ⟨?_, by first | exact alloc_below w _ | exact below_drewN (alloc_below w _) _⟩
                simp [blankB, *]
              · have d6 : (((np : Nat) : Int) == 0) = false := by rw [beq_eq_false_iff_ne]; omega
                go_enter Try.func65, Try.ntmps65
                simp only [List.append_eq, List.cons_append, List.nil_append]
                go_wp2_with (go_at_call 122; refine (HH.out _ (by decide) _).mono ?_; rintro e w' ⟨rfl, rfl⟩; obtain ⟨Nv, Ni, Ns, Nr, Nb, No, Nc, Np⟩ := HNs.out; simp only [Nv, Ni, Ns, Nr, Nb, No, Nc, Np]; clear Nv Ni Ns Nr Nb No Nc Np)
                go_ret
                refine ⟨?_, by first | exact alloc_below w _ | exact below_drewN (alloc_below w _) _⟩
                simp [blankB, *]
            · have d5 : (((no : Nat) : Int) == 0) = false := by rw [beq_eq_false_iff_ne]; omega
              go_enter Try.func65, Try.ntmps65
              simp only [List.append_eq, List.cons_append, List.nil_append]
              go_wp2_with (go_at_call 122; refine (HH.out _ (by decide) _).mono ?_; rintro e w' ⟨rfl, rfl⟩; obtain ⟨Nv, Ni, Ns, Nr, Nb, No, Nc, Np⟩ := HNs.out; simp only [Nv, Ni, Ns, Nr, Nb, No, Nc, Np]; clear Nv Ni Ns Nr Nb No Nc Np)
              go_ret
              refine ⟨?_, by first | exact alloc_below w _ | exact below_drewN (alloc_below w _) _⟩
              simp [blankB, *]
          · have d4 : (((nb : Nat) : Int) == 0) = false := by rw [beq_eq_false_iff_ne]; omega
            go_enter Try.func65, Try.ntmps65
            simp only [List.append_eq, List.cons_append, List.nil_append]
            go_wp2_with (go_at_call 122; refine (HH.out _ (by decide) _).mono ?_; rintro e w' ⟨rfl, rfl⟩; obtain ⟨Nv, Ni, Ns, Nr, Nb, No, Nc, Np⟩ := HNs.out; simp only [Nv, Ni, Ns, Nr, Nb, No, Nc, Np]; clear Nv Ni Ns Nr Nb No Nc Np)
            go_ret
            refine ⟨?_, by first | exact alloc_below w _ | exact below_drewN (alloc_below w _) _⟩
            simp [blankB, *]
        · have d3 : (r == 0) = false := beq_eq_false_iff_ne.2 h3
          go_enter Try.func65, Try.ntmps65
          simp only [List.append_eq, List.cons_append, List.nil_append]
          go_wp2_with (go_at_call 122; refine (HH.out _ (by decide) _).mono ?_; rintro e w' ⟨rfl, rfl⟩; obtain ⟨Nv, Ni, Ns, Nr, Nb, No, Nc, Np⟩ := HNs.out; simp only [Nv, Ni, Ns, Nr, Nb, No, Nc, Np]; clear Nv Ni Ns Nr Nb No Nc Np)
          go_ret
          refine ⟨?_, by first | exact alloc_below w _ | exact below_drewN (alloc_below w _) _⟩
          simp [blankB, *]
      · have d2 : (q == 0) = false := beq_eq_false_iff_ne.2 h2
        go_enter Try.func65, Try.ntmps65
        simp only [List.append_eq, List.cons_append, List.nil_append]
        go_wp2_with (go_at_call 122; refine (HH.out _ (by decide) _).mono ?_; rintro e w' ⟨rfl, rfl⟩; obtain ⟨Nv, Ni, Ns, Nr, Nb, No, Nc, Np⟩ := HNs.out; simp only [Nv, Ni, Ns, Nr, Nb, No, Nc, Np]; clear Nv Ni Ns Nr Nb No Nc Np)
        go_ret
        refine ⟨?_, by first | exact alloc_below w _ | exact below_drewN (alloc_below w _) _⟩
        simp [blankB, *]
    · have d1 : (i == 0) = false := beq_eq_false_iff_ne.2 h1
      go_enter Try.func65, Try.ntmps65
      simp only [List.append_eq, List.cons_append, List.nil_append]
      go_wp2_with (go_at_call 122; refine (HH.out _ (by decide) _).mono ?_; rintro e w' ⟨rfl, rfl⟩; obtain ⟨Nv, Ni, Ns, Nr, Nb, No, Nc, Np⟩ := HNs.out; simp only [Nv, Ni, Ns, Nr, Nb, No, Nc, Np]; clear Nv Ni Ns Nr Nb No Nc Np)
      go_ret
      refine ⟨?_, by first | exact alloc_below w _ | exact below_drewN (alloc_below w _) _⟩
      simp [blankB, *]
  · have d0 : (v == 0) = false := beq_eq_false_iff_ne.2 h0
    go_enter Try.func65, Try.ntmps65
    simp only [List.append_eq, List.cons_append, List.nil_append]
    go_wp2_with (go_at_call 122; refine (HH.out _ (by decide) _).mono ?_; rintro e w' ⟨rfl, rfl⟩; obtain ⟨Nv, Ni, Ns, Nr, Nb, No, Nc, Np⟩ := HNs.out; simp only [Nv, Ni, Ns, Nr, Nb, No, Nc, Np]; clear Nv Ni Ns Nr Nb No Nc Np)
    go_ret
    refine ⟨?_, by first | exact alloc_below w _ | exact below_drewN (alloc_below w _) _⟩
    simp [blankB, *]

set_option maxRecDepth 100000 in
set_option maxHeartbeats 8000000 in
theorem blank_isr (k f v i q r : Int) (Ab Ao Ac Ap : Option Addr) (nb no nc np cb co cc cp : Nat) (w : World) :
    Calls Try.prog 65 #[.agg #[.int .i64 k, .int .i64 f, .int .i64 v, .int .i64 i, .int .i64 q, .int .i64 r, .slice Ab nb cb, .slice Ao no co, .slice Ac nc cc, .slice Ap np cp], .string { data := #[105, 115, 114] }] w fun e w' => e = .returned (.bool (blankB false true true true false false false false v i q r nb no nc np)) ∧ Below w.heap.size w w' := by
  obtain ⟨s, hs⟩ : ∃ s : ByteArray, s = { data := #[105, 115, 114] } := ⟨_, rfl⟩
  rw [← hs]
  have HH := Lib.hid (has_is s 3 (by rw [hs]; rfl) (by omega))
  have Nv : hasN s 118 = false := by rw [hs]; decide
  have Ni : hasN s 105 = true := by rw [hs]; decide
  have Ns : hasN s 115 = true := by rw [hs]; decide
  have Nr : hasN s 114 = true := by rw [hs]; decide
  have Nb : hasN s 98 = false := by rw [hs]; decide
  have No : hasN s 111 = false := by rw [hs]; decide
  have Nc : hasN s 99 = false := by rw [hs]; decide
  have Np : hasN s 112 = false := by rw [hs]; decide
  have HNs := Lib.hid (And.intro Nv (And.intro Ni (And.intro Ns (And.intro Nr (And.intro Nb (And.intro No (And.intro Nc Np)))))))
  clear hs Nv Ni Ns Nr Nb No Nc Np
  by_cases h0 : v = 0
  · subst h0
    by_cases h1 : nb = 0
    · subst h1
      by_cases h2 : no = 0
      · subst h2
        by_cases h3 : nc = 0
        · subst h3
          by_cases h4 : np = 0
          · subst h4
            go_enter Try.func65, Try.ntmps65
            simp only [List.append_eq, List.cons_append, List.nil_append]
            go_wp2_with (go_at_call 122; refine (HH.out _ (by decide) _).mono ?_; rintro e w' ⟨rfl, rfl⟩; obtain ⟨Nv, Ni, Ns, Nr, Nb, No, Nc, Np⟩ := HNs.out; simp only [Nv, Ni, Ns, Nr, Nb, No, Nc, Np]; clear Nv Ni Ns Nr Nb No Nc Np)
            go_ret
            refine ⟨?_, by first | exact alloc_below w _ | exact below_drewN (alloc_below w _) _⟩
            simp [blankB, *]
          · have d4 : (((np : Nat) : Int) == 0) = false := by rw [beq_eq_false_iff_ne]; omega
            go_enter Try.func65, Try.ntmps65
            simp only [List.append_eq, List.cons_append, List.nil_append]
            go_wp2_with (go_at_call 122; refine (HH.out _ (by decide) _).mono ?_; rintro e w' ⟨rfl, rfl⟩; obtain ⟨Nv, Ni, Ns, Nr, Nb, No, Nc, Np⟩ := HNs.out; simp only [Nv, Ni, Ns, Nr, Nb, No, Nc, Np]; clear Nv Ni Ns Nr Nb No Nc Np)
            go_ret
            refine ⟨?_, by first | exact alloc_below w _ | exact below_drewN (alloc_below w _) _⟩
            simp [blankB, *]
        · have d3 : (((nc : Nat) : Int) == 0) = false := by rw [beq_eq_false_iff_ne]; omega
          go_enter Try.func65, Try.ntmps65
          simp only [List.append_eq, List.cons_append, List.nil_append]
          go_wp2_with (go_at_call 122; refine (HH.out _ (by decide) _).mono ?_; rintro e w' ⟨rfl, rfl⟩; obtain ⟨Nv, Ni, Ns, Nr, Nb, No, Nc, Np⟩ := HNs.out; simp only [Nv, Ni, Ns, Nr, Nb, No, Nc, Np]; clear Nv Ni Ns Nr Nb No Nc Np)
          go_ret
          refine ⟨?_, by first | exact alloc_below w _ | exact below_drewN (alloc_below w _) _⟩
          simp [blankB, *]
      · have d2 : (((no : Nat) : Int) == 0) = false := by rw [beq_eq_false_iff_ne]; omega
        go_enter Try.func65, Try.ntmps65
        simp only [List.append_eq, List.cons_append, List.nil_append]
        go_wp2_with (go_at_call 122; refine (HH.out _ (by decide) _).mono ?_; rintro e w' ⟨rfl, rfl⟩; obtain ⟨Nv, Ni, Ns, Nr, Nb, No, Nc, Np⟩ := HNs.out; simp only [Nv, Ni, Ns, Nr, Nb, No, Nc, Np]; clear Nv Ni Ns Nr Nb No Nc Np)
        go_ret
        refine ⟨?_, by first | exact alloc_below w _ | exact below_drewN (alloc_below w _) _⟩
        simp [blankB, *]
    · have d1 : (((nb : Nat) : Int) == 0) = false := by rw [beq_eq_false_iff_ne]; omega
      go_enter Try.func65, Try.ntmps65
      simp only [List.append_eq, List.cons_append, List.nil_append]
      go_wp2_with (go_at_call 122; refine (HH.out _ (by decide) _).mono ?_; rintro e w' ⟨rfl, rfl⟩; obtain ⟨Nv, Ni, Ns, Nr, Nb, No, Nc, Np⟩ := HNs.out; simp only [Nv, Ni, Ns, Nr, Nb, No, Nc, Np]; clear Nv Ni Ns Nr Nb No Nc Np)
      go_ret
      refine ⟨?_, by first | exact alloc_below w _ | exact below_drewN (alloc_below w _) _⟩
      simp [blankB, *]
  · have d0 : (v == 0) = false := beq_eq_false_iff_ne.2 h0
    go_enter Try.func65, Try.ntmps65
    simp only [List.append_eq, List.cons_append, List.nil_append]
    go_wp2_with (go_at_call 122; refine (HH.out _ (by decide) _).mono ?_; rintro e w' ⟨rfl, rfl⟩; obtain ⟨Nv, Ni, Ns, Nr, Nb, No, Nc, Np⟩ := HNs.out; simp only [Nv, Ni, Ns, Nr, Nb, No, Nc, Np]; clear Nv Ni Ns Nr Nb No Nc Np)
    go_ret
    refine ⟨?_, by first | exact alloc_below w _ | exact below_drewN (alloc_below w _) _⟩
    simp [blankB, *]
end Go.Proofs.Ytljfoajhobambaa

end

section
/- The reference's form: place, seals, batch, cert. -/
namespace Go.Proofs.Ytljfoajhobambaa
open Go.RowKit
set_option linter.unusedVariables false
set_option linter.unusedSimpArgs false

theorem box_below' {W W' : World} {g : Nat} {o : Obj} (h : W.heap[g]? = some o) (hb : Below W.heap.size W W') : W'.heap[g]? = some o :=
  (hb.block g (Array.getElem?_eq_some_iff.1 h).1).trans h

set_option maxRecDepth 100000 in
set_option maxHeartbeats 2000000 in
theorem rplace_any (v i q f : Int) (w : World) : Calls Try.prog 67 #[.int .i64 v, .int .i64 i, .int .i64 q, .int .i64 f] w fun e w' => e = .returned (.bool (Psp.placeB v i q f)) ∧ w = w' := by
  have hP : Psp.placeB v i q f = decide (0 ≤ v ∧ v ≤ 12 ∧ 0 ≤ i ∧ i ≤ f ∧ 1 ≤ q ∧ q ≤ 16) := by
    unfold Psp.placeB Psp.win; rw [Bool.eq_iff_iff]; simp; omega
  rw [hP]
  have HP := Lib.hid hP
  clear hP HP
  by_cases h1 : 0 ≤ v
  case' neg => have d1 : decide (v ≥ 0) = false := decide_eq_false h1; have hr : decide (0 ≤ v ∧ v ≤ 12 ∧ 0 ≤ i ∧ i ≤ f ∧ 1 ≤ q ∧ q ≤ 16) = false := decide_eq_false (by omega)
  case' pos =>
    have d1 : decide (v ≥ 0) = true := decide_eq_true h1
    by_cases h2 : v ≤ 12
    case' neg => have d2 : decide (v ≤ 12) = false := decide_eq_false h2; have hr : decide (0 ≤ v ∧ v ≤ 12 ∧ 0 ≤ i ∧ i ≤ f ∧ 1 ≤ q ∧ q ≤ 16) = false := decide_eq_false (by omega)
    case' pos =>
      have d2 : decide (v ≤ 12) = true := decide_eq_true h2
      by_cases h3 : 0 ≤ i
      case' neg => have d3 : decide (i ≥ 0) = false := decide_eq_false h3; have hr : decide (0 ≤ v ∧ v ≤ 12 ∧ 0 ≤ i ∧ i ≤ f ∧ 1 ≤ q ∧ q ≤ 16) = false := decide_eq_false (by omega)
      case' pos =>
        have d3 : decide (i ≥ 0) = true := decide_eq_true h3
        by_cases h4 : i ≤ f
        case' neg => have d4 : decide (i ≤ f) = false := decide_eq_false h4; have hr : decide (0 ≤ v ∧ v ≤ 12 ∧ 0 ≤ i ∧ i ≤ f ∧ 1 ≤ q ∧ q ≤ 16) = false := decide_eq_false (by omega)
        case' pos =>
          have d4 : decide (i ≤ f) = true := decide_eq_true h4
          by_cases h5 : 1 ≤ q
          case' neg => have d5 : decide (q ≥ 1) = false := decide_eq_false h5; have hr : decide (0 ≤ v ∧ v ≤ 12 ∧ 0 ≤ i ∧ i ≤ f ∧ 1 ≤ q ∧ q ≤ 16) = false := decide_eq_false (by omega)
          case' pos =>
            have d5 : decide (q ≥ 1) = true := decide_eq_true h5
            by_cases h6 : q ≤ 16
            case' neg => have d6 : decide (q ≤ 16) = false := decide_eq_false h6; have hr : decide (0 ≤ v ∧ v ≤ 12 ∧ 0 ≤ i ∧ i ≤ f ∧ 1 ≤ q ∧ q ≤ 16) = false := decide_eq_false (by omega)
            case' pos => have d6 : decide (q ≤ 16) = true := decide_eq_true h6; have hr : decide (0 ≤ v ∧ v ≤ 12 ∧ 0 ≤ i ∧ i ≤ f ∧ 1 ≤ q ∧ q ≤ 16) = true := decide_eq_true ⟨h1, h2, h3, h4, h5, h6⟩
  all_goals
    have Hr := Lib.hid hr
    clear hr
    go_enter Try.func67, Try.ntmps67
    go_wp2_with fail
    go_ret
    first | exact ⟨rfl, rfl⟩ | exact ⟨by rw [Hr.out]; rfl, rfl⟩

set_option maxRecDepth 100000 in
set_option maxHeartbeats 2000000 in
theorem rseals_l (l : List Psp.Vote) (n : Nat) (x : Value) (w : World) (P : Nat → Prop) (hx : RdP w P 2 x n (l.flatMap vt)) (hn : l.length = n) :
    Calls Try.prog 124 #[x] w fun e w' => e = .returned (.bool (Psp.sealsB l)) ∧ w = w' := by
  obtain ⟨_, A, c, rfl, hc1, hc2, _⟩ := hx.parts
  have HX := Lib.hid hx
  have Hn := Lib.hid hn
  clear hx hn
  go_enter Try.func124, Try.ntmps124
  go_wp2_with fail
  go_loopw [3] (fun i wr => ∃ k : Nat, i = .int .i64 (k : Int) ∧ k ≤ n ∧ wr = w ∧ Hid (∀ (j : Nat) (y : Psp.Vote), j < k → l[j]? = some y → Psp.sealB y.s = true)) (fun i _ => n - (intOf i).toNat)
  case atStart => exact ⟨0, rfl, Nat.zero_le _, rfl, Lib.hid fun j y hj => by omega⟩
  case round =>
    obtain ⟨k, rfl, hk, rfl, HI⟩ := hrel
    by_cases hlt : k < n
    · obtain ⟨b0, o0, c0, y, he, hb0, hb1, hy, hel⟩ := rd_elem (f := vt) (k := 2) (fun _ => rfl) (by omega) HX.out Hn.out hlt
      injection he with he1 _ he2
      subst he1 he2
      have hq := hel wr rfl
      have kc : wr.cell? ⟨b0, o0 + k * 2 + 1, none⟩ = some (.int .i64 y.s) := hq 1 (iv y.s) rfl
      have Hy := Lib.hid hy
      have d0 : decide ((k : Int) < (n : Int)) = true := by simp; omega
      have hS : Psp.sealB y.s = decide (0 ≤ y.s ∧ y.s < 1099511627776) := by unfold Psp.sealB Psp.win; rw [Bool.eq_iff_iff]; simp; omega
      have HS := Lib.hid hS
      clear hel hy hq hS
      by_cases hs : 0 ≤ y.s ∧ y.s < 1099511627776
      · obtain ⟨s0, s1⟩ := hs
        have d1 : decide (y.s < 0) = false := decide_eq_false (by omega)
        have d2 : decide (y.s ≥ 1099511627776) = false := decide_eq_false (by omega)
        have HI2 : Hid (∀ (j : Nat) (z : Psp.Vote), j < k + 1 → l[j]? = some z → Psp.sealB z.s = true) := Lib.hid fun j z hj hz => by
          by_cases he : j = k
          · subst he; have e1 := Hy.out.symm.trans hz; injection e1 with e1; subst e1; rw [HS.out]; exact decide_eq_true ⟨s0, s1⟩
          · exact HI.out j z (by omega) hz
        clear HI
        go_wp2_with fail
        first
          | (go_roundw
             case rel => exact ⟨k + 1, by go_num, by omega, (by first | rfl | trivial), HI2⟩
             case measure => simp [intOf]; omega)
          | (refine ⟨⟨k + 1, by go_num, by omega, (by first | rfl | trivial), HI2⟩, ?_⟩
             simp [intOf]; omega)
      · have Hf : Hid (Psp.sealsB l = false) := Lib.hid (by unfold Psp.sealsB; exact Psp.all_not (p := fun v : Psp.Vote => Psp.sealB v.s) Hy.out (by rw [HS.out]; exact decide_eq_false hs))
        clear HI
        by_cases h0 : y.s < 0
        · have d1 : decide (y.s < 0) = true := decide_eq_true h0
          clear hs
          go_wp2_with fail
          go_ret
          exact ⟨by rw [Hf.out]; rfl, rfl⟩
        · have d1 : decide (y.s < 0) = false := decide_eq_false h0
          have d2 : decide (y.s ≥ 1099511627776) = true := decide_eq_true (by omega)
          clear hs
          go_wp2_with fail
          go_ret
          exact ⟨by rw [Hf.out]; rfl, rfl⟩
    · obtain rfl : k = n := by omega
      have d0 : decide ((k : Int) < (k : Int)) = false := by simp
      have Hf : Hid (Psp.sealsB l = true) := Lib.hid (by unfold Psp.sealsB; exact Psp.all_take fun j hj y hy => HI.out j y (by rw [← Hn.out]; exact hj) hy)
      clear HI
      go_wp2_with fail
      go_ret
      exact ⟨by rw [Hf.out]; rfl, rfl⟩

set_option maxRecDepth 100000 in
set_option maxHeartbeats 2000000 in
theorem rbatch_l (l : List Psp.Req) (n : Nat) (x : Value) (cl : Int) (w : World) (P : Nat → Prop) (hx : RdP w P 6 x n (l.flatMap rq)) (hn : l.length = n) :
    Calls Try.prog 68 #[x, .int .i64 cl] w fun e w' => e = .returned (.bool (Psp.batchB l cl 0 4)) ∧ Below w.heap.size w w' := by
  obtain ⟨_, A, c, rfl, hc1, hc2, _⟩ := hx.parts
  have HX := Lib.hid hx
  have Hn := Lib.hid hn
  clear hx hn
  go_enter Try.func68, Try.ntmps68
  by_cases h4 : 4 < n
  · have d4 : decide ((n : Int) > 4) = true := by simp; omega
    have Hf : Hid (Psp.batchB l cl 0 4 = false) := Lib.hid (by unfold Psp.batchB; rw [Hn.out, (Psp.win_no _ _ _).2 (by omega), Bool.and_false])
    go_wp2_with fail
    go_ret
    exact ⟨by rw [Hf.out]; rfl, Below.refl _ _⟩
  have d4 : decide ((n : Int) > 4) = false := by simp; omega
  go_wp2_with fail
  go_loopw [5] (fun i wr => ∃ k : Nat, i = .int .i64 (k : Int) ∧ k ≤ n ∧ Hid (∀ (j : Nat) (y : Psp.Req), j < k → l[j]? = some y → Psp.valid y cl = true) ∧ Hid (Below w.heap.size w wr)) (fun i _ => n - (intOf i).toNat)
  case atStart => exact ⟨0, rfl, Nat.zero_le _, Lib.hid fun j y hj => by omega, Lib.hid (Below.refl _ _)⟩
  case round =>
    obtain ⟨k, rfl, hk, HI, HB⟩ := hrel
    by_cases hlt : k < n
    · obtain ⟨b0, o0, c0, y, he, hb0, hb1, hy, hel⟩ := rd_elem (f := rq) (k := 6) (fun _ => rfl) (by omega) HX.out Hn.out hlt
      injection he with he1 _ he2
      subst he1 he2
      have HQ := Lib.hid (hel wr (HB.out.block b0 hb1))
      have Hy := Lib.hid hy
      have d1 : decide ((k : Int) < (n : Int)) = true := by simp; omega
      clear hel hy
      obtain ⟨sb, hsb⟩ : ∃ sb, Psp.valid y cl = sb := ⟨_, rfl⟩
      go_wp2_with (first | (refine list_load rfl 50 (.tmp 17) rfl b0 (o0 + k * 6) rfl (rq y) _ HQ.out Try.underlying50 rfl rst_sizeR ?_))
      refine (rvalid_any y cl wr).mono ?_
      rw [hsb]
      rintro e w2 ⟨rfl, hb2⟩
      have HB2 := Lib.hid (Below.then HB.out hb2 HB.out.size)
      have Hsb := Lib.hid hsb
      clear hb2 hsb HQ
      cases sb with
      | true =>
        have HI2 : Hid (∀ (j : Nat) (z : Psp.Req), j < k + 1 → l[j]? = some z → Psp.valid z cl = true) := Lib.hid fun j z hj hz => by
          by_cases he : j = k
          · subst he; have e1 := Hy.out.symm.trans hz; injection e1 with e1; subst e1; exact Hsb.out
          · exact HI.out j z (by omega) hz
        clear HI
        go_wp2_with fail
        first
          | (go_roundw
             case rel => exact ⟨k + 1, by go_num, by omega, HI2, HB2⟩
             case measure => simp [intOf]; omega)
          | (refine ⟨⟨k + 1, by go_num, by omega, HI2, HB2⟩, ?_⟩
             simp [intOf]; omega)
      | false =>
        have Hf : Hid (Psp.batchB l cl 0 4 = false) := Lib.hid (by unfold Psp.batchB Psp.validsB; rw [Psp.all_not (p := fun r => Psp.valid r cl) Hy.out Hsb.out]; rfl)
        clear HI
        go_wp2_with fail
        go_ret
        exact ⟨by rw [Hf.out]; rfl, HB2.out⟩
    · obtain rfl : k = n := by omega
      have d1 : decide ((k : Int) < (k : Int)) = false := by simp
      have Hf : Hid (Psp.batchB l cl 0 4 = true) := Lib.hid (by
        unfold Psp.batchB Psp.validsB
        rw [Psp.all_take (p := fun r => Psp.valid r cl) (l := l) fun j hj y hy => HI.out j y (by rw [← Hn.out]; exact hj) hy, Hn.out, (Psp.win_iff _ _ _).2 ⟨by omega, by omega⟩]; rfl)
      clear HI
      go_wp2_with fail
      go_ret
      exact ⟨by rw [Hf.out]; rfl, HB.out⟩

set_option maxRecDepth 100000 in
set_option maxHeartbeats 4000000 in
theorem rcert_l (c : Psp.Cert) (vb vo : Value) (f cl : Int) (w : World) (P : Nat → Prop) (hx : CertOk w P ⟨c, vb, vo⟩) (hw : ∀ v ∈ c.o, wfVote v) :
    Calls Try.prog 72 #[.agg #[.int .i64 c.v, .int .i64 c.i, .int .i64 c.q, vb, vo], .int .i64 f, .int .i64 cl] w fun e w' => e = .returned (.bool (Psp.certB c f cl)) ∧ Below w.heap.size w w' := by
  obtain ⟨_, A1, c1, e1, _⟩ := RdP.parts hx.1
  obtain ⟨_, A2, c2, e2, _⟩ := RdP.parts hx.2
  dsimp only at e1 e2
  subst e1 e2
  have HX := Lib.hid hx
  have Hw := Lib.hid hw
  have hb0 := alloc_below w (.cells #[.int .i64 c.v, .int .i64 c.i, .int .i64 c.q, .slice A1 c.b.length c1, .slice A2 c.o.length c2] 70)
  have hc0 := heap_alloc_new w (.cells #[.int .i64 c.v, .int .i64 c.i, .int .i64 c.q, .slice A1 c.b.length c1, .slice A2 c.o.length c2] 70)
  clear hx hw
  obtain ⟨b1, hb1⟩ : ∃ x, Psp.placeB c.v c.i c.q f = x := ⟨_, rfl⟩
  obtain ⟨b2, hb2⟩ : ∃ x, Psp.batchB c.b cl 0 4 = x := ⟨_, rfl⟩
  obtain ⟨b3, hb3⟩ : ∃ x, Psp.rising (c.o.map (·.n)) f = x := ⟨_, rfl⟩
  obtain ⟨b4, hb4⟩ : ∃ x, Psp.sealsB c.o = x := ⟨_, rfl⟩
  have Hr : Hid (Psp.certB c f cl = (b1 && (b2 && (b4 && b3)))) := Lib.hid (by unfold Psp.certB Psp.votesB; rw [hb1, hb2, hb3, hb4])
  go_enter Try.func72, Try.ntmps72
  go_wp2_with fail
  obtain ⟨W0, hW0⟩ : ∃ W, w.alloc (.cells #[.int .i64 c.v, .int .i64 c.i, .int .i64 c.q, .slice A1 c.b.length c1, .slice A2 c.o.length c2] 70) = W := ⟨_, rfl⟩
  rw [hW0] at hb0 hc0 ⊢
  have HB0 := Lib.hid hb0
  have HC0 := Lib.hid hc0
  have hlt := (Array.getElem?_eq_some_iff.1 hc0).1
  clear hW0 hb0 hc0
  refine (rplace_any c.v c.i c.q f W0).mono ?_
  rw [hb1]
  rintro e w1 ⟨rfl, rfl⟩
  have Hb1 := Lib.hid hb1
  clear hb1
  cases b1 with
  | false =>
    go_wp2_with fail
    go_ret
    exact ⟨by rw [Hr.out]; rfl, HB0.out⟩
  | true =>
    have kc : W0.cell? ⟨w.heap.size, 3, none⟩ = some (.slice A1 c.b.length c1) := by rw [cell_of_row _ _ 3 _ _ _ HC0.out]; rfl
    go_wp2_with fail
    clear kc
    refine (rbatch_l c.b c.b.length (.slice A1 c.b.length c1) cl W0 _ (HX.out.1.keeps (Keeps.below HB0.out)) rfl).mono ?_
    rw [hb2]
    rintro e w2 ⟨rfl, hb⟩
    have HB2 := Lib.hid (Below.then HB0.out hb HB0.out.size)
    have HC2 := Lib.hid (box_below' HC0.out hb)
    clear hb hb2
    cases b2 with
    | false =>
      go_wp2_with fail
      go_ret
      exact ⟨by rw [Hr.out]; rfl, HB2.out⟩
    | true =>
      have kc : w2.cell? ⟨w.heap.size, 4, none⟩ = some (.slice A2 c.o.length c2) := by rw [cell_of_row _ _ 4 _ _ _ HC2.out]; rfl
      go_wp2_with fail
      clear kc
      refine (rrising_l c.o c.o.length (.slice A2 c.o.length c2) f w2 _ (HX.out.2.keeps (Keeps.below HB2.out)) rfl Hw.out).mono ?_
      rw [hb3]
      rintro e w3 ⟨rfl, hb⟩
      have HB3 := Lib.hid (Below.then HB2.out hb HB2.out.size)
      have HC3 := Lib.hid (box_below' HC2.out hb)
      clear hb hb3
      cases b3 with
      | false =>
        go_wp2_with fail
        go_ret
        exact ⟨by rw [Hr.out]; simp, HB3.out⟩
      | true =>
        have kc : w3.cell? ⟨w.heap.size, 4, none⟩ = some (.slice A2 c.o.length c2) := by rw [cell_of_row _ _ 4 _ _ _ HC3.out]; rfl
        go_wp2_with fail
        clear kc
        refine (rseals_l c.o c.o.length (.slice A2 c.o.length c2) w3 _ (HX.out.2.keeps (Keeps.below HB3.out)) rfl).mono ?_
        rw [hb4]
        rintro e w4 ⟨rfl, rfl⟩
        clear hb4
        go_wp2_with fail
        go_ret
        exact ⟨by rw [Hr.out]; simp, HB3.out⟩
end Go.Proofs.Ytljfoajhobambaa

end

section
/- The reference's form: viewChange. Printed by gen_rf4.py. -/
namespace Go.Proofs.Ytljfoajhobambaa
open Go.RowKit
set_option linter.unusedVariables false
set_option linter.unusedSimpArgs false

set_option maxRecDepth 100000 in
set_option maxHeartbeats 8000000 in
theorem rchange_l (view : Int) (lo : List Psp.Vote) (lc : List Psp.Cert) (vo vc : Value) (f cl : Int) (w : World) (P : Nat → Prop) (hx : RdV w P vo lo) (hc : RdC w P vc lc) (hw : ∀ v ∈ lo, wfVote v) (hwc : ∀ c ∈ lc, wfCert c) :
    Calls Try.prog 70 #[.int .i64 view, vo, vc, .int .i64 f, .int .i64 cl] w fun e w' => e = .returned (.bool (Psp.changeB view lo lc f cl)) ∧ Below w.heap.size w w' := by
  obtain ⟨L, hL, hr, hcs⟩ := hc
  obtain ⟨n, hn⟩ : ∃ n, L.length = n := ⟨_, rfl⟩
  rw [hn] at hr
  obtain ⟨_, Ac, cc, rfl, hc1, hc2, _⟩ := hr.parts
  obtain ⟨_, Ao, co, rfl, _⟩ := RdP.parts (show RdP _ _ 2 vo lo.length (lo.flatMap vt) from hx)
  have HX := Lib.hid hx
  have HR := Lib.hid hr
  have Hcs := Lib.hid hcs
  have Hn := Lib.hid hn
  have HLm := Lib.hid hL
  have Hw := Lib.hid hw
  have Hwc := Lib.hid hwc
  obtain ⟨b2, hb2⟩ : ∃ x, Psp.rising (lo.map (·.n)) f = x := ⟨_, rfl⟩
  obtain ⟨b3, hb3⟩ : ∃ x, Psp.sealsB lo = x := ⟨_, rfl⟩
  have Hr0 : Hid (Psp.changeB view lo lc f cl = (Psp.win view 1 12 && ((b3 && b2) && Psp.certsB view lc f cl))) := Lib.hid (by unfold Psp.changeB Psp.votesB; rw [hb2, hb3])
  clear hx hr hcs hn hL hw hwc
  go_enter Try.func70, Try.ntmps70
  by_cases hv1 : view < 1
  · have dv1 : decide (view < 1) = true := decide_eq_true hv1
    have Hr : Hid (Psp.changeB view lo lc f cl = false) := Lib.hid (by rw [Hr0.out, (Psp.win_no _ _ _).2 (by omega)]; rfl)
    go_wp2_with fail
    go_ret
    exact ⟨by rw [Hr.out]; rfl, Below.refl _ _⟩
  by_cases hv2 : 12 < view
  · have dv1 : decide (view < 1) = false := decide_eq_false hv1
    have dv2 : decide (view > 12) = true := decide_eq_true hv2
    have Hr : Hid (Psp.changeB view lo lc f cl = false) := Lib.hid (by rw [Hr0.out, (Psp.win_no _ _ _).2 (by omega)]; rfl)
    go_wp2_with fail
    go_ret
    exact ⟨by rw [Hr.out]; rfl, Below.refl _ _⟩
  have dv1 : decide (view < 1) = false := decide_eq_false hv1
  have dv2 : decide (view > 12) = false := decide_eq_false hv2
  have Hr : Hid (Psp.changeB view lo lc f cl = ((b3 && b2) && Psp.certsB view lc f cl)) := Lib.hid (by rw [Hr0.out, (Psp.win_iff _ _ _).2 ⟨by omega, by omega⟩]; rfl)
  clear Hr0 hv1 hv2
  go_wp2_with fail
  refine (rrising_l lo lo.length (.slice Ao lo.length co) f w _ HX.out rfl Hw.out).mono ?_
  rw [hb2]
  rintro e w1 ⟨rfl, hb⟩
  have HL0 := Lib.hid hb
  clear hb hb2
  cases b2 with
  | false =>
    go_wp2_with fail
    go_ret
    exact ⟨by rw [Hr.out, Bool.and_false]; rfl, HL0.out⟩
  | true =>
    go_wp2_with fail
    refine (rseals_l lo lo.length (.slice Ao lo.length co) w1 _ (RdP.keeps HX.out (Keeps.below HL0.out)) rfl).mono ?_
    rw [hb3]
    rintro e w2 ⟨rfl, rfl⟩
    clear hb3
    cases b3 with
    | false =>
      go_wp2_with fail
      go_ret
      exact ⟨by rw [Hr.out]; rfl, HL0.out⟩
    | true =>
      go_wp2_with fail
      go_loopw [11] (fun i wr => ∃ k : Nat, i = .int .i64 (k : Int) ∧ k ≤ n ∧ Hid (∀ (j : Nat) (y : Psp.Cert), j < k → lc[j]? = some y → (Psp.certB y f cl && decide (y.v < view)) = true) ∧ Hid (∀ (j : Nat) (x y : Psp.Cert), j + 1 < k → lc[j]? = some x → lc[j + 1]? = some y → Psp.ltC x y = true) ∧ Hid (Below w.heap.size w wr)) (fun i _ => n - (intOf i).toNat)
      case atStart => exact ⟨0, rfl, Nat.zero_le _, Lib.hid fun j y hj => by omega, Lib.hid fun j x y hj => by omega, HL0⟩
      case round =>
        clear HL0
        obtain ⟨k, rfl, hk, HI, HJ, HL⟩ := hrel
        by_cases hlt : k < n
        · obtain ⟨b0, o0, c0, y, he, hb0, hb1, hy, hel⟩ := rd_elem (f := cv) (k := 5) (fun _ => rfl) (by omega) HR.out Hn.out hlt
          injection he with he1 _ he2
          subst he1 he2
          have hok := Hcs.out y (List.mem_of_getElem? hy)
          obtain ⟨cy, yb, yo⟩ := y
          obtain ⟨_, A1, c1, e1, _⟩ := RdP.parts hok.1
          obtain ⟨_, A2, c2, e2, _⟩ := RdP.parts hok.2
          dsimp only at e1 e2
          subst e1 e2
          have hq : wr.rangeAt b0 (o0 + k * 5) [.int .i64 cy.v, .int .i64 cy.i, .int .i64 cy.q, .slice A1 cy.b.length c1, .slice A2 cy.o.length c2] := hel wr (HL.out.block b0 hb1)
          have HQ := Lib.hid hq
          have hyl : lc[k]? = some cy := by have := map_get (g := CertV.c) hy; rwa [HLm.out] at this
          have Hy := Lib.hid hyl
          have Hok := Lib.hid (show CertOk w P ⟨cy, .slice A1 cy.b.length c1, .slice A2 cy.o.length c2⟩ from hok)
          have Hwy := Lib.hid (Hwc.out cy (List.mem_of_getElem? hyl)).2.2.2.2
          have d1 : decide ((k : Int) < (n : Int)) = true := by simp; omega
          clear hel hyl hok hq
          go_upto_region 7 with (first | (refine list_load rfl 70 (.tmp 38) rfl b0 (o0 + k * 5) rfl [.int .i64 cy.v, .int .i64 cy.i, .int .i64 cy.q, .slice A1 cy.b.length c1, .slice A2 cy.o.length c2] _ HQ.out Try.underlying70 rfl sizeC ?_) | (refine list_store_new rfl 70 (.tmp 12) (.tmp 39) rfl _ _ [.int .i64 cy.v, .int .i64 cy.i, .int .i64 cy.q, .slice A1 cy.b.length c1, .slice A2 cy.o.length c2] rfl rfl rfl sizeC (by simp [Value.oneCell']) ?_; intro w1 hbw hr1 hs1))
          have HL1 := Lib.hid (Below.then HL.out hbw HL.out.size)
          have HR1 := Lib.hid hr1
          have hs1' : wr.heap.size < w1.heap.size := by omega
          clear hbw hr1 HQ hs1
          go_wp2_with (first | (refine list_load rfl 70 (.tmp 12) rfl wr.heap.size 0 rfl [.int .i64 cy.v, .int .i64 cy.i, .int .i64 cy.q, .slice A1 cy.b.length c1, .slice A2 cy.o.length c2] _ HR1.out Try.underlying70 rfl sizeC ?_))
          refine (rcert_l cy _ _ f cl w1 _ (Hok.out.keeps (Keeps.below HL1.out)) Hwy.out).mono ?_
          obtain ⟨sb, hsb⟩ : ∃ sb, Psp.certB cy f cl = sb := ⟨_, rfl⟩
          rw [hsb]
          rintro e w2 ⟨rfl, hb2⟩
          have HL2 := Lib.hid (Below.then HL1.out hb2 HL1.out.size)
          have HR2 := Lib.hid (range_keep HR1.out (hb2.block _ hs1'))
          have Hsb := Lib.hid hsb
          clear hb2 HL1 HR1 hs1' hsb Hok Hwy
          cases sb with
          | false =>
            have Hf := Lib.hid (certsB_not (view := view) Hy.out (by rw [Hsb.out]; rfl))
            clear HI HJ
            go_wp2_with fail
            go_ret
            exact ⟨by rw [Hr.out, Hf.out]; rfl, HL2.out⟩
          | true =>
            have kv : w2.cell? ⟨wr.heap.size, 0, none⟩ = some (.int .i64 cy.v) := by have := HR2.out 0 _ rfl; simpa using this
            by_cases hv : cy.v < view
            case' neg =>
              have dv : decide (cy.v ≥ view) = true := by simp; omega
              have Hf := Lib.hid (certsB_not (view := view) (f := f) (cl := cl) Hy.out (by rw [decide_eq_false hv, Bool.and_false]))
              clear HI HJ hv
              go_wp2_with fail
              go_ret
              exact ⟨by rw [Hr.out, Hf.out]; rfl, HL2.out⟩
            case' pos =>
              have dv : decide (cy.v ≥ view) = false := by simp; omega
              have ki : w2.cell? ⟨wr.heap.size, 1, none⟩ = some (.int .i64 cy.i) := by have := HR2.out 1 _ rfl; simpa using this
              have kq : w2.cell? ⟨wr.heap.size, 2, none⟩ = some (.int .i64 cy.q) := by have := HR2.out 2 _ rfl; simpa using this
              have HI2 : Hid (∀ (j : Nat) (z : Psp.Cert), j < k + 1 → lc[j]? = some z → (Psp.certB z f cl && decide (z.v < view)) = true) := Lib.hid fun j z hj hz => by
                by_cases he : j = k
                · subst he; have e1 := Hy.out.symm.trans hz; injection e1 with e1; subst e1; rw [Hsb.out, decide_eq_true hv]; rfl
                · exact HI.out j z (by omega) hz
              clear HI
              by_cases hk0 : k = 0
              · subst hk0
                have d2 : decide ((0 : Int) < ((0 : Nat) : Int)) = false := by simp
                have HJ2 : Hid (∀ (j : Nat) (x z : Psp.Cert), j + 1 < 0 + 1 → lc[j]? = some x → lc[j + 1]? = some z → Psp.ltC x z = true) := Lib.hid fun j x z hj => by omega
                clear HJ
                go_wp2_with fail
                go_quiet (fail)
                go_wp2_with fail
                go_roundw
                case rel => exact ⟨0 + 1, by go_num, by omega, HI2, HJ2, (by first | exact HL2 | exact Lib.hid (below_drewN HL2.out _))⟩
                case measure => simp [intOf]; omega
              · obtain ⟨p, rfl⟩ : ∃ p, k = p + 1 := ⟨k - 1, by omega⟩
                obtain ⟨b3, o3, c3, z, he, _, _, hz, hel⟩ := rd_elem (f := cv) (k := 5) (fun _ => rfl) (by omega) HR.out Hn.out (show p < n by omega)
                injection he with he1 _ he2
                injection he1 with he1
                injection he1 with he3 he4
                subst he3 he4 he2
                have hrg := hel w2 (HL2.out.block b0 hb1)
                have pi : w2.cell? ⟨b0, o0 + p * 5 + 1, none⟩ = some (.int .i64 z.c.i) := hrg 1 _ rfl
                have pq : w2.cell? ⟨b0, o0 + p * 5 + 2, none⟩ = some (.int .i64 z.c.q) := hrg 2 _ rfl
                have hzl : lc[p]? = some z.c := by have := map_get (g := CertV.c) hz; rwa [HLm.out] at this
                obtain ⟨cz, hcz⟩ : ∃ cz, z.c = cz := ⟨_, rfl⟩
                rw [hcz] at pi pq hzl
                have Hz := Lib.hid hzl
                have d2 : decide ((0 : Int) < ((p + 1 : Nat) : Int)) = true := by rw [decide_eq_true_eq]; omega
                have z1 : ((p + 1 : Nat) : Int) - 1 = (p : Int) := by omega
                clear hel hrg hz hzl hcz hk0
                by_cases h1 : cy.i < cz.i
                · have d3 : decide (cy.i < cz.i) = true := decide_eq_true h1
                  have Hf := Lib.hid (certsB_down (view := view) (f := f) (cl := cl) Hz.out Hy.out (by unfold Psp.ltC; rw [decide_eq_false_iff_not]; omega))
                  clear HJ
                  go_wp2_with fail
                  go_quiet (fail)
                  go_wp2_with fail
                  go_ret
                  exact ⟨by rw [Hr.out, Hf.out]; rfl, by first | exact HL2.out | exact below_drewN HL2.out _⟩
                · have d3 : decide (cy.i < cz.i) = false := decide_eq_false h1
                  by_cases h2 : cy.i = cz.i
                  · have d4 : (cy.i == cz.i) = true := beq_iff_eq.2 h2
                    by_cases h3 : cy.q ≤ cz.q
                    · have d5 : decide (cy.q ≤ cz.q) = true := decide_eq_true h3
                      have Hf := Lib.hid (certsB_down (view := view) (f := f) (cl := cl) Hz.out Hy.out (by unfold Psp.ltC; rw [decide_eq_false_iff_not]; omega))
                      clear HJ
                      go_wp2_with fail
                      go_quiet (fail)
                      go_wp2_with fail
                      go_ret
                      exact ⟨by rw [Hr.out, Hf.out]; rfl, by first | exact HL2.out | exact below_drewN HL2.out _⟩
                    · have d5 : decide (cy.q ≤ cz.q) = false := decide_eq_false h3
                      have Hlt : Hid (Psp.ltC cz cy = true) := Lib.hid (by unfold Psp.ltC; rw [decide_eq_true_eq]; omega)
                      have HJ2 : Hid (∀ (j : Nat) (x t : Psp.Cert), j + 1 < p + 1 + 1 → lc[j]? = some x → lc[j + 1]? = some t → Psp.ltC x t = true) := Lib.hid fun j x t hj hx ht => by
                        by_cases he : j = p
                        · subst he
                          have e1 := Hz.out.symm.trans hx
                          have e2 := Hy.out.symm.trans ht
                          injection e1 with e1
                          injection e2 with e2
                          subst e1 e2
                          exact Hlt.out
                        · exact HJ.out j x t (by omega) hx ht
                      clear HJ Hlt
                      go_wp2_with fail
                      go_quiet (fail)
                      go_wp2_with fail
                      go_roundw
                      case rel => exact ⟨p + 1 + 1, by go_num, by omega, HI2, HJ2, (by first | exact HL2 | exact Lib.hid (below_drewN HL2.out _))⟩
                      case measure => simp [intOf]; omega
                  · have d4 : (cy.i == cz.i) = false := beq_eq_false_iff_ne.2 h2
                    have Hlt : Hid (Psp.ltC cz cy = true) := Lib.hid (by unfold Psp.ltC; rw [decide_eq_true_eq]; omega)
                    have HJ2 : Hid (∀ (j : Nat) (x t : Psp.Cert), j + 1 < p + 1 + 1 → lc[j]? = some x → lc[j + 1]? = some t → Psp.ltC x t = true) := Lib.hid fun j x t hj hx ht => by
                      by_cases he : j = p
                      · subst he
                        have e1 := Hz.out.symm.trans hx
                        have e2 := Hy.out.symm.trans ht
                        injection e1 with e1
                        injection e2 with e2
                        subst e1 e2
                        exact Hlt.out
                      · exact HJ.out j x t (by omega) hx ht
                    clear HJ Hlt
                    go_wp2_with fail
                    go_quiet (fail)
                    go_wp2_with fail
                    go_roundw
                    case rel => exact ⟨p + 1 + 1, by go_num, by omega, HI2, HJ2, (by first | exact HL2 | exact Lib.hid (below_drewN HL2.out _))⟩
                    case measure => simp [intOf]; omega
        · obtain rfl : k = n := by omega
          have Hf : Hid (Psp.certsB view lc f cl = true) := Lib.hid (certsB_yes (fun j x hx => HI.out j x (by have := (List.getElem?_eq_some_iff.1 hx).1; rw [← HLm.out, List.length_map, Hn.out] at this; exact this) hx) (fun j x y hx hy => HJ.out j x y (by have := (List.getElem?_eq_some_iff.1 hy).1; rw [← HLm.out, List.length_map, Hn.out] at this; exact this) hx hy))
          clear HI HJ
          go_wp2_with fail
          go_ret
          exact ⟨by rw [Hr.out, Hf.out]; rfl, HL.out⟩
end Go.Proofs.Ytljfoajhobambaa

end

section
/- The reference's form: parts. Printed by gen_rf5.py. -/
namespace Go.Proofs.Ytljfoajhobambaa
open Go.RowKit
set_option linter.unusedVariables false
set_option linter.unusedSimpArgs false

/-- The message's box. -/
structure Mk (w0 W : World) (cs : Array Value) : Prop where
  box : W.heap[w0.heap.size]? = some (.cells cs 27 (0, 0))
  be : Below w0.heap.size w0 W
theorem Mk.new (w : World) (cs : Array Value) : Mk w (w.alloc (.cells cs 27)) cs := ⟨heap_alloc_new w _, alloc_below w _⟩
theorem Mk.below {w0 W W' : World} {cs : Array Value} (h : Mk w0 W cs) (hb : Below W.heap.size W W') : Mk w0 W' cs := ⟨box_below' h.box hb, Below.then h.be hb h.be.size⟩
theorem Mk.cell {w0 W : World} {cs : Array Value} (h : Mk w0 W cs) {j : Nat} {u : Value} (hj : cs[j]? = some u) : W.cell? ⟨w0.heap.size, j, none⟩ = some u := by
  rw [cell_of_row _ _ j _ _ _ h.box]; exact hj

set_option maxRecDepth 100000 in
set_option maxHeartbeats 16000000 in
theorem rparts_l (m : Psp.Msg) (vb vo vc vp : Value) (f cl : Int) (w : World) (P : Nat → Prop) (hx : MsgOk w P ⟨m, vb, vo, vc, vp⟩) (hwc : ∀ c ∈ m.p, wfPart c) :
    Calls Try.prog 71 #[.agg #[.int .i64 m.k, .int .i64 m.f, .int .i64 m.v, .int .i64 m.i, .int .i64 m.q, .int .i64 m.r, vb, vo, vc, vp], .int .i64 f, .int .i64 cl] w fun e w' => e = .returned (.bool (Psp.partsB m.v m.p f cl)) ∧ Below w.heap.size w w' := by
  obtain ⟨view, hview⟩ : ∃ v, m.v = v := ⟨_, rfl⟩
  have o0 : vb.oneCell' = true := RdP.one hx.1
  have o1 : vo.oneCell' = true := RdP.one hx.2.1
  have o2 : vc.oneCell' = true := hx.2.2.1.one
  obtain ⟨l, hl⟩ : ∃ l, m.p = l := ⟨_, rfl⟩
  obtain ⟨L, hL, hr, hcs⟩ := hx.2.2.2
  dsimp only at hL hr
  rw [hl] at hL hwc
  rw [hl, hview]
  obtain ⟨n, hn⟩ : ∃ n, L.length = n := ⟨_, rfl⟩
  rw [hn] at hr
  obtain ⟨_, Ac, cc, rfl, hc1, hc2, _⟩ := hr.parts
  have HR := Lib.hid hr
  have Hcs := Lib.hid hcs
  have Hn := Lib.hid hn
  have HLm := Lib.hid hL
  have Hwc := Lib.hid hwc
  obtain ⟨Ab, cb0, eb⟩ : ∃ A c, vb = .slice A m.b.length c := by obtain ⟨_, A, c, e, _⟩ := hx.1; exact ⟨A, c, e⟩
  obtain ⟨Ao, co0, eo⟩ : ∃ A c, vo = .slice A m.o.length c := by obtain ⟨_, A, c, e, _⟩ := hx.2.1; exact ⟨A, c, e⟩
  obtain ⟨Acc, nc0, cc0, ec⟩ := hx.2.2.1.form
  subst eb eo
  dsimp only at ec
  subst ec
  have HL0 := Lib.hid (Mk.new w #[.int .i64 m.k, .int .i64 m.f, .int .i64 m.v, .int .i64 m.i, .int .i64 m.q, .int .i64 m.r, .slice Ab m.b.length cb0, .slice Ao m.o.length co0, .slice Acc nc0 cc0, .slice Ac n cc])
  have Hll : Hid (l.length = n) := Lib.hid (by rw [← hL, List.length_map, hn])
  obtain ⟨q, hq⟩ : ∃ q, Psp.quorum f = q := ⟨_, rfl⟩
  obtain ⟨hq0, hq1⟩ := Psp.quorum_bd f
  rw [hq] at hq0 hq1
  have HB : Hid (∀ W : World, Calls Try.prog 94 #[.int .i64 f] W fun e w' => e = .returned (.int .i64 q) ∧ W = w') := Lib.hid fun W => by rw [← hq]; exact r_quorum_any f W
  have Hq := Lib.hid hq
  obtain ⟨nn, hnn⟩ : ∃ x, Psp.nodes f = x := ⟨_, rfl⟩
  have HNB : Hid (∀ x, Psp.nodeB x f = Psp.win x 0 (nn - 1)) := Lib.hid fun x => by unfold Psp.nodeB; rw [hnn]
  obtain ⟨hn0, hn1⟩ := Psp.nodes_bd f
  rw [hnn] at hn0 hn1
  have HN : Hid (∀ W : World, Calls Try.prog 64 #[.int .i64 f] W fun e w' => e = .returned (.int .i64 nn) ∧ W = w') := Lib.hid fun W => by rw [← hnn]; exact r_nodes_any f W
  clear hr hcs hn hL hwc hq hnn hx hl
  go_enter Try.func71, Try.ntmps71
  go_wp2_with fail
  rw [hview] at HL0
  obtain ⟨W0, hW0⟩ : ∃ W, w.alloc (.cells #[.int .i64 m.k, .int .i64 m.f, .int .i64 view, .int .i64 m.i, .int .i64 m.q, .int .i64 m.r, .slice Ab m.b.length cb0, .slice Ao m.o.length co0, .slice Acc nc0 cc0, .slice Ac n cc] 27) = W := ⟨_, rfl⟩
  rw [hW0] at HL0 ⊢
  clear hW0 hview
  have m9 := later_cell (show W0.cell? ⟨w.heap.size, 9, none⟩ = some (.slice Ac n cc) from HL0.out.cell (j := 9) rfl)
  have HBp : Hid (∀ p : Later W0, Calls Try.prog 94 #[.int .i64 f] p.W fun e w' => e = .returned (.int .i64 q) ∧ p.W = w') := Lib.hid fun p => HB.out _
  by_cases hnq : (n : Int) = q
  case' neg =>
    have d0 : ((n : Int) != q) = true := by rw [bne_iff_ne]; exact hnq
    have Hf : Hid (Psp.partsB view l f cl = false) := Lib.hid (by unfold Psp.partsB; rw [decide_eq_false (by rw [Hll.out, Hq.out]; exact hnq)]; rfl)
    refine wp_region_later (by kernel_rfl) (by kernel_rfl) ?_
    repeat (first | go_big_quiet_step ((go_at_call 94; exact later_same _ (HBp.out _))) | quiet_step ((go_at_call 94; exact later_same _ (HBp.out _))))
    refine wpQuiet_nil ?_
    intro w2 hw'
    obtain ⟨⟨wq, hbq⟩, hw'⟩ := hw'
    have hb2 : Below W0.heap.size W0 w2 := by rw [hw']; exact hbq
    clear hw' hbq
    have HL1 := Lib.hid (HL0.out.below hb2)
    clear hb2 m9
    go_wp2_with fail
    go_ret
    exact ⟨by rw [Hf.out]; rfl, HL1.out.be⟩
  have d0 : ((n : Int) != q) = false := by rw [hnq]; simp
  have Hnq := Lib.hid hnq
  clear hnq
  refine wp_region_later (by kernel_rfl) (by kernel_rfl) ?_
  repeat (first | go_big_quiet_step ((go_at_call 94; exact later_same _ (HBp.out _))) | quiet_step ((go_at_call 94; exact later_same _ (HBp.out _))))
  refine wpQuiet_nil ?_
  intro w2 hw'
  obtain ⟨⟨wq, hbq⟩, hw'⟩ := hw'
  have hb2 : Below W0.heap.size W0 w2 := by rw [hw']; exact hbq
  clear hw' hbq
  have HL1 := Lib.hid (HL0.out.below hb2)
  clear hb2 m9
  go_wp2_with fail
  clear d0
  go_loopw [7] (fun i wr => ∃ k : Nat, i = .int .i64 (k : Int) ∧ k ≤ n ∧ Hid (∀ (j : Nat) (y : Psp.Part), j < k → l[j]? = some y → Psp.partB view y f cl = true) ∧ Hid (∀ (j : Nat) (x y : Psp.Part), j + 1 < k → l[j]? = some x → l[j + 1]? = some y → x.f < y.f) ∧ Hid (Mk w wr #[.int .i64 m.k, .int .i64 m.f, .int .i64 view, .int .i64 m.i, .int .i64 m.q, .int .i64 m.r, .slice Ab m.b.length cb0, .slice Ao m.o.length co0, .slice Acc nc0 cc0, .slice Ac n cc])) (fun i _ => n - (intOf i).toNat)
  case atStart => exact ⟨0, rfl, Nat.zero_le _, Lib.hid fun j y hj => by omega, Lib.hid fun j x y hj => by omega, HL1⟩
  case round =>
    clear HL0 HL1
    obtain ⟨k, rfl, hk, HI, HJ, HL⟩ := hrel
    have m9 : wr.cell? ⟨w.heap.size, 9, none⟩ = some (.slice Ac n cc) := HL.out.cell (j := 9) rfl
    by_cases hlt : k < n
    · obtain ⟨b0, o0', c0, y, he, hb0, hb1, hy, hel⟩ := rd_elem (f := pv) (k := 4) (fun _ => rfl) (by omega) HR.out Hn.out hlt
      injection he with he1 _ he2
      subst he1 he2
      have hok := Hcs.out y (List.mem_of_getElem? hy)
      obtain ⟨py, yo, yc⟩ := y
      obtain ⟨_, A1, c1, e1, _⟩ := RdP.parts hok.1
      obtain ⟨Lc, hk1, hk2, hk3⟩ := hok.2
      obtain ⟨_, A2, c2, e2, _⟩ := RdP.parts hk2
      dsimp only at e1 e2
      subst e1 e2
      have hq : wr.rangeAt b0 (o0' + k * 4) [.int .i64 py.f, .slice A1 py.o.length c1, .slice A2 Lc.length c2, .int .i64 py.s] := hel wr (HL.out.be.block b0 hb1)
      have HQ := Lib.hid hq
      have hyl : l[k]? = some py := by have := map_get (g := PartV.p) hy; rwa [HLm.out] at this
      have Hy := Lib.hid hyl
      have Hok := Lib.hid (show RdV w P (.slice A1 py.o.length c1) py.o ∧ RdC w P (.slice A2 Lc.length c2) py.c from ⟨hok.1, ⟨Lc, hk1, hk2, hk3⟩⟩)
      have hwp := Hwc.out py (List.mem_of_getElem? hyl)
      have Hwy := Lib.hid hwp
      have d1 : decide ((k : Int) < (n : Int)) = true := by simp; omega
      clear hel hyl hok hq hk1 hk2 hk3 hwp
      go_upto_region 7 with (first | (refine list_load rfl 54 (.tmp 25) rfl b0 (o0' + k * 4) rfl [.int .i64 py.f, .slice A1 py.o.length c1, .slice A2 Lc.length c2, .int .i64 py.s] _ HQ.out Try.underlying54 rfl sizeP ?_) | (refine list_store_new rfl 54 (.tmp 8) (.tmp 26) rfl _ _ [.int .i64 py.f, .slice A1 py.o.length c1, .slice A2 Lc.length c2, .int .i64 py.s] rfl rfl rfl sizeP (by simp [Value.oneCell']) ?_; intro w1 hbw hr1 hs1))
      clear m9
      have HL1 := Lib.hid (HL.out.below hbw)
      have v9 := later_cell (show w1.cell? ⟨w.heap.size, 9, none⟩ = some (.slice (some ⟨b0, o0', none⟩) n cc) from HL1.out.cell (j := 9) rfl)
      have v2 := later_cell (show w1.cell? ⟨w.heap.size, 2, none⟩ = some (.int .i64 view) from HL1.out.cell (j := 2) rfl)
      have x0 := later_cell (show w1.cell? ⟨wr.heap.size, 0, none⟩ = some (.int .i64 py.f) by have := hr1 0 _ rfl; simpa using this)
      have x1 := later_cell (show w1.cell? ⟨wr.heap.size, 1, none⟩ = some (.slice A1 py.o.length c1) by have := hr1 1 _ rfl; simpa using this)
      have x2 := later_cell (show w1.cell? ⟨wr.heap.size, 2, none⟩ = some (.slice A2 Lc.length c2) by have := hr1 2 _ rfl; simpa using this)
      have x3 := later_cell (show w1.cell? ⟨wr.heap.size, 3, none⟩ = some (.int .i64 py.s) by have := hr1 3 _ rfl; simpa using this)
      obtain ⟨cb, hcb⟩ : ∃ x, Psp.changeB view py.o py.c f cl = x := ⟨_, rfl⟩
      have HCN : Hid (∀ p : Later w1, Calls Try.prog 64 #[.int .i64 f] p.W fun e w' => e = .returned (.int .i64 nn) ∧ p.W = w') := Lib.hid fun p => HN.out _
      have HCC : Hid (∀ p : Later w1, Calls Try.prog 70 #[.int .i64 view, .slice A1 py.o.length c1, .slice A2 Lc.length c2, .int .i64 f, .int .i64 cl] p.W fun e w' => e = .returned (.bool cb) ∧ Below p.W.heap.size p.W w') := Lib.hid fun p => by
        rw [← hcb]
        have hb := (HL1.out.below p.h).be
        exact rchange_l view py.o py.c _ _ f cl p.W P (RdV.keeps' Hok.out.1 (Keeps.below hb)) (Hok.out.2.keeps (Keeps.below hb)) Hwy.out.2.1 Hwy.out.2.2.1
      have Hpb : Hid (Psp.partB view py f cl = (Psp.win py.f 0 (nn - 1) && (Psp.win py.s 0 1099511627775 && cb))) := Lib.hid (by unfold Psp.partB Psp.sealB; rw [HNB.out, hcb])
      clear hbw hr1 HQ hs1 hcb Hok Hwy HL
      by_cases hf0 : py.f < 0
      · have df0 : decide (py.f < 0) = true := decide_eq_true hf0
        have Hf := Lib.hid (partsB_not (view := view) Hy.out (by rw [Hpb.out, (Psp.win_no _ _ _).2 (by omega)]; rfl))
        clear HI HJ
        refine wp_region_later (by kernel_rfl) (by kernel_rfl) ?_
        repeat (first | go_big_quiet_step (first | (go_at_call 64; exact later_same _ (HCN.out _)) | (go_at_call 70; exact later_call _ (HCC.out _))) | quiet_step (first | (go_at_call 64; exact later_same _ (HCN.out _)) | (go_at_call 70; exact later_call _ (HCC.out _))))
        refine wpQuiet_nil ?_
        intro w2 hw'
        obtain ⟨⟨wq, hbq⟩, hw'⟩ := hw'
        have hb2 : Below w1.heap.size w1 w2 := by rw [hw']; exact hbq
        clear hw' hbq
        have HL2 := Lib.hid (HL1.out.below hb2)
        clear hb2
        go_wp2_with fail
        go_ret
        exact ⟨by rw [Hf.out]; rfl, HL2.out.be⟩
      have df0 : decide (py.f < 0) = false := decide_eq_false hf0
      by_cases hf1 : nn ≤ py.f
      · have df1 : decide (py.f ≥ nn) = true := decide_eq_true hf1
        have Hf := Lib.hid (partsB_not (view := view) Hy.out (by rw [Hpb.out, (Psp.win_no _ _ _).2 (by omega)]; rfl))
        clear HI HJ
        refine wp_region_later (by kernel_rfl) (by kernel_rfl) ?_
        repeat (first | go_big_quiet_step (first | (go_at_call 64; exact later_same _ (HCN.out _)) | (go_at_call 70; exact later_call _ (HCC.out _))) | quiet_step (first | (go_at_call 64; exact later_same _ (HCN.out _)) | (go_at_call 70; exact later_call _ (HCC.out _))))
        refine wpQuiet_nil ?_
        intro w2 hw'
        obtain ⟨⟨wq, hbq⟩, hw'⟩ := hw'
        have hb2 : Below w1.heap.size w1 w2 := by rw [hw']; exact hbq
        clear hw' hbq
        have HL2 := Lib.hid (HL1.out.below hb2)
        clear hb2
        go_wp2_with fail
        go_ret
        exact ⟨by rw [Hf.out]; rfl, HL2.out.be⟩
      have df1 : decide (py.f ≥ nn) = false := decide_eq_false (by omega)
      have hwf := (Psp.win_iff py.f 0 (nn - 1)).2 ⟨by omega, by omega⟩
      have Hpb2 : Hid (Psp.partB view py f cl = (Psp.win py.s 0 1099511627775 && cb)) := Lib.hid (by rw [Hpb.out, hwf]; rfl)
      clear hwf Hpb hf0 hf1
      by_cases hk0 : k = 0
      · subst hk0
        have d2 : decide (((0 : Nat) : Int) > 0) = false := by simp
        have HJ2 : Hid (∀ (j : Nat) (x y : Psp.Part), j + 1 < 0 + 1 → l[j]? = some x → l[j + 1]? = some y → x.f < y.f) := Lib.hid fun j x z hj => by omega
        clear HJ
        by_cases hs0 : py.s < 0
        · have ds0 : decide (py.s < 0) = true := decide_eq_true hs0
          have Hf := Lib.hid (partsB_not (view := view) Hy.out (by rw [Hpb2.out, (Psp.win_no _ _ _).2 (by omega)]; rfl))
          refine wp_region_later (by kernel_rfl) (by kernel_rfl) ?_
          repeat (first | go_big_quiet_step (first | (go_at_call 64; exact later_same _ (HCN.out _)) | (go_at_call 70; exact later_call _ (HCC.out _))) | quiet_step (first | (go_at_call 64; exact later_same _ (HCN.out _)) | (go_at_call 70; exact later_call _ (HCC.out _))))
          refine wpQuiet_nil ?_
          intro w2 hw'
          obtain ⟨⟨wq, hbq⟩, hw'⟩ := hw'
          have hb2 : Below w1.heap.size w1 w2 := by rw [hw']; exact hbq
          clear hw' hbq
          have HL2 := Lib.hid (HL1.out.below hb2)
          clear hb2
          go_wp2_with fail
          go_ret
          exact ⟨by rw [Hf.out]; rfl, HL2.out.be⟩
        have ds0 : decide (py.s < 0) = false := decide_eq_false hs0
        by_cases hs1 : 1099511627776 ≤ py.s
        · have ds1 : decide (py.s ≥ 1099511627776) = true := decide_eq_true hs1
          have Hf := Lib.hid (partsB_not (view := view) Hy.out (by rw [Hpb2.out, (Psp.win_no _ _ _).2 (by omega)]; rfl))
          refine wp_region_later (by kernel_rfl) (by kernel_rfl) ?_
          repeat (first | go_big_quiet_step (first | (go_at_call 64; exact later_same _ (HCN.out _)) | (go_at_call 70; exact later_call _ (HCC.out _))) | quiet_step (first | (go_at_call 64; exact later_same _ (HCN.out _)) | (go_at_call 70; exact later_call _ (HCC.out _))))
          refine wpQuiet_nil ?_
          intro w2 hw'
          obtain ⟨⟨wq, hbq⟩, hw'⟩ := hw'
          have hb2 : Below w1.heap.size w1 w2 := by rw [hw']; exact hbq
          clear hw' hbq
          have HL2 := Lib.hid (HL1.out.below hb2)
          clear hb2
          go_wp2_with fail
          go_ret
          exact ⟨by rw [Hf.out]; rfl, HL2.out.be⟩
        have ds1 : decide (py.s ≥ 1099511627776) = false := decide_eq_false (by omega)
        have hws := (Psp.win_iff py.s 0 1099511627775).2 ⟨by omega, by omega⟩
        cases cb with
        | false =>
          have Hf := Lib.hid (partsB_not (view := view) Hy.out (by rw [Hpb2.out, hws]; rfl))
          clear hws
          refine wp_region_later (by kernel_rfl) (by kernel_rfl) ?_
          repeat (first | go_big_quiet_step (first | (go_at_call 64; exact later_same _ (HCN.out _)) | (go_at_call 70; exact later_call _ (HCC.out _))) | quiet_step (first | (go_at_call 64; exact later_same _ (HCN.out _)) | (go_at_call 70; exact later_call _ (HCC.out _))))
          refine wpQuiet_nil ?_
          intro w2 hw'
          obtain ⟨⟨wq, hbq⟩, hw'⟩ := hw'
          have hb2 : Below w1.heap.size w1 w2 := by rw [hw']; exact hbq
          clear hw' hbq
          have HL2 := Lib.hid (HL1.out.below hb2)
          clear hb2
          go_wp2_with fail
          go_ret
          exact ⟨by rw [Hf.out]; rfl, HL2.out.be⟩
        | true =>
          have HI2 : Hid (∀ (j : Nat) (z : Psp.Part), j < 0 + 1 → l[j]? = some z → Psp.partB view z f cl = true) := Lib.hid fun j z hj hz => by
            by_cases he : j = 0
            · subst he; have e1 := Hy.out.symm.trans hz; injection e1 with e1; subst e1; rw [Hpb2.out, hws]; rfl
            · exact HI.out j z (by omega) hz
          clear HI hws
          refine wp_region_later (by kernel_rfl) (by kernel_rfl) ?_
          repeat (first | go_big_quiet_step (first | (go_at_call 64; exact later_same _ (HCN.out _)) | (go_at_call 70; exact later_call _ (HCC.out _))) | quiet_step (first | (go_at_call 64; exact later_same _ (HCN.out _)) | (go_at_call 70; exact later_call _ (HCC.out _))))
          refine wpQuiet_nil ?_
          intro w2 hw'
          obtain ⟨⟨wq, hbq⟩, hw'⟩ := hw'
          have hb2 : Below w1.heap.size w1 w2 := by rw [hw']; exact hbq
          clear hw' hbq
          have HL2 := Lib.hid (HL1.out.below hb2)
          clear hb2
          go_wp2_with fail
          first
            | (go_roundw
               case rel => exact ⟨0 + 1, by go_num, by omega, HI2, HJ2, HL2⟩
               case measure => simp [intOf]; omega)
            | (refine ⟨⟨0 + 1, by go_num, by omega, HI2, HJ2, HL2⟩, ?_⟩
               simp [intOf]; omega)
      · obtain ⟨p, rfl⟩ : ∃ p, k = p + 1 := ⟨k - 1, by omega⟩
        obtain ⟨b3, o3, c3, z, he, _, _, hz, hel⟩ := rd_elem (f := pv) (k := 4) (fun _ => rfl) (by omega) HR.out Hn.out (show p < n by omega)
        injection he with he1 _ he2
        injection he1 with he1
        injection he1 with he3 he4
        subst he3 he4 he2
        have hrg := hel w1 (HL1.out.be.block b0 hb1)
        have pf := later_cell (show w1.cell? ⟨b0, o0' + p * 4, none⟩ = some (.int .i64 z.p.f) from hrg 0 _ rfl)
        have hzl : l[p]? = some z.p := by have := map_get (g := PartV.p) hz; rwa [HLm.out] at this
        obtain ⟨cz, hcz⟩ : ∃ cz, z.p = cz := ⟨_, rfl⟩
        rw [hcz] at pf hzl
        have Hz := Lib.hid hzl
        have d2 : decide (((p + 1 : Nat) : Int) > 0) = true := by rw [decide_eq_true_eq]; omega
        have z1 : ((p + 1 : Nat) : Int) - 1 = (p : Int) := by omega
        clear hel hrg hz hzl hcz hk0
        by_cases h1 : py.f ≤ cz.f
        · have d3 : decide (py.f ≤ cz.f) = true := decide_eq_true h1
          have Hf := Lib.hid (partsB_down (view := view) (f := f) (cl := cl) Hz.out Hy.out (by omega))
          clear HJ
          refine wp_region_later (by kernel_rfl) (by kernel_rfl) ?_
          repeat (first | go_big_quiet_step (first | (go_at_call 64; exact later_same _ (HCN.out _)) | (go_at_call 70; exact later_call _ (HCC.out _))) | quiet_step (first | (go_at_call 64; exact later_same _ (HCN.out _)) | (go_at_call 70; exact later_call _ (HCC.out _))))
          refine wpQuiet_nil ?_
          intro w2 hw'
          obtain ⟨⟨wq, hbq⟩, hw'⟩ := hw'
          have hb2 : Below w1.heap.size w1 w2 := by rw [hw']; exact hbq
          clear hw' hbq
          have HL2 := Lib.hid (HL1.out.below hb2)
          clear hb2
          go_wp2_with fail
          go_ret
          exact ⟨by rw [Hf.out]; rfl, HL2.out.be⟩
        · have d3 : decide (py.f ≤ cz.f) = false := decide_eq_false h1
          have Hlt : Hid (cz.f < py.f) := Lib.hid (by omega)
          have HJ2 : Hid (∀ (j : Nat) (x t : Psp.Part), j + 1 < p + 1 + 1 → l[j]? = some x → l[j + 1]? = some t → x.f < t.f) := Lib.hid fun j x t hj hx ht => by
            by_cases he : j = p
            · subst he
              have e1 := Hz.out.symm.trans hx
              have e2 := Hy.out.symm.trans ht
              injection e1 with e1
              injection e2 with e2
              subst e1 e2
              exact Hlt.out
            · exact HJ.out j x t (by omega) hx ht
          clear HJ Hlt
          by_cases hs0 : py.s < 0
          · have ds0 : decide (py.s < 0) = true := decide_eq_true hs0
            have Hf := Lib.hid (partsB_not (view := view) Hy.out (by rw [Hpb2.out, (Psp.win_no _ _ _).2 (by omega)]; rfl))
            refine wp_region_later (by kernel_rfl) (by kernel_rfl) ?_
            repeat (first | go_big_quiet_step (first | (go_at_call 64; exact later_same _ (HCN.out _)) | (go_at_call 70; exact later_call _ (HCC.out _))) | quiet_step (first | (go_at_call 64; exact later_same _ (HCN.out _)) | (go_at_call 70; exact later_call _ (HCC.out _))))
            refine wpQuiet_nil ?_
            intro w2 hw'
            obtain ⟨⟨wq, hbq⟩, hw'⟩ := hw'
            have hb2 : Below w1.heap.size w1 w2 := by rw [hw']; exact hbq
            clear hw' hbq
            have HL2 := Lib.hid (HL1.out.below hb2)
            clear hb2
            go_wp2_with fail
            go_ret
            exact ⟨by rw [Hf.out]; rfl, HL2.out.be⟩
          have ds0 : decide (py.s < 0) = false := decide_eq_false hs0
          by_cases hs1 : 1099511627776 ≤ py.s
          · have ds1 : decide (py.s ≥ 1099511627776) = true := decide_eq_true hs1
            have Hf := Lib.hid (partsB_not (view := view) Hy.out (by rw [Hpb2.out, (Psp.win_no _ _ _).2 (by omega)]; rfl))
            refine wp_region_later (by kernel_rfl) (by kernel_rfl) ?_
            repeat (first | go_big_quiet_step (first | (go_at_call 64; exact later_same _ (HCN.out _)) | (go_at_call 70; exact later_call _ (HCC.out _))) | quiet_step (first | (go_at_call 64; exact later_same _ (HCN.out _)) | (go_at_call 70; exact later_call _ (HCC.out _))))
            refine wpQuiet_nil ?_
            intro w2 hw'
            obtain ⟨⟨wq, hbq⟩, hw'⟩ := hw'
            have hb2 : Below w1.heap.size w1 w2 := by rw [hw']; exact hbq
            clear hw' hbq
            have HL2 := Lib.hid (HL1.out.below hb2)
            clear hb2
            go_wp2_with fail
            go_ret
            exact ⟨by rw [Hf.out]; rfl, HL2.out.be⟩
          have ds1 : decide (py.s ≥ 1099511627776) = false := decide_eq_false (by omega)
          have hws := (Psp.win_iff py.s 0 1099511627775).2 ⟨by omega, by omega⟩
          cases cb with
          | false =>
            have Hf := Lib.hid (partsB_not (view := view) Hy.out (by rw [Hpb2.out, hws]; rfl))
            clear hws
            refine wp_region_later (by kernel_rfl) (by kernel_rfl) ?_
            repeat (first | go_big_quiet_step (first | (go_at_call 64; exact later_same _ (HCN.out _)) | (go_at_call 70; exact later_call _ (HCC.out _))) | quiet_step (first | (go_at_call 64; exact later_same _ (HCN.out _)) | (go_at_call 70; exact later_call _ (HCC.out _))))
            refine wpQuiet_nil ?_
            intro w2 hw'
            obtain ⟨⟨wq, hbq⟩, hw'⟩ := hw'
            have hb2 : Below w1.heap.size w1 w2 := by rw [hw']; exact hbq
            clear hw' hbq
            have HL2 := Lib.hid (HL1.out.below hb2)
            clear hb2
            go_wp2_with fail
            go_ret
            exact ⟨by rw [Hf.out]; rfl, HL2.out.be⟩
          | true =>
            have HI2 : Hid (∀ (j : Nat) (z : Psp.Part), j < (p + 1) + 1 → l[j]? = some z → Psp.partB view z f cl = true) := Lib.hid fun j z hj hz => by
              by_cases he : j = (p + 1)
              · subst he; have e1 := Hy.out.symm.trans hz; injection e1 with e1; subst e1; rw [Hpb2.out, hws]; rfl
              · exact HI.out j z (by omega) hz
            clear HI hws
            refine wp_region_later (by kernel_rfl) (by kernel_rfl) ?_
            repeat (first | go_big_quiet_step (first | (go_at_call 64; exact later_same _ (HCN.out _)) | (go_at_call 70; exact later_call _ (HCC.out _))) | quiet_step (first | (go_at_call 64; exact later_same _ (HCN.out _)) | (go_at_call 70; exact later_call _ (HCC.out _))))
            refine wpQuiet_nil ?_
            intro w2 hw'
            obtain ⟨⟨wq, hbq⟩, hw'⟩ := hw'
            have hb2 : Below w1.heap.size w1 w2 := by rw [hw']; exact hbq
            clear hw' hbq
            have HL2 := Lib.hid (HL1.out.below hb2)
            clear hb2
            go_wp2_with fail
            first
              | (go_roundw
                 case rel => exact ⟨(p + 1) + 1, by go_num, by omega, HI2, HJ2, HL2⟩
                 case measure => simp [intOf]; omega)
              | (refine ⟨⟨(p + 1) + 1, by go_num, by omega, HI2, HJ2, HL2⟩, ?_⟩
                 simp [intOf]; omega)
    · obtain rfl : k = n := by omega
      have Hf : Hid (Psp.partsB view l f cl = true) := Lib.hid (partsB_yes (by rw [Hll.out, Hq.out]; exact Hnq.out) (fun j x hx => HI.out j x (by have := (List.getElem?_eq_some_iff.1 hx).1; rwa [Hll.out] at this) hx) (fun j x y hx hy => HJ.out j x y (by have := (List.getElem?_eq_some_iff.1 hy).1; rwa [Hll.out] at this) hx hy))
      clear HI HJ
      go_wp2_with fail
      go_ret
      exact ⟨by rw [Hf.out]; rfl, HL.out.be⟩
end Go.Proofs.Ytljfoajhobambaa


end
