/- The reference's form: blank, for each text of names. Printed by gen_rf2.py. -/
import Derived.Test.YtljfoajhobambaaRf1
import Derived.Test.YtljfoajhobambaaFp2
namespace Go.Proofs.Ytljfoajhobambaa
open Go.RowKit
set_option linter.unusedVariables false
set_option linter.unusedSimpArgs false

def hasN (s : ByteArray) (cn : Int) : Bool := hasB s (UInt8.ofNat cn.toNat)
theorem has_is (s : ByteArray) (n : Nat) (hn : s.size = n) (h9 : n ≤ 9) (cn : Int) (h : cn = 118 ∨ cn = 105 ∨ cn = 115 ∨ cn = 114 ∨ cn = 98 ∨ cn = 111 ∨ cn = 99 ∨ cn = 112) (w : World) :
    Calls Try.prog 122 #[.string s, .int .u8 cn] w fun e w' => e = .returned (.bool (hasN s cn)) ∧ w = w' := by
  rcases h with rfl | rfl | rfl | rfl | rfl | rfl | rfl | rfl <;> exact has_any s _ n w hn h9
/-- Is there nothing but what is named? -/
def blankB (hv hi hs hr hb ho hc hp : Bool) (v i q r : Int) (nb no nc np : Nat) : Bool :=
  (hv || v == 0) && ((hi || i == 0) && ((hs || q == 0) && ((hr || r == 0) && ((hb || decide (nb = 0)) && ((ho || decide (no = 0)) && ((hc || decide (nc = 0)) && (hp || decide (np = 0))))))))

set_option maxRecDepth 100000 in
set_option maxHeartbeats 8000000 in
theorem blank_b (k f v i q r : Int) (Ab Ao Ac Ap : Option Addr) (nb no nc np cb co cc cp : Nat) (w : World) :
    Calls Try.prog 65 #[.agg #[.int .i64 k, .int .i64 f, .int .i64 v, .int .i64 i, .int .i64 q, .int .i64 r, .slice Ab nb cb, .slice Ao no co, .slice Ac nc cc, .slice Ap np cp], .string { data := #[98] }] w fun e w' => e = .returned (.bool (blankB false false false false true false false false v i q r nb no nc np)) ∧ Below w.heap.size w w' := by
  obtain ⟨s, hs⟩ : ∃ s : ByteArray, s = { data := #[98] } := ⟨_, rfl⟩
  rw [← hs]
  have HH := Lib.hid (has_is s 1 (by rw [hs]; rfl) (by omega))
  have Nv : hasN s 118 = false := by rw [hs]; decide
  have Ni : hasN s 105 = false := by rw [hs]; decide
  have Ns : hasN s 115 = false := by rw [hs]; decide
  have Nr : hasN s 114 = false := by rw [hs]; decide
  have Nb : hasN s 98 = true := by rw [hs]; decide
  have No : hasN s 111 = false := by rw [hs]; decide
  have Nc : hasN s 99 = false := by rw [hs]; decide
  have Np : hasN s 112 = false := by rw [hs]; decide
  have HNs := Lib.hid (And.intro Nv (And.intro Ni (And.intro Ns (And.intro Nr (And.intro Nb (And.intro No (And.intro Nc Np)))))))
  clear hs Nv Ni Ns Nr Nb No Nc Np
  by_cases h0 : v = 0
  · subst h0
    by_cases h1 : i = 0
    · subst h1
      by_cases h2 : q = 0
      · subst h2
        by_cases h3 : r = 0
        · subst h3
          by_cases h4 : no = 0
          · subst h4
            by_cases h5 : nc = 0
            · subst h5
              by_cases h6 : np = 0
              · subst h6
                go_enter Try.func65, Try.ntmps65
                simp only [List.append_eq, List.cons_append, List.nil_append]
                go_wp2_with (go_at_call 122; refine (HH.out _ (by decide) _).mono ?_; rintro e w' ⟨rfl, rfl⟩; obtain ⟨Nv, Ni, Ns, Nr, Nb, No, Nc, Np⟩ := HNs.out; simp only [Nv, Ni, Ns, Nr, Nb, No, Nc, Np]; clear Nv Ni Ns Nr Nb No Nc Np)
                go_ret
                refine ⟨?_, by first | exact alloc_below w _ | exact below_drewN (alloc_below w _) _⟩
                simp [blankB, *]
              · have d6 : (((np : Nat) : Int) == 0) = false := by rw [beq_eq_false_iff_ne]; omega
                go_enter Try.func65, Try.ntmps65
                simp only [List.append_eq, List.cons_append, List.nil_append]
                go_wp2_with (go_at_call 122; refine (HH.out _ (by decide) _).mono ?_; rintro e w' ⟨rfl, rfl⟩; obtain ⟨Nv, Ni, Ns, Nr, Nb, No, Nc, Np⟩ := HNs.out; simp only [Nv, Ni, Ns, Nr, Nb, No, Nc, Np]; clear Nv Ni Ns Nr Nb No Nc Np)
                go_ret
                refine ⟨?_, by first | exact alloc_below w _ | exact below_drewN (alloc_below w _) _⟩
                simp [blankB, *]
            · have d5 : (((nc : Nat) : Int) == 0) = false := by rw [beq_eq_false_iff_ne]; omega
              go_enter Try.func65, Try.ntmps65
              simp only [List.append_eq, List.cons_append, List.nil_append]
              go_wp2_with (go_at_call 122; refine (HH.out _ (by decide) _).mono ?_; rintro e w' ⟨rfl, rfl⟩; obtain ⟨Nv, Ni, Ns, Nr, Nb, No, Nc, Np⟩ := HNs.out; simp only [Nv, Ni, Ns, Nr, Nb, No, Nc, Np]; clear Nv Ni Ns Nr Nb No Nc Np)
              go_ret
              refine ⟨?_, by first | exact alloc_below w _ | exact below_drewN (alloc_below w _) _⟩
              simp [blankB, *]
          · have d4 : (((no : Nat) : Int) == 0) = false := by rw [beq_eq_false_iff_ne]; omega
            go_enter Try.func65, Try.ntmps65
            simp only [List.append_eq, List.cons_append, List.nil_append]
            go_wp2_with (go_at_call 122; refine (HH.out _ (by decide) _).mono ?_; rintro e w' ⟨rfl, rfl⟩; obtain ⟨Nv, Ni, Ns, Nr, Nb, No, Nc, Np⟩ := HNs.out; simp only [Nv, Ni, Ns, Nr, Nb, No, Nc, Np]; clear Nv Ni Ns Nr Nb No Nc Np)
            go_ret
            refine ⟨?_, by first | exact alloc_below w _ | exact below_drewN (alloc_below w _) _⟩
            simp [blankB, *]
        · have d3 : (r == 0) = false := beq_eq_false_iff_ne.2 h3
          go_enter Try.func65, Try.ntmps65
          simp only [List.append_eq, List.cons_append, List.nil_append]
          go_wp2_with (go_at_call 122; refine (HH.out _ (by decide) _).mono ?_; rintro e w' ⟨rfl, rfl⟩; obtain ⟨Nv, Ni, Ns, Nr, Nb, No, Nc, Np⟩ := HNs.out; simp only [Nv, Ni, Ns, Nr, Nb, No, Nc, Np]; clear Nv Ni Ns Nr Nb No Nc Np)
          go_ret
          refine ⟨?_, by first | exact alloc_below w _ | exact below_drewN (alloc_below w _) _⟩
          simp [blankB, *]
      · have d2 : (q == 0) = false := beq_eq_false_iff_ne.2 h2
        go_enter Try.func65, Try.ntmps65
        simp only [List.append_eq, List.cons_append, List.nil_append]
        go_wp2_with (go_at_call 122; refine (HH.out _ (by decide) _).mono ?_; rintro e w' ⟨rfl, rfl⟩; obtain ⟨Nv, Ni, Ns, Nr, Nb, No, Nc, Np⟩ := HNs.out; simp only [Nv, Ni, Ns, Nr, Nb, No, Nc, Np]; clear Nv Ni Ns Nr Nb No Nc Np)
        go_ret
        refine ⟨?_, by first | exact alloc_below w _ | exact below_drewN (alloc_below w _) _⟩
        simp [blankB, *]
    · have d1 : (i == 0) = false := beq_eq_false_iff_ne.2 h1
      go_enter Try.func65, Try.ntmps65
      simp only [List.append_eq, List.cons_append, List.nil_append]
      go_wp2_with (go_at_call 122; refine (HH.out _ (by decide) _).mono ?_; rintro e w' ⟨rfl, rfl⟩; obtain ⟨Nv, Ni, Ns, Nr, Nb, No, Nc, Np⟩ := HNs.out; simp only [Nv, Ni, Ns, Nr, Nb, No, Nc, Np]; clear Nv Ni Ns Nr Nb No Nc Np)
      go_ret
      refine ⟨?_, by first | exact alloc_below w _ | exact below_drewN (alloc_below w _) _⟩
      simp [blankB, *]
  · have d0 : (v == 0) = false := beq_eq_false_iff_ne.2 h0
    go_enter Try.func65, Try.ntmps65
    simp only [List.append_eq, List.cons_append, List.nil_append]
    go_wp2_with (go_at_call 122; refine (HH.out _ (by decide) _).mono ?_; rintro e w' ⟨rfl, rfl⟩; obtain ⟨Nv, Ni, Ns, Nr, Nb, No, Nc, Np⟩ := HNs.out; simp only [Nv, Ni, Ns, Nr, Nb, No, Nc, Np]; clear Nv Ni Ns Nr Nb No Nc Np)
    go_ret
    refine ⟨?_, by first | exact alloc_below w _ | exact below_drewN (alloc_below w _) _⟩
    simp [blankB, *]

set_option maxRecDepth 100000 in
set_option maxHeartbeats 8000000 in
theorem blank_visb (k f v i q r : Int) (Ab Ao Ac Ap : Option Addr) (nb no nc np cb co cc cp : Nat) (w : World) :
    Calls Try.prog 65 #[.agg #[.int .i64 k, .int .i64 f, .int .i64 v, .int .i64 i, .int .i64 q, .int .i64 r, .slice Ab nb cb, .slice Ao no co, .slice Ac nc cc, .slice Ap np cp], .string { data := #[118, 105, 115, 98] }] w fun e w' => e = .returned (.bool (blankB true true true false true false false false v i q r nb no nc np)) ∧ Below w.heap.size w w' := by
  obtain ⟨s, hs⟩ : ∃ s : ByteArray, s = { data := #[118, 105, 115, 98] } := ⟨_, rfl⟩
  rw [← hs]
  have HH := Lib.hid (has_is s 4 (by rw [hs]; rfl) (by omega))
  have Nv : hasN s 118 = true := by rw [hs]; decide
  have Ni : hasN s 105 = true := by rw [hs]; decide
  have Ns : hasN s 115 = true := by rw [hs]; decide
  have Nr : hasN s 114 = false := by rw [hs]; decide
  have Nb : hasN s 98 = true := by rw [hs]; decide
  have No : hasN s 111 = false := by rw [hs]; decide
  have Nc : hasN s 99 = false := by rw [hs]; decide
  have Np : hasN s 112 = false := by rw [hs]; decide
  have HNs := Lib.hid (And.intro Nv (And.intro Ni (And.intro Ns (And.intro Nr (And.intro Nb (And.intro No (And.intro Nc Np)))))))
  clear hs Nv Ni Ns Nr Nb No Nc Np
  by_cases h0 : r = 0
  · subst h0
    by_cases h1 : no = 0
    · subst h1
      by_cases h2 : nc = 0
      · subst h2
        by_cases h3 : np = 0
        · subst h3
          go_enter Try.func65, Try.ntmps65
          simp only [List.append_eq, List.cons_append, List.nil_append]
          go_wp2_with (go_at_call 122; refine (HH.out _ (by decide) _).mono ?_; rintro e w' ⟨rfl, rfl⟩; obtain ⟨Nv, Ni, Ns, Nr, Nb, No, Nc, Np⟩ := HNs.out; simp only [Nv, Ni, Ns, Nr, Nb, No, Nc, Np]; clear Nv Ni Ns Nr Nb No Nc Np)
          go_ret
          refine ⟨?_, by first | exact alloc_below w _ | exact below_drewN (alloc_below w _) _⟩
          simp [blankB, *]
        · have d3 : (((np : Nat) : Int) == 0) = false := by rw [beq_eq_false_iff_ne]; omega
          go_enter Try.func65, Try.ntmps65
          simp only [List.append_eq, List.cons_append, List.nil_append]
          go_wp2_with (go_at_call 122; refine (HH.out _ (by decide) _).mono ?_; rintro e w' ⟨rfl, rfl⟩; obtain ⟨Nv, Ni, Ns, Nr, Nb, No, Nc, Np⟩ := HNs.out; simp only [Nv, Ni, Ns, Nr, Nb, No, Nc, Np]; clear Nv Ni Ns Nr Nb No Nc Np)
          go_ret
          refine ⟨?_, by first | exact alloc_below w _ | exact below_drewN (alloc_below w _) _⟩
          simp [blankB, *]
      · have d2 : (((nc : Nat) : Int) == 0) = false := by rw [beq_eq_false_iff_ne]; omega
        go_enter Try.func65, Try.ntmps65
        simp only [List.append_eq, List.cons_append, List.nil_append]
        go_wp2_with (go_at_call 122; refine (HH.out _ (by decide) _).mono ?_; rintro e w' ⟨rfl, rfl⟩; obtain ⟨Nv, Ni, Ns, Nr, Nb, No, Nc, Np⟩ := HNs.out; simp only [Nv, Ni, Ns, Nr, Nb, No, Nc, Np]; clear Nv Ni Ns Nr Nb No Nc Np)
        go_ret
        refine ⟨?_, by first | exact alloc_below w _ | exact below_drewN (alloc_below w _) _⟩
        simp [blankB, *]
    · have d1 : (((no : Nat) : Int) == 0) = false := by rw [beq_eq_false_iff_ne]; omega
      go_enter Try.func65, Try.ntmps65
      simp only [List.append_eq, List.cons_append, List.nil_append]
      go_wp2_with (go_at_call 122; refine (HH.out _ (by decide) _).mono ?_; rintro e w' ⟨rfl, rfl⟩; obtain ⟨Nv, Ni, Ns, Nr, Nb, No, Nc, Np⟩ := HNs.out; simp only [Nv, Ni, Ns, Nr, Nb, No, Nc, Np]; clear Nv Ni Ns Nr Nb No Nc Np)
      go_ret
      refine ⟨?_, by first | exact alloc_below w _ | exact below_drewN (alloc_below w _) _⟩
      simp [blankB, *]
  · have d0 : (r == 0) = false := beq_eq_false_iff_ne.2 h0
    go_enter Try.func65, Try.ntmps65
    simp only [List.append_eq, List.cons_append, List.nil_append]
    go_wp2_with (go_at_call 122; refine (HH.out _ (by decide) _).mono ?_; rintro e w' ⟨rfl, rfl⟩; obtain ⟨Nv, Ni, Ns, Nr, Nb, No, Nc, Np⟩ := HNs.out; simp only [Nv, Ni, Ns, Nr, Nb, No, Nc, Np]; clear Nv Ni Ns Nr Nb No Nc Np)
    go_ret
    refine ⟨?_, by first | exact alloc_below w _ | exact below_drewN (alloc_below w _) _⟩
    simp [blankB, *]

set_option maxRecDepth 100000 in
set_option maxHeartbeats 8000000 in
theorem blank_v (k f v i q r : Int) (Ab Ao Ac Ap : Option Addr) (nb no nc np cb co cc cp : Nat) (w : World) :
    Calls Try.prog 65 #[.agg #[.int .i64 k, .int .i64 f, .int .i64 v, .int .i64 i, .int .i64 q, .int .i64 r, .slice Ab nb cb, .slice Ao no co, .slice Ac nc cc, .slice Ap np cp], .string { data := #[118] }] w fun e w' => e = .returned (.bool (blankB true false false false false false false false v i q r nb no nc np)) ∧ Below w.heap.size w w' := by
  obtain ⟨s, hs⟩ : ∃ s : ByteArray, s = { data := #[118] } := ⟨_, rfl⟩
  rw [← hs]
  have HH := Lib.hid (has_is s 1 (by rw [hs]; rfl) (by omega))
  have Nv : hasN s 118 = true := by rw [hs]; decide
  have Ni : hasN s 105 = false := by rw [hs]; decide
  have Ns : hasN s 115 = false := by rw [hs]; decide
  have Nr : hasN s 114 = false := by rw [hs]; decide
  have Nb : hasN s 98 = false := by rw [hs]; decide
  have No : hasN s 111 = false := by rw [hs]; decide
  have Nc : hasN s 99 = false := by rw [hs]; decide
  have Np : hasN s 112 = false := by rw [hs]; decide
  have HNs := Lib.hid (And.intro Nv (And.intro Ni (And.intro Ns (And.intro Nr (And.intro Nb (And.intro No (And.intro Nc Np)))))))
  clear hs Nv Ni Ns Nr Nb No Nc Np
  by_cases h0 : i = 0
  · subst h0
    by_cases h1 : q = 0
    · subst h1
      by_cases h2 : r = 0
      · subst h2
        by_cases h3 : nb = 0
        · subst h3
          by_cases h4 : no = 0
          · subst h4
            by_cases h5 : nc = 0
            · subst h5
              by_cases h6 : np = 0
              · subst h6
                go_enter Try.func65, Try.ntmps65
                simp only [List.append_eq, List.cons_append, List.nil_append]
                go_wp2_with (go_at_call 122; refine (HH.out _ (by decide) _).mono ?_; rintro e w' ⟨rfl, rfl⟩; obtain ⟨Nv, Ni, Ns, Nr, Nb, No, Nc, Np⟩ := HNs.out; simp only [Nv, Ni, Ns, Nr, Nb, No, Nc, Np]; clear Nv Ni Ns Nr Nb No Nc Np)
                go_ret
                refine ⟨?_, by first | exact alloc_below w _ | exact below_drewN (alloc_below w _) _⟩
                simp [blankB, *]
              · have d6 : (((np : Nat) : Int) == 0) = false := by rw [beq_eq_false_iff_ne]; omega
                go_enter Try.func65, Try.ntmps65
                simp only [List.append_eq, List.cons_append, List.nil_append]
                go_wp2_with (go_at_call 122; refine (HH.out _ (by decide) _).mono ?_; rintro e w' ⟨rfl, rfl⟩; obtain ⟨Nv, Ni, Ns, Nr, Nb, No, Nc, Np⟩ := HNs.out; simp only [Nv, Ni, Ns, Nr, Nb, No, Nc, Np]; clear Nv Ni Ns Nr Nb No Nc Np)
                go_ret
                refine ⟨?_, by first | exact alloc_below w _ | exact below_drewN (alloc_below w _) _⟩
                simp [blankB, *]
            · have d5 : (((nc : Nat) : Int) == 0) = false := by rw [beq_eq_false_iff_ne]; omega
              go_enter Try.func65, Try.ntmps65
              simp only [List.append_eq, List.cons_append, List.nil_append]
              go_wp2_with (go_at_call 122; refine (HH.out _ (by decide) _).mono ?_; rintro e w' ⟨rfl, rfl⟩; obtain ⟨Nv, Ni, Ns, Nr, Nb, No, Nc, Np⟩ := HNs.out; simp only [Nv, Ni, Ns, Nr, Nb, No, Nc, Np]; clear Nv Ni Ns Nr Nb No Nc Np)
              go_ret
              refine ⟨?_, by first | exact alloc_below w _ | exact below_drewN (alloc_below w _) _⟩
              simp [blankB, *]
          · have d4 : (((no : Nat) : Int) == 0) = false := by rw [beq_eq_false_iff_ne]; omega
            go_enter Try.func65, Try.ntmps65
            simp only [List.append_eq, List.cons_append, List.nil_append]
            go_wp2_with (go_at_call 122; refine (HH.out _ (by decide) _).mono ?_; rintro e w' ⟨rfl, rfl⟩; obtain ⟨Nv, Ni, Ns, Nr, Nb, No, Nc, Np⟩ := HNs.out; simp only [Nv, Ni, Ns, Nr, Nb, No, Nc, Np]; clear Nv Ni Ns Nr Nb No Nc Np)
            go_ret
            refine ⟨?_, by first | exact alloc_below w _ | exact below_drewN (alloc_below w _) _⟩
            simp [blankB, *]
        · have d3 : (((nb : Nat) : Int) == 0) = false := by rw [beq_eq_false_iff_ne]; omega
          go_enter Try.func65, Try.ntmps65
          simp only [List.append_eq, List.cons_append, List.nil_append]
          go_wp2_with (go_at_call 122; refine (HH.out _ (by decide) _).mono ?_; rintro e w' ⟨rfl, rfl⟩; obtain ⟨Nv, Ni, Ns, Nr, Nb, No, Nc, Np⟩ := HNs.out; simp only [Nv, Ni, Ns, Nr, Nb, No, Nc, Np]; clear Nv Ni Ns Nr Nb No Nc Np)
          go_ret
          refine ⟨?_, by first | exact alloc_below w _ | exact below_drewN (alloc_below w _) _⟩
          simp [blankB, *]
      · have d2 : (r == 0) = false := beq_eq_false_iff_ne.2 h2
        go_enter Try.func65, Try.ntmps65
        simp only [List.append_eq, List.cons_append, List.nil_append]
        go_wp2_with (go_at_call 122; refine (HH.out _ (by decide) _).mono ?_; rintro e w' ⟨rfl, rfl⟩; obtain ⟨Nv, Ni, Ns, Nr, Nb, No, Nc, Np⟩ := HNs.out; simp only [Nv, Ni, Ns, Nr, Nb, No, Nc, Np]; clear Nv Ni Ns Nr Nb No Nc Np)
        go_ret
        refine ⟨?_, by first | exact alloc_below w _ | exact below_drewN (alloc_below w _) _⟩
        simp [blankB, *]
    · have d1 : (q == 0) = false := beq_eq_false_iff_ne.2 h1
      go_enter Try.func65, Try.ntmps65
      simp only [List.append_eq, List.cons_append, List.nil_append]
      go_wp2_with (go_at_call 122; refine (HH.out _ (by decide) _).mono ?_; rintro e w' ⟨rfl, rfl⟩; obtain ⟨Nv, Ni, Ns, Nr, Nb, No, Nc, Np⟩ := HNs.out; simp only [Nv, Ni, Ns, Nr, Nb, No, Nc, Np]; clear Nv Ni Ns Nr Nb No Nc Np)
      go_ret
      refine ⟨?_, by first | exact alloc_below w _ | exact below_drewN (alloc_below w _) _⟩
      simp [blankB, *]
  · have d0 : (i == 0) = false := beq_eq_false_iff_ne.2 h0
    go_enter Try.func65, Try.ntmps65
    simp only [List.append_eq, List.cons_append, List.nil_append]
    go_wp2_with (go_at_call 122; refine (HH.out _ (by decide) _).mono ?_; rintro e w' ⟨rfl, rfl⟩; obtain ⟨Nv, Ni, Ns, Nr, Nb, No, Nc, Np⟩ := HNs.out; simp only [Nv, Ni, Ns, Nr, Nb, No, Nc, Np]; clear Nv Ni Ns Nr Nb No Nc Np)
    go_ret
    refine ⟨?_, by first | exact alloc_below w _ | exact below_drewN (alloc_below w _) _⟩
    simp [blankB, *]

set_option maxRecDepth 100000 in
set_option maxHeartbeats 8000000 in
theorem blank_voc (k f v i q r : Int) (Ab Ao Ac Ap : Option Addr) (nb no nc np cb co cc cp : Nat) (w : World) :
    Calls Try.prog 65 #[.agg #[.int .i64 k, .int .i64 f, .int .i64 v, .int .i64 i, .int .i64 q, .int .i64 r, .slice Ab nb cb, .slice Ao no co, .slice Ac nc cc, .slice Ap np cp], .string { data := #[118, 111, 99] }] w fun e w' => e = .returned (.bool (blankB true false false false false true true false v i q r nb no nc np)) ∧ Below w.heap.size w w' := by
  obtain ⟨s, hs⟩ : ∃ s : ByteArray, s = { data := #[118, 111, 99] } := ⟨_, rfl⟩
  rw [← hs]
  have HH := Lib.hid (has_is s 3 (by rw [hs]; rfl) (by omega))
  have Nv : hasN s 118 = true := by rw [hs]; decide
  have Ni : hasN s 105 = false := by rw [hs]; decide
  have Ns : hasN s 115 = false := by rw [hs]; decide
  have Nr : hasN s 114 = false := by rw [hs]; decide
  have Nb : hasN s 98 = false := by rw [hs]; decide
  have No : hasN s 111 = true := by rw [hs]; decide
  have Nc : hasN s 99 = true := by rw [hs]; decide
  have Np : hasN s 112 = false := by rw [hs]; decide
  have HNs := Lib.hid (And.intro Nv (And.intro Ni (And.intro Ns (And.intro Nr (And.intro Nb (And.intro No (And.intro Nc Np)))))))
  clear hs Nv Ni Ns Nr Nb No Nc Np
  by_cases h0 : i = 0
  · subst h0
    by_cases h1 : q = 0
    · subst h1
      by_cases h2 : r = 0
      · subst h2
        by_cases h3 : nb = 0
        · subst h3
          by_cases h4 : np = 0
          · subst h4
            go_enter Try.func65, Try.ntmps65
            simp only [List.append_eq, List.cons_append, List.nil_append]
            go_wp2_with (go_at_call 122; refine (HH.out _ (by decide) _).mono ?_; rintro e w' ⟨rfl, rfl⟩; obtain ⟨Nv, Ni, Ns, Nr, Nb, No, Nc, Np⟩ := HNs.out; simp only [Nv, Ni, Ns, Nr, Nb, No, Nc, Np]; clear Nv Ni Ns Nr Nb No Nc Np)
            go_ret
            refine ⟨?_, by first | exact alloc_below w _ | exact below_drewN (alloc_below w _) _⟩
            simp [blankB, *]
          · have d4 : (((np : Nat) : Int) == 0) = false := by rw [beq_eq_false_iff_ne]; omega
            go_enter Try.func65, Try.ntmps65
            simp only [List.append_eq, List.cons_append, List.nil_append]
            go_wp2_with (go_at_call 122; refine (HH.out _ (by decide) _).mono ?_; rintro e w' ⟨rfl, rfl⟩; obtain ⟨Nv, Ni, Ns, Nr, Nb, No, Nc, Np⟩ := HNs.out; simp only [Nv, Ni, Ns, Nr, Nb, No, Nc, Np]; clear Nv Ni Ns Nr Nb No Nc Np)
            go_ret
            refine ⟨?_, by first | exact alloc_below w _ | exact below_drewN (alloc_below w _) _⟩
            simp [blankB, *]
        · have d3 : (((nb : Nat) : Int) == 0) = false := by rw [beq_eq_false_iff_ne]; omega
          go_enter Try.func65, Try.ntmps65
          simp only [List.append_eq, List.cons_append, List.nil_append]
          go_wp2_with (go_at_call 122; refine (HH.out _ (by decide) _).mono ?_; rintro e w' ⟨rfl, rfl⟩; obtain ⟨Nv, Ni, Ns, Nr, Nb, No, Nc, Np⟩ := HNs.out; simp only [Nv, Ni, Ns, Nr, Nb, No, Nc, Np]; clear Nv Ni Ns Nr Nb No Nc Np)
          go_ret
          refine ⟨?_, by first | exact alloc_below w _ | exact below_drewN (alloc_below w _) _⟩
          simp [blankB, *]
      · have d2 : (r == 0) = false := beq_eq_false_iff_ne.2 h2
        go_enter Try.func65, Try.ntmps65
        simp only [List.append_eq, List.cons_append, List.nil_append]
        go_wp2_with (go_at_call 122; refine (HH.out _ (by decide) _).mono ?_; rintro e w' ⟨rfl, rfl⟩; obtain ⟨Nv, Ni, Ns, Nr, Nb, No, Nc, Np⟩ := HNs.out; simp only [Nv, Ni, Ns, Nr, Nb, No, Nc, Np]; clear Nv Ni Ns Nr Nb No Nc Np)
        go_ret
        refine ⟨?_, by first | exact alloc_below w _ | exact below_drewN (alloc_below w _) _⟩
        simp [blankB, *]
    · have d1 : (q == 0) = false := beq_eq_false_iff_ne.2 h1
      go_enter Try.func65, Try.ntmps65
      simp only [List.append_eq, List.cons_append, List.nil_append]
      go_wp2_with (go_at_call 122; refine (HH.out _ (by decide) _).mono ?_; rintro e w' ⟨rfl, rfl⟩; obtain ⟨Nv, Ni, Ns, Nr, Nb, No, Nc, Np⟩ := HNs.out; simp only [Nv, Ni, Ns, Nr, Nb, No, Nc, Np]; clear Nv Ni Ns Nr Nb No Nc Np)
      go_ret
      refine ⟨?_, by first | exact alloc_below w _ | exact below_drewN (alloc_below w _) _⟩
      simp [blankB, *]
  · have d0 : (i == 0) = false := beq_eq_false_iff_ne.2 h0
    go_enter Try.func65, Try.ntmps65
    simp only [List.append_eq, List.cons_append, List.nil_append]
    go_wp2_with (go_at_call 122; refine (HH.out _ (by decide) _).mono ?_; rintro e w' ⟨rfl, rfl⟩; obtain ⟨Nv, Ni, Ns, Nr, Nb, No, Nc, Np⟩ := HNs.out; simp only [Nv, Ni, Ns, Nr, Nb, No, Nc, Np]; clear Nv Ni Ns Nr Nb No Nc Np)
    go_ret
    refine ⟨?_, by first | exact alloc_below w _ | exact below_drewN (alloc_below w _) _⟩
    simp [blankB, *]

set_option maxRecDepth 100000 in
set_option maxHeartbeats 8000000 in
theorem blank_vip (k f v i q r : Int) (Ab Ao Ac Ap : Option Addr) (nb no nc np cb co cc cp : Nat) (w : World) :
    Calls Try.prog 65 #[.agg #[.int .i64 k, .int .i64 f, .int .i64 v, .int .i64 i, .int .i64 q, .int .i64 r, .slice Ab nb cb, .slice Ao no co, .slice Ac nc cc, .slice Ap np cp], .string { data := #[118, 105, 112] }] w fun e w' => e = .returned (.bool (blankB true true false false false false false true v i q r nb no nc np)) ∧ Below w.heap.size w w' := by
  obtain ⟨s, hs⟩ : ∃ s : ByteArray, s = { data := #[118, 105, 112] } := ⟨_, rfl⟩
  rw [← hs]
  have HH := Lib.hid (has_is s 3 (by rw [hs]; rfl) (by omega))
  have Nv : hasN s 118 = true := by rw [hs]; decide
  have Ni : hasN s 105 = true := by rw [hs]; decide
  have Ns : hasN s 115 = false := by rw [hs]; decide
  have Nr : hasN s 114 = false := by rw [hs]; decide
  have Nb : hasN s 98 = false := by rw [hs]; decide
  have No : hasN s 111 = false := by rw [hs]; decide
  have Nc : hasN s 99 = false := by rw [hs]; decide
  have Np : hasN s 112 = true := by rw [hs]; decide
  have HNs := Lib.hid (And.intro Nv (And.intro Ni (And.intro Ns (And.intro Nr (And.intro Nb (And.intro No (And.intro Nc Np)))))))
  clear hs Nv Ni Ns Nr Nb No Nc Np
  by_cases h0 : q = 0
  · subst h0
    by_cases h1 : r = 0
    · subst h1
      by_cases h2 : nb = 0
      · subst h2
        by_cases h3 : no = 0
        · subst h3
          by_cases h4 : nc = 0
          · subst h4
            go_enter Try.func65, Try.ntmps65
            simp only [List.append_eq, List.cons_append, List.nil_append]
            go_wp2_with (go_at_call 122; refine (HH.out _ (by decide) _).mono ?_; rintro e w' ⟨rfl, rfl⟩; obtain ⟨Nv, Ni, Ns, Nr, Nb, No, Nc, Np⟩ := HNs.out; simp only [Nv, Ni, Ns, Nr, Nb, No, Nc, Np]; clear Nv Ni Ns Nr Nb No Nc Np)
            go_ret
            refine ⟨?_, by first | exact alloc_below w _ | exact below_drewN (alloc_below w _) _⟩
            simp [blankB, *]
          · have d4 : (((nc : Nat) : Int) == 0) = false := by rw [beq_eq_false_iff_ne]; omega
            go_enter Try.func65, Try.ntmps65
            simp only [List.append_eq, List.cons_append, List.nil_append]
            go_wp2_with (go_at_call 122; refine (HH.out _ (by decide) _).mono ?_; rintro e w' ⟨rfl, rfl⟩; obtain ⟨Nv, Ni, Ns, Nr, Nb, No, Nc, Np⟩ := HNs.out; simp only [Nv, Ni, Ns, Nr, Nb, No, Nc, Np]; clear Nv Ni Ns Nr Nb No Nc Np)
            go_ret
            refine ⟨?_, by first | exact alloc_below w _ | exact below_drewN (alloc_below w _) _⟩
            simp [blankB, *]
        · have d3 : (((no : Nat) : Int) == 0) = false := by rw [beq_eq_false_iff_ne]; omega
          go_enter Try.func65, Try.ntmps65
          simp only [List.append_eq, List.cons_append, List.nil_append]
          go_wp2_with (go_at_call 122; refine (HH.out _ (by decide) _).mono ?_; rintro e w' ⟨rfl, rfl⟩; obtain ⟨Nv, Ni, Ns, Nr, Nb, No, Nc, Np⟩ := HNs.out; simp only [Nv, Ni, Ns, Nr, Nb, No, Nc, Np]; clear Nv Ni Ns Nr Nb No Nc Np)
          go_ret
          refine ⟨?_, by first | exact alloc_below w _ | exact below_drewN (alloc_below w _) _⟩
          simp [blankB, *]
      · have d2 : (((nb : Nat) : Int) == 0) = false := by rw [beq_eq_false_iff_ne]; omega
        go_enter Try.func65, Try.ntmps65
        simp only [List.append_eq, List.cons_append, List.nil_append]
        go_wp2_with (go_at_call 122; refine (HH.out _ (by decide) _).mono ?_; rintro e w' ⟨rfl, rfl⟩; obtain ⟨Nv, Ni, Ns, Nr, Nb, No, Nc, Np⟩ := HNs.out; simp only [Nv, Ni, Ns, Nr, Nb, No, Nc, Np]; clear Nv Ni Ns Nr Nb No Nc Np)
        go_ret
        refine ⟨?_, by first | exact alloc_below w _ | exact below_drewN (alloc_below w _) _⟩
        simp [blankB, *]
    · have d1 : (r == 0) = false := beq_eq_false_iff_ne.2 h1
      go_enter Try.func65, Try.ntmps65
      simp only [List.append_eq, List.cons_append, List.nil_append]
      go_wp2_with (go_at_call 122; refine (HH.out _ (by decide) _).mono ?_; rintro e w' ⟨rfl, rfl⟩; obtain ⟨Nv, Ni, Ns, Nr, Nb, No, Nc, Np⟩ := HNs.out; simp only [Nv, Ni, Ns, Nr, Nb, No, Nc, Np]; clear Nv Ni Ns Nr Nb No Nc Np)
      go_ret
      refine ⟨?_, by first | exact alloc_below w _ | exact below_drewN (alloc_below w _) _⟩
      simp [blankB, *]
  · have d0 : (q == 0) = false := beq_eq_false_iff_ne.2 h0
    go_enter Try.func65, Try.ntmps65
    simp only [List.append_eq, List.cons_append, List.nil_append]
    go_wp2_with (go_at_call 122; refine (HH.out _ (by decide) _).mono ?_; rintro e w' ⟨rfl, rfl⟩; obtain ⟨Nv, Ni, Ns, Nr, Nb, No, Nc, Np⟩ := HNs.out; simp only [Nv, Ni, Ns, Nr, Nb, No, Nc, Np]; clear Nv Ni Ns Nr Nb No Nc Np)
    go_ret
    refine ⟨?_, by first | exact alloc_below w _ | exact below_drewN (alloc_below w _) _⟩
    simp [blankB, *]

set_option maxRecDepth 100000 in
set_option maxHeartbeats 8000000 in
theorem blank_c (k f v i q r : Int) (Ab Ao Ac Ap : Option Addr) (nb no nc np cb co cc cp : Nat) (w : World) :
    Calls Try.prog 65 #[.agg #[.int .i64 k, .int .i64 f, .int .i64 v, .int .i64 i, .int .i64 q, .int .i64 r, .slice Ab nb cb, .slice Ao no co, .slice Ac nc cc, .slice Ap np cp], .string { data := #[99] }] w fun e w' => e = .returned (.bool (blankB false false false false false false true false v i q r nb no nc np)) ∧ Below w.heap.size w w' := by
  obtain ⟨s, hs⟩ : ∃ s : ByteArray, s = { data := #[99] } := ⟨_, rfl⟩
  rw [← hs]
  have HH := Lib.hid (has_is s 1 (by rw [hs]; rfl) (by omega))
  have Nv : hasN s 118 = false := by rw [hs]; decide
  have Ni : hasN s 105 = false := by rw [hs]; decide
  have Ns : hasN s 115 = false := by rw [hs]; decide
  have Nr : hasN s 114 = false := by rw [hs]; decide
  have Nb : hasN s 98 = false := by rw [hs]; decide
  have No : hasN s 111 = false := by rw [hs]; decide
  have Nc : hasN s 99 = true := by rw [hs]; decide
  have Np : hasN s 112 = false := by rw [hs]; decide
  have HNs := Lib.hid (And.intro Nv (And.intro Ni (And.intro Ns (And.intro Nr (And.intro Nb (And.intro No (And.intro Nc Np)))))))
  clear hs Nv Ni Ns Nr Nb No Nc Np
  by_cases h0 : v = 0
  · subst h0
    by_cases h1 : i = 0
    · subst h1
      by_cases h2 : q = 0
      · subst h2
        by_cases h3 : r = 0
        · subst h3
          by_cases h4 : nb = 0
          · subst h4
            by_cases h5 : no = 0
            · subst h5
              by_cases h6 : np = 0
              · subst h6
                go_enter Try.func65, Try.ntmps65
                simp only [List.append_eq, List.cons_append, List.nil_append]
                go_wp2_with (go_at_call 122; refine (HH.out _ (by decide) _).mono ?_; rintro e w' ⟨rfl, rfl⟩; obtain ⟨Nv, Ni, Ns, Nr, Nb, No, Nc, Np⟩ := HNs.out; simp only [Nv, Ni, Ns, Nr, Nb, No, Nc, Np]; clear Nv Ni Ns Nr Nb No Nc Np)
                go_ret
                refine ⟨?_, by first | exact alloc_below w _ | exact below_drewN (alloc_below w _) _⟩
                simp [blankB, *]
              · have d6 : (((np : Nat) : Int) == 0) = false := by rw [beq_eq_false_iff_ne]; omega
                go_enter Try.func65, Try.ntmps65
                simp only [List.append_eq, List.cons_append, List.nil_append]
                go_wp2_with (go_at_call 122; refine (HH.out _ (by decide) _).mono ?_; rintro e w' ⟨rfl, rfl⟩; obtain ⟨Nv, Ni, Ns, Nr, Nb, No, Nc, Np⟩ := HNs.out; simp only [Nv, Ni, Ns, Nr, Nb, No, Nc, Np]; clear Nv Ni Ns Nr Nb No Nc Np)
                go_ret
                refine ⟨?_, by first | exact alloc_below w _ | exact below_drewN (alloc_below w _) _⟩
                simp [blankB, *]
            · have d5 : (((no : Nat) : Int) == 0) = false := by rw [beq_eq_false_iff_ne]; omega
              go_enter Try.func65, Try.ntmps65
              simp only [List.append_eq, List.cons_append, List.nil_append]
              go_wp2_with (go_at_call 122; refine (HH.out _ (by decide) _).mono ?_; rintro e w' ⟨rfl, rfl⟩; obtain ⟨Nv, Ni, Ns, Nr, Nb, No, Nc, Np⟩ := HNs.out; simp only [Nv, Ni, Ns, Nr, Nb, No, Nc, Np]; clear Nv Ni Ns Nr Nb No Nc Np)
              go_ret
              refine ⟨?_, by first | exact alloc_below w _ | exact below_drewN (alloc_below w _) _⟩
              simp [blankB, *]
          · have d4 : (((nb : Nat) : Int) == 0) = false := by rw [beq_eq_false_iff_ne]; omega
            go_enter Try.func65, Try.ntmps65
            simp only [List.append_eq, List.cons_append, List.nil_append]
            go_wp2_with (go_at_call 122; refine (HH.out _ (by decide) _).mono ?_; rintro e w' ⟨rfl, rfl⟩; obtain ⟨Nv, Ni, Ns, Nr, Nb, No, Nc, Np⟩ := HNs.out; simp only [Nv, Ni, Ns, Nr, Nb, No, Nc, Np]; clear Nv Ni Ns Nr Nb No Nc Np)
            go_ret
            refine ⟨?_, by first | exact alloc_below w _ | exact below_drewN (alloc_below w _) _⟩
            simp [blankB, *]
        · have d3 : (r == 0) = false := beq_eq_false_iff_ne.2 h3
          go_enter Try.func65, Try.ntmps65
          simp only [List.append_eq, List.cons_append, List.nil_append]
          go_wp2_with (go_at_call 122; refine (HH.out _ (by decide) _).mono ?_; rintro e w' ⟨rfl, rfl⟩; obtain ⟨Nv, Ni, Ns, Nr, Nb, No, Nc, Np⟩ := HNs.out; simp only [Nv, Ni, Ns, Nr, Nb, No, Nc, Np]; clear Nv Ni Ns Nr Nb No Nc Np)
          go_ret
          refine ⟨?_, by first | exact alloc_below w _ | exact below_drewN (alloc_below w _) _⟩
          simp [blankB, *]
      · have d2 : (q == 0) = false := beq_eq_false_iff_ne.2 h2
        go_enter Try.func65, Try.ntmps65
        simp only [List.append_eq, List.cons_append, List.nil_append]
        go_wp2_with (go_at_call 122; refine (HH.out _ (by decide) _).mono ?_; rintro e w' ⟨rfl, rfl⟩; obtain ⟨Nv, Ni, Ns, Nr, Nb, No, Nc, Np⟩ := HNs.out; simp only [Nv, Ni, Ns, Nr, Nb, No, Nc, Np]; clear Nv Ni Ns Nr Nb No Nc Np)
        go_ret
        refine ⟨?_, by first | exact alloc_below w _ | exact below_drewN (alloc_below w _) _⟩
        simp [blankB, *]
    · have d1 : (i == 0) = false := beq_eq_false_iff_ne.2 h1
      go_enter Try.func65, Try.ntmps65
      simp only [List.append_eq, List.cons_append, List.nil_append]
      go_wp2_with (go_at_call 122; refine (HH.out _ (by decide) _).mono ?_; rintro e w' ⟨rfl, rfl⟩; obtain ⟨Nv, Ni, Ns, Nr, Nb, No, Nc, Np⟩ := HNs.out; simp only [Nv, Ni, Ns, Nr, Nb, No, Nc, Np]; clear Nv Ni Ns Nr Nb No Nc Np)
      go_ret
      refine ⟨?_, by first | exact alloc_below w _ | exact below_drewN (alloc_below w _) _⟩
      simp [blankB, *]
  · have d0 : (v == 0) = false := beq_eq_false_iff_ne.2 h0
    go_enter Try.func65, Try.ntmps65
    simp only [List.append_eq, List.cons_append, List.nil_append]
    go_wp2_with (go_at_call 122; refine (HH.out _ (by decide) _).mono ?_; rintro e w' ⟨rfl, rfl⟩; obtain ⟨Nv, Ni, Ns, Nr, Nb, No, Nc, Np⟩ := HNs.out; simp only [Nv, Ni, Ns, Nr, Nb, No, Nc, Np]; clear Nv Ni Ns Nr Nb No Nc Np)
    go_ret
    refine ⟨?_, by first | exact alloc_below w _ | exact below_drewN (alloc_below w _) _⟩
    simp [blankB, *]

set_option maxRecDepth 100000 in
set_option maxHeartbeats 8000000 in
theorem blank_isr (k f v i q r : Int) (Ab Ao Ac Ap : Option Addr) (nb no nc np cb co cc cp : Nat) (w : World) :
    Calls Try.prog 65 #[.agg #[.int .i64 k, .int .i64 f, .int .i64 v, .int .i64 i, .int .i64 q, .int .i64 r, .slice Ab nb cb, .slice Ao no co, .slice Ac nc cc, .slice Ap np cp], .string { data := #[105, 115, 114] }] w fun e w' => e = .returned (.bool (blankB false true true true false false false false v i q r nb no nc np)) ∧ Below w.heap.size w w' := by
  obtain ⟨s, hs⟩ : ∃ s : ByteArray, s = { data := #[105, 115, 114] } := ⟨_, rfl⟩
  rw [← hs]
  have HH := Lib.hid (has_is s 3 (by rw [hs]; rfl) (by omega))
  have Nv : hasN s 118 = false := by rw [hs]; decide
  have Ni : hasN s 105 = true := by rw [hs]; decide
  have Ns : hasN s 115 = true := by rw [hs]; decide
  have Nr : hasN s 114 = true := by rw [hs]; decide
  have Nb : hasN s 98 = false := by rw [hs]; decide
  have No : hasN s 111 = false := by rw [hs]; decide
  have Nc : hasN s 99 = false := by rw [hs]; decide
  have Np : hasN s 112 = false := by rw [hs]; decide
  have HNs := Lib.hid (And.intro Nv (And.intro Ni (And.intro Ns (And.intro Nr (And.intro Nb (And.intro No (And.intro Nc Np)))))))
  clear hs Nv Ni Ns Nr Nb No Nc Np
  by_cases h0 : v = 0
  · subst h0
    by_cases h1 : nb = 0
    · subst h1
      by_cases h2 : no = 0
      · subst h2
        by_cases h3 : nc = 0
        · subst h3
          by_cases h4 : np = 0
          · subst h4
            go_enter Try.func65, Try.ntmps65
            simp only [List.append_eq, List.cons_append, List.nil_append]
            go_wp2_with (go_at_call 122; refine (HH.out _ (by decide) _).mono ?_; rintro e w' ⟨rfl, rfl⟩; obtain ⟨Nv, Ni, Ns, Nr, Nb, No, Nc, Np⟩ := HNs.out; simp only [Nv, Ni, Ns, Nr, Nb, No, Nc, Np]; clear Nv Ni Ns Nr Nb No Nc Np)
            go_ret
            refine ⟨?_, by first | exact alloc_below w _ | exact below_drewN (alloc_below w _) _⟩
            simp [blankB, *]
          · have d4 : (((np : Nat) : Int) == 0) = false := by rw [beq_eq_false_iff_ne]; omega
            go_enter Try.func65, Try.ntmps65
            simp only [List.append_eq, List.cons_append, List.nil_append]
            go_wp2_with (go_at_call 122; refine (HH.out _ (by decide) _).mono ?_; rintro e w' ⟨rfl, rfl⟩; obtain ⟨Nv, Ni, Ns, Nr, Nb, No, Nc, Np⟩ := HNs.out; simp only [Nv, Ni, Ns, Nr, Nb, No, Nc, Np]; clear Nv Ni Ns Nr Nb No Nc Np)
            go_ret
            refine ⟨?_, by first | exact alloc_below w _ | exact below_drewN (alloc_below w _) _⟩
            simp [blankB, *]
        · have d3 : (((nc : Nat) : Int) == 0) = false := by rw [beq_eq_false_iff_ne]; omega
          go_enter Try.func65, Try.ntmps65
          simp only [List.append_eq, List.cons_append, List.nil_append]
          go_wp2_with (go_at_call 122; refine (HH.out _ (by decide) _).mono ?_; rintro e w' ⟨rfl, rfl⟩; obtain ⟨Nv, Ni, Ns, Nr, Nb, No, Nc, Np⟩ := HNs.out; simp only [Nv, Ni, Ns, Nr, Nb, No, Nc, Np]; clear Nv Ni Ns Nr Nb No Nc Np)
          go_ret
          refine ⟨?_, by first | exact alloc_below w _ | exact below_drewN (alloc_below w _) _⟩
          simp [blankB, *]
      · have d2 : (((no : Nat) : Int) == 0) = false := by rw [beq_eq_false_iff_ne]; omega
        go_enter Try.func65, Try.ntmps65
        simp only [List.append_eq, List.cons_append, List.nil_append]
        go_wp2_with (go_at_call 122; refine (HH.out _ (by decide) _).mono ?_; rintro e w' ⟨rfl, rfl⟩; obtain ⟨Nv, Ni, Ns, Nr, Nb, No, Nc, Np⟩ := HNs.out; simp only [Nv, Ni, Ns, Nr, Nb, No, Nc, Np]; clear Nv Ni Ns Nr Nb No Nc Np)
        go_ret
        refine ⟨?_, by first | exact alloc_below w _ | exact below_drewN (alloc_below w _) _⟩
        simp [blankB, *]
    · have d1 : (((nb : Nat) : Int) == 0) = false := by rw [beq_eq_false_iff_ne]; omega
      go_enter Try.func65, Try.ntmps65
      simp only [List.append_eq, List.cons_append, List.nil_append]
      go_wp2_with (go_at_call 122; refine (HH.out _ (by decide) _).mono ?_; rintro e w' ⟨rfl, rfl⟩; obtain ⟨Nv, Ni, Ns, Nr, Nb, No, Nc, Np⟩ := HNs.out; simp only [Nv, Ni, Ns, Nr, Nb, No, Nc, Np]; clear Nv Ni Ns Nr Nb No Nc Np)
      go_ret
      refine ⟨?_, by first | exact alloc_below w _ | exact below_drewN (alloc_below w _) _⟩
      simp [blankB, *]
  · have d0 : (v == 0) = false := beq_eq_false_iff_ne.2 h0
    go_enter Try.func65, Try.ntmps65
    simp only [List.append_eq, List.cons_append, List.nil_append]
    go_wp2_with (go_at_call 122; refine (HH.out _ (by decide) _).mono ?_; rintro e w' ⟨rfl, rfl⟩; obtain ⟨Nv, Ni, Ns, Nr, Nb, No, Nc, Np⟩ := HNs.out; simp only [Nv, Ni, Ns, Nr, Nb, No, Nc, Np]; clear Nv Ni Ns Nr Nb No Nc Np)
    go_ret
    refine ⟨?_, by first | exact alloc_below w _ | exact below_drewN (alloc_below w _) _⟩
    simp [blankB, *]
end Go.Proofs.Ytljfoajhobambaa
