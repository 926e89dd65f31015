/- The walk of BallotCommons. -/
import Derived.Test.YtekpnihdbfgcdaaCommon
import Derived.Test.YtekpnihdbfgcdaaRow
import Derived.Test.YtekpnihdbfgcdaaMeet
import Derived.Test.YtekpnihdbfgcdaaWakes4
namespace Go.Proofs.Ytekpnihdbfgcdaa.ballotCommons
open Go.RowKit
set_option linter.unusedVariables false

def occ (m : Int) (l : List Int) : Nat := l.countP (fun x => decide (x = m))
theorem occ_step {m : Int} {l : List Int} {k : Nat} (h : k < l.length) : occ m (l.take (k + 1)) = occ m (l.take k) + (if l[k] = m then 1 else 0) := by
  unfold occ
  rw [List.take_succ_eq_append_getElem h, List.countP_append, List.countP_singleton]
  simp
/-- The votes of these nodes. -/
def votes (ns : List Int) : List (Int × Int) := ns.map fun m => (m, 1)
theorem votes_fst (ns : List Int) : (votes ns).map (·.1) = ns := by
  unfold votes; rw [List.map_map]; simp [Function.comp_def]
theorem votes_has {ns : List Int} (m : Int) : Psp.hasN (votes ns) m = true ↔ m ∈ ns := by
  simp [Psp.hasN, votes]
theorem votes_wf {ns : List Int} (h : ∀ m ∈ ns, 0 ≤ m ∧ m < 13) : ∀ x ∈ votes ns, isI64 x.1 ∧ isI64 x.2 := by
  intro x hx
  obtain ⟨m, hm, rfl⟩ := List.mem_map.1 hx
  have := h m hm
  unfold isI64; simp; omega
theorem votes_rd {w : World} {base : Nat} {v : Value} {ns : List Int} (h : w.ownsRow base 51 2 v ns.length (votesOf ns)) : Rd w w.heap.size 2 v (votes ns).length ((votes ns).flatMap vv) := by
  have := Rd.of_own h
  unfold votes
  rw [List.length_map]
  exact this
theorem votes_cell {w : World} {b o : Nat} {ns : List Int} (h : Lies w b o ((votes ns).flatMap vv)) {k : Nat} (hk : k < ns.length) : w.cell? ⟨b, o + k * 2, none⟩ = some (.int .i64 ns[k]) := by
  have := (vote_cells h (k := k) (by unfold votes; simpa using hk)).1
  simpa [votes] using this

/-- What is there behind the calls. -/
structure Rows3 (w0 w : World) (f : Int) (ns1 ns2 C : List Int) : Prop where
  r1 : Psp.rising ns1 f = true
  r2 : Psp.rising ns2 f = true
  bel : Below w0.heap.size w0 w
  mem : ∀ m ∈ C, m ∈ ns1 ∧ m ∈ ns2
  srt : C.Pairwise (· < ·)
  len : f + 1 ≤ (C.length : Int)

theorem Rows3.mk' {w0 w : World} {f : Int} {ns1 ns2 : List Int} (f1 : 1 ≤ f) (f2 : f ≤ 4) (r1 : Psp.rising ns1 f = true) (r2 : Psp.rising ns2 f = true) (bel : Below w0.heap.size w0 w) : Rows3 w0 w f ns1 ns2 (Psp.both ns1 (votes ns2)) := by
  obtain ⟨l1, s1, b1⟩ := Psp.rising_parts f1 f2 r1
  obtain ⟨l2, s2, b2⟩ := Psp.rising_parts f1 f2 r2
  refine ⟨r1, r2, bel, fun m hm => ?_, s1.filter _, ?_⟩
  · obtain ⟨h1, h2⟩ := List.mem_filter.1 hm
    exact ⟨h1, (votes_has m).1 h2⟩
  · have := Psp.meet (p := Psp.hasN (votes ns2)) (n := (3 * f + 1).toNat) (k := (f + 1).toNat) s1 s2 (fun m hm => by have := b1 m hm; omega) (fun m hm => by have := b2 m hm; omega) (fun m => votes_has m) (by omega)
    unfold Psp.both
    omega

set_option maxRecDepth 100000 in
set_option maxHeartbeats 1000000 in
theorem walk (a0 : Int) (v1 : Value) (l1 : List Int) (v2 : Value) (l2 : List Int) (w : World) (b0 : isI64 a0) (hr1 : Rd w w.heap.size 1 v1 l1.length (l1.flatMap fun n => [iv n])) (hl1 : ∀ n ∈ l1, isI64 n)
    (hr2 : Rd w w.heap.size 1 v2 l2.length (l2.flatMap fun n => [iv n])) (hl2 : ∀ n ∈ l2, isI64 n) :
    Calls Try.prog 19 #[.int .i64 a0, v1, v2] w fun e w' => e = .returned (.bool true) ∧ Below w.heap.size w w' := by
  rw [flat_one] at hr1 hr2
  obtain ⟨c0, d0⟩ := b0
  have x0 := Psp.within_lo a0 4
  have x1 := Psp.within_hi a0 4 (by omega)
  obtain ⟨x, hx⟩ : ∃ x, Psp.within a0 4 = x := ⟨_, rfl⟩
  rw [hx] at x0 x1
  have hk' : Psp.weak (1 + x) = (1 + x) + 1 := by unfold Psp.weak; rw [if_pos ⟨by omega, by omega⟩]
  obtain ⟨f, hf⟩ : ∃ f, 1 + x = f := ⟨_, rfl⟩
  have f1 : 1 ≤ f := by omega
  have f2 : f ≤ 4 := by omega
  rw [hf] at hk'
  have Hr1 := Lib.hid hr1
  have Hr2 := Lib.hid hr2
  have Hl1 := Lib.hid hl1
  have Hl2 := Lib.hid hl2
  clear hr1 hr2 hl1 hl2
  go_enter Try.func19, Try.ntmps19
  go_wp2_with (go_at_call 20; refine (within_any _ _ _ (by omega) (by omega) (by omega) (by omega)).mono ?_; rintro e w' ⟨rfl, rfl⟩)
  refine (row_any f v1 l1 _ f1 f2 Hr1.out Hl1.out).mono ?_
  rintro e w1 ⟨vx, ns1, rfl, hown1, hris1, hbel1⟩
  have Hx1 := Lib.hid (votes_rd hown1)
  have Hris1 := Lib.hid hris1
  have Hbel1 := Lib.hid hbel1
  clear hown1 hris1 hbel1
  go_wp2_with fail
  refine (row_any f v2 l2 _ f1 f2 ((Hr2.out.below Hbel1.out).more Hbel1.out.size) Hl2.out).mono ?_
  rintro e w2 ⟨vy, ns2, rfl, hown2, hris2, hbel2⟩
  have Hy2 := Lib.hid (votes_rd hown2)
  have Hx2 := Lib.hid ((Hx1.out.below hbel2).more hbel2.size)
  have Hris2 := Lib.hid hris2
  have Hbel2 := Lib.hid (Hbel1.out.trans (hbel2.mono Hbel1.out.size))
  clear hown2 hris2 hbel2
  obtain ⟨q1, s1, bd1⟩ := Psp.rising_parts f1 f2 Hris1.out
  obtain ⟨q2, s2, bd2⟩ := Psp.rising_parts f1 f2 Hris2.out
  have Wf1 := Lib.hid (votes_wf (ns := ns1) fun m hm => by have := bd1 m hm; omega)
  have Wf2 := Lib.hid (votes_wf (ns := ns2) fun m hm => by have := bd2 m hm; omega)
  have S1 := Lib.hid s1
  have S2 := Lib.hid s2
  have h13 : (votes ns1).length ≤ 13 := by unfold votes; simp; omega
  have H13 := Lib.hid h13
  clear s1 s2 bd1 bd2 q1 q2 h13
  go_wp2_with fail
  refine (common_any (votes ns1) (votes ns2) vx vy _ Hx2.out Wf1.out Hy2.out Wf2.out (by rw [votes_fst]; exact S1.out) H13.out).mono ?_
  rintro e w3 ⟨vc, rfl, hown3, hbel3⟩
  rw [votes_fst] at hown3
  have H3 := Lib.hid (Rows3.mk' f1 f2 Hris1.out Hris2.out (Hbel2.out.trans (hbel3.mono Hbel2.out.size)))
  obtain ⟨C, hC⟩ : ∃ C, Psp.both ns1 (votes ns2) = C := ⟨_, rfl⟩
  rw [hC] at hown3 H3
  clear hC
  have Hx3 := Lib.hid ((Hx2.out.below hbel3).more hbel3.size)
  have Hy3 := Lib.hid ((Hy2.out.below hbel3).more hbel3.size)
  clear hbel3
  obtain ⟨nc, hnc⟩ : ∃ n, C.length = n := ⟨_, rfl⟩
  rw [hnc] at hown3
  have Hnc := Lib.hid hnc
  have hge : f + 1 ≤ (nc : Int) := by have := H3.out.len; omega
  obtain ⟨Ac, cc, rfl, hcc1, hcc2, hxx⟩ := own_slice hown3
  have Hown := Lib.hid hown3
  obtain ⟨hxl, Ax, cx, rfl, hcx1, hcx2, hxc⟩ := Hx3.out
  obtain ⟨hyl, Ay, cy, rfl, hcy1, hcy2, hyc⟩ := Hy3.out
  have hn1 : (votes ns1).length = ns1.length := by unfold votes; simp
  have hn2 : (votes ns2).length = ns2.length := by unfold votes; simp
  rw [hn1] at hcx1 hxc hxl
  rw [hn2] at hcy1 hyc hyl
  rw [hn1, hn2]
  obtain ⟨n1, hn1'⟩ : ∃ n, ns1.length = n := ⟨_, rfl⟩
  obtain ⟨n2, hn2'⟩ : ∃ n, ns2.length = n := ⟨_, rfl⟩
  rw [hn1'] at hcx1 hxc ⊢
  rw [hn2'] at hcy1 hyc ⊢
  have hn2b : n2 ≤ 13 := by have := (Psp.rising_parts f1 f2 Hris2.out).1; omega
  unfold maxLen at hcx2 hcy2
  have Hn1 := Lib.hid hn1'
  have Hn2 := Lib.hid hn2'
  have Hxc := Lib.hid hxc
  have Hyc := Lib.hid hyc
  clear hxx hown3 hnc hxl hyl hn1 hn2 hn1' hn2' hxc hyc
  go_wp2_with fail
  go_loopw [28] (fun i wr => ∃ (k : Nat), i = .int .i64 (k : Int) ∧ k ≤ nc ∧ ∃ q, wr = w3.drewN q) (fun i _ => nc - (intOf i).toNat)
  case atStart => exact ⟨0, rfl, Nat.zero_le _, 0, rfl⟩
  case round =>
    obtain ⟨k, rfl, hk, q, rfl⟩ := hrel
    by_cases hlt : k < nc
    · obtain ⟨gc, hAe, hxC, hcC⟩ := own_cell Hown.out hlt
      subst hAe
      have hkC : k < C.length := by have := Hnc.out; omega
      obtain ⟨m, hm⟩ : ∃ m, C[k] = m := ⟨_, rfl⟩
      simp only [List.getElem_map, hm, iv] at hcC
      obtain ⟨hm1, hm2⟩ := H3.out.mem m (by rw [← hm]; exact List.getElem_mem hkC)
      have o1 := Psp.occ_one S1.out hm1
      have o2 := Psp.occ_one S2.out hm2
      have O1 := Lib.hid o1
      have O2 := Lib.hid o2
      have Hm := Lib.hid hm
      clear o1 o2 hm1 hm2 hm hxC
      go_wp2_with fail
      go_loopw [11, 33] (fun z j wr => ∃ (p : Nat), j = .int .i64 (p : Int) ∧ p ≤ n1 ∧ z = .int .i64 (occ m (ns1.take p) : Nat) ∧ ∃ q, wr = w3.drewN q) (fun _ j _ => n1 - (intOf j).toNat)
      case atStart => exact ⟨0, rfl, Nat.zero_le _, rfl, _, rfl⟩
      case round =>
        obtain ⟨p, rfl, hp, rfl, q2, rfl⟩ := hrel
        by_cases hpl : p < n1
        · obtain ⟨b, o, hAe, hb, hlies⟩ := Hxc.out (by omega)
          subst hAe
          have hp1 : p < ns1.length := by have := Hn1.out; omega
          have hcx := votes_cell hlies hp1
          have hst := occ_step (m := m) hp1
          obtain ⟨y, hy⟩ : ∃ y, ns1[p] = y := ⟨_, rfl⟩
          rw [hy] at hcx hst
          have hoc : occ m (ns1.take p) ≤ p := by have := List.countP_le_length (p := fun x => decide (x = m)) (l := ns1.take p); rw [List.length_take] at this; unfold occ; omega
          obtain ⟨z, hz⟩ : ∃ z, occ m (ns1.take p) = z := ⟨_, rfl⟩
          rw [hz] at hst hoc ⊢
          have Hst := Lib.hid hst
          clear hst hlies hy hz hb
          by_cases hym : y = m
          · have d : (y == m) = true := by simpa using hym
            have e := Hst.out
            rw [if_pos hym] at e
            have E := Lib.hid e
            clear hym e
            go_wp2_with fail
            go_quiet (fail)
            go_wp2_with fail
            go_roundw
            case rel => exact ⟨p + 1, by go_num, by omega, by rw [E.out]; go_num, _, rfl⟩
            case measure => simp [intOf]; omega
          · have d : (y == m) = false := by simpa using hym
            have e := Hst.out
            rw [if_neg hym] at e
            have E := Lib.hid e
            clear hym e
            go_wp2_with fail
            go_quiet (fail)
            go_wp2_with fail
            go_roundw
            case rel => exact ⟨p + 1, by go_num, by omega, by rw [E.out]; go_num, _, rfl⟩
            case measure => simp [intOf]; omega
        · obtain rfl : p = n1 := by omega
          have e : occ m (ns1.take p) = 1 := by rw [List.take_of_length_le (by rw [Hn1.out]; exact Nat.le_refl _)]; exact O1.out
          rw [e]
          clear e
          go_wp2_with fail
          go_loopw [11, 51] (fun z j wr => ∃ (p : Nat), j = .int .i64 (p : Int) ∧ p ≤ n2 ∧ z = .int .i64 (1 + occ m (ns2.take p) : Nat) ∧ ∃ q, wr = w3.drewN q) (fun _ j _ => n2 - (intOf j).toNat)
          case atStart => exact ⟨0, rfl, Nat.zero_le _, rfl, _, rfl⟩
          case round =>
            obtain ⟨p2, rfl, hp2, rfl, q3, rfl⟩ := hrel
            by_cases hpl2 : p2 < n2
            · obtain ⟨b, o, hAe, hb, hlies⟩ := Hyc.out (by omega)
              subst hAe
              have hp1 : p2 < ns2.length := by have := Hn2.out; omega
              have hcy := votes_cell hlies hp1
              have hst := occ_step (m := m) hp1
              obtain ⟨y, hy⟩ : ∃ y, ns2[p2] = y := ⟨_, rfl⟩
              rw [hy] at hcy hst
              have hoc : occ m (ns2.take p2) ≤ p2 := by have := List.countP_le_length (p := fun x => decide (x = m)) (l := ns2.take p2); rw [List.length_take] at this; unfold occ; omega
              obtain ⟨z, hz⟩ : ∃ z, occ m (ns2.take p2) = z := ⟨_, rfl⟩
              rw [hz] at hst hoc ⊢
              have Hst := Lib.hid hst
              clear hst hlies hy hz hb
              obtain ⟨z1, hz1⟩ : ∃ z1, 1 + z = z1 := ⟨_, rfl⟩
              have hz2 : z1 ≤ 1 + z := by omega
              have Hz1 := Lib.hid hz1
              rw [hz1]
              clear hz1
              by_cases hym : y = m
              · have d : (y == m) = true := by simpa using hym
                have e := Hst.out
                rw [if_pos hym] at e
                have E := Lib.hid e
                clear hym e
                go_wp2_with fail
                go_quiet (fail)
                go_wp2_with fail
                go_roundw
                case rel => exact ⟨p2 + 1, by go_num, by omega, by rw [show 1 + occ m (ns2.take (p2 + 1)) = z1 + 1 by have := E.out; have := Hz1.out; omega]; go_num, _, rfl⟩
                case measure => simp [intOf]; omega
              · have d : (y == m) = false := by simpa using hym
                have e := Hst.out
                rw [if_neg hym] at e
                have E := Lib.hid e
                clear hym e
                go_wp2_with fail
                go_quiet (fail)
                go_wp2_with fail
                go_roundw
                case rel => exact ⟨p2 + 1, by go_num, by omega, by rw [E.out, Nat.add_zero, Hz1.out], _, rfl⟩
                case measure => simp [intOf]; omega
            · obtain rfl : p2 = n2 := by omega
              have e : ((1 + occ m (ns2.take p2) : Nat) : Int) = 2 := by rw [List.take_of_length_le (by rw [Hn2.out]; exact Nat.le_refl _)]; have e2 : occ m ns2 = 1 := O2.out; rw [e2]; rfl
              rw [e]
              clear e
              by_cases hk0 : 0 < k
              · obtain ⟨k1, hk1⟩ : ∃ p, ((k : Int) - 1).toNat = p := ⟨_, rfl⟩
                obtain ⟨g2, hAe, hxC, hcD⟩ := own_cell Hown.out (j := k1) (by omega)
                injection hAe with hAe
                injection hAe with hAe
                subst hAe
                have hk1C : k1 < C.length := by have := Hnc.out; omega
                obtain ⟨y, hy⟩ : ∃ y, C[k1] = y := ⟨_, rfl⟩
                simp only [List.getElem_map, hy, iv] at hcD
                have hlt2 : y < m := by rw [← hy, ← Hm.out]; exact (List.pairwise_iff_getElem.1 H3.out.srt) k1 k hk1C (by have := Hnc.out; omega) (by omega)
                have d1 : decide (0 < (k : Int)) = true := by simp; omega
                have d2 : decide (m ≤ y) = false := by simp; omega
                clear hy hxC
                go_wp2_with fail
                go_quiet (fail)
                go_wp2_with fail
                go_roundw
                case rel => exact ⟨k + 1, by go_num, by omega, _, rfl⟩
                case measure => simp [intOf]; omega
              · obtain rfl : k = 0 := by omega
                go_wp2_with fail
                go_quiet (fail)
                go_wp2_with fail
                go_roundw
                case rel => exact ⟨1, by first | rfl | go_num, by omega, _, rfl⟩
                case measure => simp [intOf]; omega
    · obtain rfl : k = nc := by omega
      have d : decide (f + 1 ≤ (k : Int)) = true := decide_eq_true hge
      have R1 := H3.out.r1
      have R2 := H3.out.r2
      have hX : Rd w3 w3.heap.size 2 (.slice Ax n1 cx) (votes ns1).length ((votes ns1).flatMap vv) := by have := Hx3.out; rwa [show (votes ns1).length = n1 by unfold votes; rw [List.length_map]; exact Hn1.out] at this ⊢
      have hY : Rd w3 w3.heap.size 2 (.slice Ay n2 cy) (votes ns2).length ((votes ns2).flatMap vv) := by have := Hy3.out; rwa [show (votes ns2).length = n2 by unfold votes; rw [List.length_map]; exact Hn2.out] at this ⊢
      have HX := Lib.hid hX
      have HY := Lib.hid hY
      have HR1 := Lib.hid R1
      have HR2 := Lib.hid R2
      clear hX hY R1 R2
      go_wp2_with fail
      refine (rising_any (votes ns1) _ f (w3.drewN q) HX.out Wf1.out).mono ?_
      rintro e w4 ⟨rfl, hb4⟩
      rw [votes_fst, HR1.out]
      have hb4' : Below w3.heap.size w3 w4 := (below_drewN (Below.refl _ w3) q).trans hb4
      have HY4 := Lib.hid ((HY.out.below hb4').more hb4'.size)
      have Hb4 := Lib.hid hb4'
      clear hb4 hb4'
      go_wp2_with fail
      refine (rising_any (votes ns2) _ f _ HY4.out Wf2.out).mono ?_
      rintro e w5 ⟨rfl, hb5⟩
      rw [votes_fst, HR2.out]
      have Hb5 := Lib.hid (Hb4.out.trans (hb5.mono Hb4.out.size))
      clear hb5
      go_wp2_with (first | (go_at_call 27; refine (b_weak_any _ _).mono ?_; rintro e w' ⟨rfl, rfl⟩) | (go_at_call 23; refine (wakes4 _).mono ?_; rintro e w' ⟨rfl, rfl⟩))
      go_ret
      exact ⟨rfl, H3.out.bel.trans (Hb5.out.mono H3.out.bel.size)⟩
end Go.Proofs.Ytekpnihdbfgcdaa.ballotCommons
