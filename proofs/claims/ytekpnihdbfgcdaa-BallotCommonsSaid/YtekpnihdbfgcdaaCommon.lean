/- Common of two rows, the first of which rises. -/
import Derived.Test.YtekpnihdbfgcdaaVote
import Derived.Test.YtekpnihdbfgcdaaLater
import Derived.Deep.CutBlock
import Derived.Laws.CopyOwn
import Derived.BigQuiet
namespace Psp
def hasN (l : List (Int × Int)) (m : Int) : Bool := l.any fun v => decide (v.1 = m)

/-- The numbers of a that are in b, too. -/
def both (a : List Int) (b : List (Int × Int)) : List Int := a.filter (hasN b)

theorem both_step {a : List Int} {b : List (Int × Int)} {k : Nat} (h : k < a.length) : both (a.take (k + 1)) b = both (a.take k) b ++ (if hasN b a[k] = true then [a[k]] else []) := by
  unfold both
  rw [List.take_succ_eq_append_getElem h, List.filter_append]
  congr 1
  cases hN : hasN b a[k] <;> simp [hN]

theorem both_lt {a : List Int} {b : List (Int × Int)} {k : Nat} (h : k < a.length) (hp : a.Pairwise (· < ·)) : ∀ m ∈ both (a.take k) b, m < a[k] := by
  intro m hm
  have h1 := (List.mem_filter.1 hm).1
  obtain ⟨p, hp1, hpe⟩ := List.getElem_of_mem h1
  rw [List.length_take] at hp1
  rw [List.getElem_take] at hpe
  rw [← hpe]
  exact (List.pairwise_iff_getElem.1 hp) p k (by omega) h (by omega)
theorem both_len (a : List Int) (b : List (Int × Int)) (k : Nat) : (both (a.take k) b).length ≤ k := by
  have := List.length_filter_le (hasN b) (a.take k)
  rw [List.length_take] at this
  unfold both
  omega
end Psp
namespace Go.Proofs.Ytekpnihdbfgcdaa
open Go.RowKit
set_option linter.unusedVariables false

theorem in_any (l : List (Int × Int)) (v : Value) (m : Int) (w : World) (hr : Rd w w.heap.size 2 v l.length (l.flatMap vv)) (hl : ∀ a ∈ l, isI64 a.1 ∧ isI64 a.2) :
    Calls Try.prog 54 #[v, .int .i64 m] w fun e w' => e = .returned (.bool (Psp.hasN l m)) ∧ Below w.heap.size w w' := by
  obtain ⟨hrl, A, c, rfl, hc1, hc2, hcell⟩ := hr
  obtain ⟨len, hlen⟩ : ∃ len, l.length = len := ⟨_, rfl⟩
  unfold maxLen at hc2
  rw [hlen] at hcell hc1 ⊢
  have Hlen := Lib.hid hlen
  have Hl := Lib.hid hl
  have Hcell := Lib.hid hcell
  obtain ⟨R, hR⟩ : ∃ R, Psp.hasN l m = R := ⟨_, rfl⟩
  rw [hR]
  have HR := Lib.hid hR
  clear hlen hl hrl hcell hR
  go_enter Try.func54, Try.ntmps54
  go_wp2_with fail
  go_loopw [9] (fun i wr => ∃ (k : Nat), i = .int .i64 (k : Int) ∧ k ≤ len ∧ Psp.hasN (l.drop k) m = R ∧ Below w.heap.size w wr) (fun i _ => len - (intOf i).toNat)
  case atStart => exact ⟨0, rfl, Nat.zero_le _, HR.out, Below.refl _ _⟩
  case round =>
    obtain ⟨k, rfl, hk, hup, hbel⟩ := hrel
    have hs0 := hbel.size
    by_cases hlt : k < len
    · obtain ⟨b, o, hAe, hb, hlies⟩ := Hcell.out (by omega)
      subst hAe
      have hx0 : k < l.length := by have := Hlen.out; omega
      obtain ⟨hca, hcb⟩ := vote_cells (hlies.keep (hbel.block b hb)) hx0
      rw [List.drop_eq_getElem_cons hx0] at hup
      have hup' : (decide (l[k].1 = m) || Psp.hasN (l.drop (k + 1)) m) = R := by rw [← hup]; rfl
      clear hup
      generalize l[k].1 = x at *
      generalize l[k].2 = y at *
      have Hup := Lib.hid hup'
      clear hup' hlies
      by_cases h1 : x = m
      · have d1 : decide (x = m) = true := decide_eq_true h1
        have d2 : (x == m) = true := by simpa using h1
        have hRt : R = true := by rw [← Hup.out, d1]; rfl
        clear h1
        subst hRt
        go_wp2_with fail
        go_ret
        exact ⟨rfl, hbel.alloc hs0 _⟩
      · have d1 : decide (x = m) = false := decide_eq_false h1
        have d2 : (x == m) = false := by simpa using h1
        go_wp2_with fail
        go_roundw
        case rel => exact ⟨k + 1, by go_num, by omega, by rw [← Hup.out, d1]; rfl, hbel.alloc hs0 _⟩
        case measure => simp [intOf]; omega
    · obtain rfl : k = len := by omega
      rw [List.drop_eq_nil_of_le (by rw [Hlen.out]; exact Nat.le_refl _)] at hup
      have hRt : R = false := hup.symm
      clear hup
      subst hRt
      go_wp2_with fail
      go_ret
      exact ⟨rfl, hbel⟩

theorem quiet_copy_none {P : Program} {ops : Array Oper} {C : World → Prop} {Q : Act → Prop} {a : Act} {o : Oper} {rest : List Oper} (hgd : o.guard = none) (d s : Operand) (dT sT : TypeId)
    (ho : o.op = .call { callee := .builtin .copy, args := #[d, s], argTypes := #[dT, sT] }) (elem : TypeId) (hu : P.underlying dT = some (.slice elem)) (hsz : (P.info? elem).map (·.size) = some 1)
    (dp sp : Option Addr) (dLen dCap sLen sCap : Nat) (hd : a.eval d = .slice dp dLen dCap) (hs : a.eval s = .slice sp sLen sCap) (hn : Nat.min sLen dLen = 0)
    (h : wpQuiet P ops C Q rest (a.put o.dst (goInt 0))) : wpQuiet P ops C Q (o :: rest) a := by
  have hw : Region.wanted o (yielded ops a.tmps) = true := by simp [Region.wanted, hgd]
  refine wpQuiet_step fun K hK => ?_
  rw [if_pos hw]
  refine ⟨goInt 0, fun w _ => ?_, hK _ h⟩
  have hrun := run_copy_none (P := P) w dT sT o.type elem dp sp dLen dCap sLen sCap hu hsz hn
  unfold Oper.quietAt
  simp [execOp, ho, resolve, invoke, builtin, hd, hs, hrun, Result.andThen, Oper.quietUpon]

theorem intsE5 : Elem Try.prog 35 3 1 8 := ⟨Try.underlying35, by kernel_rfl, by decide⟩

set_option maxRecDepth 100000 in
set_option maxHeartbeats 1000000 in
theorem common_any (a b : List (Int × Int)) (va vb : Value) (w : World) (hra : Rd w w.heap.size 2 va a.length (a.flatMap vv)) (hla : ∀ x ∈ a, isI64 x.1 ∧ isI64 x.2)
    (hrb : Rd w w.heap.size 2 vb b.length (b.flatMap vv)) (hlb : ∀ x ∈ b, isI64 x.1 ∧ isI64 x.2) (hp : (a.map (·.1)).Pairwise (· < ·)) (h13 : a.length ≤ 13) :
    Calls Try.prog 52 #[va, vb] w fun e w' => ∃ v, e = .returned v ∧ w'.ownsRow w.heap.size 3 1 v (Psp.both (a.map (·.1)) b).length ((Psp.both (a.map (·.1)) b).map iv) ∧ Below w.heap.size w w' := by
  obtain ⟨hrl, A, c, rfl, hc1, hc2, hcell⟩ := hra
  obtain ⟨len, hlen⟩ : ∃ len, a.length = len := ⟨_, rfl⟩
  unfold maxLen at hc2
  rw [hlen] at hcell hc1 h13 ⊢
  have Hlen := Lib.hid hlen
  have Hl := Lib.hid hla
  have Hcell := Lib.hid hcell
  have Hrb := Lib.hid hrb
  have Hp := Lib.hid hp
  clear hlen hla hrl hcell hrb hp
  go_enter Try.func52, Try.ntmps52
  go_wp2_with fail
  go_loopw [5, 11] (fun out i wr => ∃ (k : Nat), i = .int .i64 (k : Int) ∧ k ≤ len ∧ wr.ownsRow w.heap.size 3 1 out (Psp.both ((a.map (·.1)).take k) b).length ((Psp.both ((a.map (·.1)).take k) b).map iv) ∧ Below w.heap.size w wr) (fun _ i _ => len - (intOf i).toNat)
  case atStart => exact ⟨0, rfl, Nat.zero_le _, World.ownsRow_nil _ _ _ _, Below.refl _ _⟩
  case round =>
    obtain ⟨k, rfl, hk, hown, hbel⟩ := hrel
    have hs0 := hbel.size
    by_cases hlt : k < len
    · obtain ⟨bb, o, hAe, hb, hlies⟩ := Hcell.out (by omega)
      subst hAe
      have hx0 : k < a.length := by have := Hlen.out; omega
      have hx1 : k < (a.map (·.1)).length := by simpa using hx0
      obtain ⟨hca, hcb⟩ := vote_cells (hlies.keep (hbel.block bb hb)) hx0
      obtain ⟨⟨ha1, ha2⟩, hb1, hb2⟩ := Hl.out a[k] (List.getElem_mem hx0)
      have hst := Psp.both_step (b := b) hx1
      have hblt := Psp.both_lt (b := b) hx1 Hp.out
      have hbl := Psp.both_len (a.map (·.1)) b k
      rw [List.getElem_map] at hst hblt
      generalize a[k].1 = x at *
      generalize a[k].2 = y at *
      obtain ⟨R, hR⟩ : ∃ R, Psp.both ((a.map (·.1)).take k) b = R := ⟨_, rfl⟩
      rw [hR] at hst hown hblt hbl
      have Hst := Lib.hid hst
      have HR := Lib.hid hR
      have Hblt := Lib.hid hblt
      obtain ⟨n, hn⟩ : ∃ n, R.length = n := ⟨_, rfl⟩
      rw [hn] at hbl hown
      obtain ⟨Ao, co, rfl, hco1, hco2, hxx⟩ := own_slice hown
      have Hown := Lib.hid hown
      have Hn := Lib.hid hn
      clear hst hR hlies hblt hxx hown hn
      obtain ⟨h, hh⟩ : ∃ h, Psp.hasN b x = h := ⟨_, rfl⟩
      go_wp2_with fail
      refine (in_any b vb x _ ((Hrb.out.below (hbel.alloc hs0 _)).more (by simp; omega)) hlb).mono ?_
      rintro e w2 ⟨rfl, hb2⟩
      rw [hh]
      cases h with
      | false =>
        go_wp2_with fail
        go_roundw
        case rel => exact ⟨k + 1, by go_num, by omega, by rw [Hst.out, hh]; simpa [Hn.out] using own_below (Hown.out.alloc _) hb2, (hbel.alloc hs0 _).trans (hb2.mono (by simp; omega))⟩
        case measure => simp [intOf]; omega
      | true =>
        have own2 := Lib.hid (own_below (Hown.out.alloc _) hb2)
        have hv2 : w2.cell? ⟨wr.heap.size, 0, none⟩ = some (.int .i64 x) := (hb2.cell (p := ⟨wr.heap.size, 0, none⟩) (by simp)).trans (by rw [cell_of_row _ _ 0 _ _ _ (heap_alloc_new _ _)]; rfl)
        have hl2 : wr.heap.size < w2.heap.size := by have := hb2.size; simp at this; omega
        have hbel2 := (hbel.alloc hs0 (.cells #[Value.int .i64 x, Value.int .i64 y] 51)).trans (hb2.mono (by simp; omega))
        obtain ⟨g7, hg7⟩ : ∃ g, wr.heap.size = g := ⟨_, rfl⟩
        rw [hg7] at hv2 hl2 ⊢
        have Hg7 := Lib.hid hg7
        clear hg7
        go_upto_block 2 with fail
        go_cut [8] from 12 to 64 (fun k' wx => k' = .int .i64 (n : Int) ∧ Below w2.heap.size w2 wx)
        case first =>
          go_wp2_with fail
          go_loopw [8] (fun k' wr3 => ∃ q : Nat, k' = .int .i64 (q : Int) ∧ q ≤ n ∧ Below w2.heap.size w2 wr3) (fun k' _ => n - (intOf k').toNat)
          case atStart => exact ⟨0, rfl, Nat.zero_le _, Below.refl _ _⟩
          case round =>
            obtain ⟨q, rfl, hq, hb3⟩ := hrel
            have hv3 := (hb3.cell (p := ⟨g7, 0, none⟩) hl2).trans hv2
            by_cases hqn : q < n
            · obtain ⟨g2, rfl, hqx, hcq⟩ := own_cell own2.out hqn
              have hqR : q < R.length := by rw [Hn.out]; exact hqn
              obtain ⟨z, hz⟩ : ∃ m, R[q] = m := ⟨_, rfl⟩
              have hzx : z < x := Hblt.out z (by rw [← hz]; exact List.getElem_mem hqR)
              simp only [List.getElem_map, hz, iv] at hcq
              have hcq3 := (hb3.cell (p := ⟨g2, q, none⟩) (World.block_lt_of_cell? w2 ⟨g2, q, none⟩ hcq)).trans hcq
              have d1 : decide (z < x) = true := decide_eq_true hzx
              clear hz hqx hcq hv2
              go_wp2_with fail
              go_quiet (fail)
              go_wp2_with fail
              go_roundw
              case rel => exact ⟨q + 1, by go_num, by omega, below_drewN hb3 _⟩
              case measure => simp [intOf]; omega
            · obtain rfl : q = n := by omega
              go_wp2_with fail
              go_quiet (fail)
              go_wp2_with fail
              go_meet
              exact ⟨rfl, below_drewN hb3 _⟩
        case rest =>
          obtain ⟨rfl, hb3⟩ := hcut
          have hv3 := (hb3.cell (p := ⟨g7, 0, none⟩) hl2).trans hv2
          have own3 := Lib.hid (own_below own2.out hb3)
          have hbel3 := hbel2.trans (hb3.mono hbel2.size)
          have hs3 := hbel3.size
          have hg7 := Nat.lt_of_lt_of_le hl2 hb3.size
          have hg7' : w.heap.size ≤ g7 := by have := Hg7.out; omega
          clear hv2 hb3 hbel2 hbel hb2
          have hd9 : decide ((n : Int) < (n : Int)) = false := by simp
          go_wp2_with fail
          go_quiet (fail)
          go_wp2_with (at_builtin; refine wpList_app1 intsE5 rfl _ _ rfl w.heap.size _ _ _ rfl own3.out _ rfl rfl (by simp [Value.oneCell']) (by omega) (by omega) (by simp; omega) ?_; intro v' w' hown' hg' hbel' _; have hg2 : (wc.drewN nq).grownBy w' (Value.slice Ao n co).ownBlock := hg'; clear hg')
          have hv4 := (hg2.cell_far ⟨g7, 0, none⟩ hg7 (fun he => by have := (Hown.out.lt g7 he.symm).2; have := Hg7.out; omega)).trans hv3
          have hw4 := (below_drewN hbel3 nq).trans hbel'
          obtain ⟨Ax, cx, rfl, hcx1, hcx2, hxx⟩ := own_slice hown'
          obtain ⟨gx, rfl, hgx1, hgx2, hxl⟩ := hxx (by omega)
          have hfx := hown'.frozenAt n
          have hcx := hown'.cellAt n (by omega)
          have hcx3 : (n : Int) < cx := by omega
          have hcx4 : (n : Int) + 1 ≤ cx := by omega
          have hcx5 : (cx : Int) ≤ 9223372036854775807 := by omega
          have Hown4 := Lib.hid hown'
          have Hw4 := Lib.hid hw4
          clear hxx hxl hown' hg2 hv3 hbel' hbel3 hw4
          rw [List.getElem?_append_right (by simp [Hn.out]), List.length_map, Hn.out, Nat.sub_self] at hcx
          refine wp_region_quiet_lit (by kernel_rfl) (by kernel_rfl) ?_
          repeat (first | (refine quiet_copy_none rfl (.tmp 54) (.tmp 57) _ _ rfl 3 Try.underlying35 (by kernel_rfl) _ _ _ _ _ _ rfl rfl (by simp) ?_) | go_big_quiet_step (fail))
          refine wpQuiet_nil ?_
          intro _ hw'
          obtain ⟨nq2, hw''⟩ := hw'
          subst hw''
          go_wp2_with fail
          go_roundw
          case rel =>
            refine ⟨k + 1, by go_num, by omega, ?_, ?_⟩
            · rw [Hst.out, hh, if_pos rfl, List.length_append, Hn.out, List.map_append]
              have h5 := (Hown4.out.stored n (.int .i64 x)).1
              rw [List.set_append_right _ _ (by simp [Hn.out]), List.length_map, Hn.out, Nat.sub_self] at h5
              exact h5
            · exact below_drewN (Hw4.out.setCell hgx1 _) _
          case measure => simp [intOf]; omega
    · obtain rfl : k = len := by omega
      rw [List.take_of_length_le (by rw [List.length_map, Hlen.out]; exact Nat.le_refl _)] at hown
      go_wp2_with fail
      go_ret
      exact ⟨_, rfl, hown, hbel⟩
end Go.Proofs.Ytekpnihdbfgcdaa
