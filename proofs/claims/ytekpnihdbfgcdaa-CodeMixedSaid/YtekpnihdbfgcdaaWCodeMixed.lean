/- The walk of the law CodeMixed. -/
import Derived.Test.YtekpnihdbfgcdaaWakes1
import Derived.Test.YtekpnihdbfgcdaaOpen
import Derived.Test.YtekpnihdbfgcdaaOwn
namespace Go.Proofs.Ytekpnihdbfgcdaa.codeMixed
open Go.RowKit
set_option linter.unusedVariables false

theorem intsE : Elem Try.prog 35 3 1 8 := ⟨Try.underlying35, by kernel_rfl, by decide⟩

/-- May the number at place i be written as it is? -/
def okAt (i : Nat) (x : Int) : Bool := if i % 2 = 0 then decide (0 ≤ x ∧ x < 1099511627776) else decide (-549755813888 ≤ x ∧ x < 549755813888)
/-- The number that is written at place i. -/
def valAt (i : Nat) (x : Int) : Int := if okAt i x then x else (i : Int)
/-- The number that stands for it. -/
def codeAt (i : Nat) (x : Int) : Nat := if i % 2 = 0 then (valAt i x).toNat else (Psp.zig (valAt i x)).toNat

theorem codeAt_lt {i : Nat} {x : Int} (hi : i ≤ 40) : codeAt i x < 1099511627776 := by
  unfold codeAt
  split
  · rename_i h
    unfold valAt okAt
    rw [if_pos h]
    split
    · rename_i h2; simp at h2; omega
    · omega
  · have := Psp.zig_bd (valAt i x); omega

theorem valAt_odd {i : Nat} {x : Int} (hi : i ≤ 40) (h : ¬ i % 2 = 0) : -549755813888 ≤ valAt i x ∧ valAt i x < 549755813888 := by
  unfold valAt okAt
  rw [if_neg h]
  split
  · rename_i h2; simpa using h2
  · omega
theorem valAt_even {i : Nat} {x : Int} (hi : i ≤ 40) (h : i % 2 = 0) : 0 ≤ valAt i x ∧ valAt i x < 1099511627776 := by
  unfold valAt okAt
  rw [if_pos h]
  split
  · rename_i h2; simpa using h2
  · omega

def flat (f : Nat → Int) (k : Nat) : List UInt8 := (List.range k).flatMap fun i => Psp.num (codeAt i (f i))

theorem flat_succ (f : Nat → Int) (k : Nat) : flat f (k + 1) = flat f k ++ Psp.num (codeAt k (f k)) := by simp [flat, List.range_succ]

theorem flat_size (f : Nat → Int) : ∀ k, k ≤ 40 → (flat f k).length ≤ 6 * k
  | 0, _ => by simp [flat]
  | k + 1, h => by
    rw [flat_succ, List.length_append]
    have := flat_size f k (by omega)
    have := Psp.num_len6 (codeAt_lt (i := k) (x := f k) (by omega))
    omega

theorem flat_split (f : Nat → Int) (q : Nat) : ∀ k, q ≤ k → ∃ r, flat f k = flat f q ++ r
  | 0, h => ⟨[], by obtain rfl : q = 0 := by omega
                    simp⟩
  | k + 1, h => by
    by_cases he : q = k + 1
    · exact ⟨[], by rw [he]; simp⟩
    · obtain ⟨r, hr⟩ := flat_split f q k (by omega)
      exact ⟨r ++ Psp.num (codeAt k (f k)), by rw [flat_succ, hr, List.append_assoc]⟩

theorem flat_at {f : Nat → Int} {k q : Nat} (hk : k ≤ 40) (hq : q < k) : takeAt (flat f k) ((flat f q).length : Nat) = some (codeAt q (f q), (Psp.num (codeAt q (f q))).length) := by
  obtain ⟨r, hr⟩ := flat_split f (q + 1) k (by omega)
  rw [hr, flat_succ]
  unfold takeAt
  rw [if_neg (by omega), Int.toNat_natCast, List.append_assoc, List.drop_left]
  exact Psp.take_num _ (codeAt_lt (by omega))

structure Inv (B : Nat) (w0 wr : World) (f : Nat → Int) (k : Nat) (b want : Value) : Prop where
  ob : wr.ownsRow B 5 1 b (flat f k).length ((flat f k).map bv)
  ow : wr.ownsRow B 3 1 want k ((List.range k).map fun i => iv (valAt i (f i)))
  bel : Below B w0 wr

theorem Inv.put {w0 wr w1 w2 w3 : World} {f : Nat → Int} {k N : Nat} {x : Int} {b want b' want' : Value} (h : Inv w0.heap.size w0 wr f k b want) (hk : k < 40) (hN : codeAt k (f k) = N) (hx : valAt k (f k) = x) (hb1 : Below wr.heap.size wr w1)
    (o1 : w2.ownsRow w0.heap.size 5 1 b' ((flat f k).length + (Psp.num N).length) ((flat f k).map bv ++ (Psp.num N).map bv)) (g1 : w1.grownBy w2 b.ownBlock)
    (o2 : w3.ownsRow w0.heap.size 3 1 want' (k + 1) (((List.range k).map fun i => iv (valAt i (f i))) ++ [iv x])) (g2 : w2.grownBy w3 want.ownBlock) : Inv w0.heap.size w0 w3 f (k + 1) b' want' := by
  have ob1 := own_below h.ob hb1
  have ow1 := own_below h.ow hb1
  have ow2 := ow1.kept g1 (own_apart ow1 ob1 (by decide))
  have s0 := h.bel.size
  have s1 := hb1.size
  have s2 := g1.size
  subst hN
  subst hx
  refine ⟨?_, ?_, ?_⟩
  · rw [flat_succ, List.length_append, List.map_append]
    exact o1.kept g2 (own_apart o1 ow2 (by decide))
  · rw [List.range_succ, List.map_append]; simpa using o2
  · exact (((h.bel.trans (hb1.mono s0)).grown g1 (by omega) (own_lt ob1)).grown g2 (by omega) (own_lt ow2))

def Drops (B : Nat) (w0 : World) (e : Ending) (w : World) : Prop := ∃ v b, e = .returned (.tuple #[v, .bool b]) ∧ Below B w0 w

theorem signed_drop (x : Int) (w : World) : Calls Try.prog 50 #[.int .i64 x] w (Drops w.heap.size w) := by
  by_cases h : -549755813888 ≤ x ∧ x < 549755813888
  · exact (signed_ok x w h.1 h.2).mono fun e w' ⟨v, he, _, hb⟩ => ⟨v, true, he, hb⟩
  · exact (signed_no x w (by omega)).mono fun e w' ⟨he, hw⟩ => ⟨_, false, he, by rw [← hw]; exact Below.refl _ _⟩

set_option maxHeartbeats 2000000 in
theorem walk (v : Value) (l : List Int) (w : World) (hr : Rd w w.heap.size 1 v l.length (l.flatMap fun n => [iv n])) (hl : ∀ n ∈ l, isI64 n) :
    Calls Try.prog 17 #[v] w fun e w' => e = .returned (.bool true) ∧ Below w.heap.size w w' := by
  rw [flat_one] at hr
  obtain ⟨hrl, A, c, rfl, hc1, hc2, hcell⟩ := hr
  obtain ⟨len, hlen⟩ : ∃ len, l.length = len := ⟨_, rfl⟩
  rw [hlen] at hcell hc1 ⊢
  unfold maxLen at hc2
  have Hlen := Lib.hid hlen
  have Hl := Lib.hid hl
  have Hcell := Lib.hid hcell
  clear hlen hl hrl hcell
  obtain ⟨f, hf⟩ : ∃ f : Nat → Int, f = fun i => l.getD i 0 := ⟨_, rfl⟩
  have Hf := Lib.hid hf
  clear hf
  go_enter Try.func17, Try.ntmps17
  go_wp2
  go_loopw [3, 4, 5] (fun b want i wr => ∃ (k : Nat), i = .int .i64 (k : Int) ∧ k ≤ len ∧ k ≤ 40 ∧ Inv w.heap.size w wr f k b want) (fun _ _ i _ => 40 - (intOf i).toNat)
  case atStart => exact ⟨0, rfl, Nat.zero_le _, Nat.zero_le _, World.ownsRow_nil _ _ _ _, World.ownsRow_nil _ _ _ _, Below.refl _ _⟩
  case round =>
    obtain ⟨k, rfl, hk, hk40, hI⟩ := hrel
    have HI := Lib.hid hI
    have hs0 := hI.bel.size
    have hfs := flat_size f k hk40
    clear hI
    by_cases hlt : k < len ∧ k < 40
    · obtain ⟨hlt, hlt40⟩ := hlt
      obtain ⟨b, o, hAe, hb, hlies⟩ := Hcell.out (by omega)
      subst hAe
      have hx0 : k < l.length := by have := Hlen.out; omega
      have hc := ((hlies.keep (HI.out.bel.block b hb)).at_ (j := k) (by simpa using hx0))
      obtain ⟨x, hx⟩ : ∃ x, l[k] = x := ⟨_, rfl⟩
      have hx64 : isI64 x := Hl.out x (by rw [← hx]; exact List.getElem_mem hx0)
      obtain ⟨hx1, hx2⟩ := hx64
      have hfx : f k = x := by rw [Hf.out, ← hx]; simp [List.getD_eq_getElem?_getD, List.getElem?_eq_getElem hx0]
      simp only [List.getElem_map, hx, iv] at hc
      have Hfx := Lib.hid hfx
      clear hlies hx hfx
      by_cases hev : k % 2 = 0
      · have hev1 : ((k : Int) % 2 == 0) = true := by simp; omega
        by_cases hok : 0 ≤ x ∧ x < 1099511627776
        · obtain ⟨hok0, hok1⟩ := hok
          have hval : valAt k (f k) = x := by rw [Hfx.out]; unfold valAt okAt; rw [if_pos hev]; simp [hok0, hok1]
          have hcode : codeAt k (f k) = x.toNat := by unfold codeAt; rw [if_pos hev, hval]
          have Hval := Lib.hid hval
          have Hcode := Lib.hid hcode
          have n6 := Psp.num_len6 (show x.toNat < 1099511627776 by omega)
          clear hval hcode hev
          go_wp2_with fail
          refine (signed_drop _ _).mono ?_
          rintro e w1 ⟨vd, bd, rfl, hb1⟩
          have hs1 := hb1.size
          go_wp2_with fail
          refine (number_ok _ _ hok0 hok1).mono ?_
          rintro e w2 ⟨v1, rfl, ho1, hb2⟩
          have hbb := Lib.hid (hb1.trans (hb2.mono hb1.size))
          have Ho1 := Lib.hid (Rd.of_own ho1)
          generalize x.toNat = N at *
          have hc' : w2.cell? ⟨b, o + k, none⟩ = some (.int .i64 x) := (hbb.out.cell (p := ⟨b, o + k, none⟩) (by simp; omega)).trans hc
          have hsz := hbb.out.size
          have ob1 := Lib.hid (own_below HI.out.ob hbb.out)
          have ow1 := Lib.hid (own_below HI.out.ow hbb.out)
          clear ho1 hc
          go_wp2_with (first | (at_builtin; refine wpList_app bytesE rfl _ _ rfl w.heap.size u3 _ _ rfl ob1.out _ v1 _ _ rfl Ho1.out (by simp [bv, Value.oneCell']) (by unfold maxLen; omega) (by omega) (by omega) ?_; intro b' w7 o2 g2 _; have c2 := (own_far ob1.out g2 (o := o + k) hb (by omega)).trans hc'; have ow2 := Lib.hid (ow1.out.kept g2 (own_apart ow1.out ob1.out (by decide))); have hs7 := g2.size) | (at_builtin; refine wpList_app1 intsE rfl _ _ rfl w.heap.size u4 _ _ rfl ow2.out _ rfl rfl (by simp [Value.oneCell']) (by omega) (by omega) (by omega) ?_; intro want' w8 o3 g3 _ _))
          go_roundw
          case rel => exact ⟨k + 1, by go_num, by omega, by omega, Inv.put HI.out hlt40 Hcode.out Hval.out hbb.out o2 g2 (by exact o3) g3⟩
          case measure => simp [intOf]; omega
        · have hno : x < 0 ∨ 1099511627776 ≤ x := by omega
          have hval : valAt k (f k) = (k : Int) := by rw [Hfx.out]; unfold valAt okAt; rw [if_pos hev]; simp; omega
          have hcode : codeAt k (f k) = (k : Int).toNat := by unfold codeAt; rw [if_pos hev, hval]
          have Hval := Lib.hid hval
          have Hcode := Lib.hid hcode
          have Hno := Lib.hid hno
          have n6 := Psp.num_len6 (show (k : Int).toNat < 1099511627776 by omega)
          clear hval hcode hev hno hok
          go_wp2_with fail
          refine (signed_drop _ _).mono ?_
          rintro e w1 ⟨vd, bd, rfl, hb1⟩
          have hs1 := hb1.size
          go_wp2_with fail
          refine (number_no _ _ Hno.out).mono ?_
          rintro e w2 ⟨rfl, rfl⟩
          go_wp2_with fail
          refine (signed_drop _ _).mono ?_
          rintro e w2 ⟨vd2, bd2, rfl, hb2⟩
          have hs2 := hb2.size
          go_wp2_with fail
          refine (number_ok _ _ (by omega) (by omega)).mono ?_
          rintro e w3 ⟨v1, rfl, ho1, hb3⟩
          have hbb := Lib.hid ((hb1.trans (hb2.mono hb1.size)).trans (hb3.mono (Nat.le_trans hb1.size hb2.size)))
          have Ho1 := Lib.hid (Rd.of_own ho1)
          generalize (k : Int).toNat = N at *
          have hc' : w3.cell? ⟨b, o + k, none⟩ = some (.int .i64 x) := (hbb.out.cell (p := ⟨b, o + k, none⟩) (by simp; omega)).trans hc
          have hsz := hbb.out.size
          have ob1 := Lib.hid (own_below HI.out.ob hbb.out)
          have ow1 := Lib.hid (own_below HI.out.ow hbb.out)
          clear ho1 hc
          go_wp2_with (first | (at_builtin; refine wpList_app bytesE rfl _ _ rfl w.heap.size u3 _ _ rfl ob1.out _ v1 _ _ rfl Ho1.out (by simp [bv, Value.oneCell']) (by unfold maxLen; omega) (by omega) (by omega) ?_; intro b' w7 o2 g2 _; have c2 := (own_far ob1.out g2 (o := o + k) hb (by omega)).trans hc'; have ow2 := Lib.hid (ow1.out.kept g2 (own_apart ow1.out ob1.out (by decide))); have hs7 := g2.size) | (at_builtin; refine wpList_app1 intsE rfl _ _ rfl w.heap.size u4 _ _ rfl ow2.out _ rfl rfl (by simp [Value.oneCell']) (by omega) (by omega) (by omega) ?_; intro want' w8 o3 g3 _ _))
          go_roundw
          case rel => exact ⟨k + 1, by go_num, by omega, by omega, Inv.put HI.out hlt40 Hcode.out Hval.out hbb.out o2 g2 (by exact o3) g3⟩
          case measure => simp [intOf]; omega
      · have hev1 : ((k : Int) % 2 == 0) = false := by simp; omega
        by_cases hok : -549755813888 ≤ x ∧ x < 549755813888
        · obtain ⟨hok0, hok1⟩ := hok
          have hval : valAt k (f k) = x := by rw [Hfx.out]; unfold valAt okAt; rw [if_neg hev]; simp [hok0, hok1]
          have hcode : codeAt k (f k) = (Psp.zig x).toNat := by unfold codeAt; rw [if_neg hev, hval]
          have Hval := Lib.hid hval
          have Hcode := Lib.hid hcode
          have n6 := Psp.num_len6 (show (Psp.zig x).toNat < 1099511627776 by have := Psp.zig_bd x; omega)
          clear hval hcode hev
          go_wp2_with fail
          refine (signed_ok _ _ hok0 hok1).mono ?_
          rintro e w2 ⟨v1, rfl, ho1, hb2⟩
          have hbb := Lib.hid (hb2)
          have Ho1 := Lib.hid (Rd.of_own ho1)
          generalize (Psp.zig x).toNat = N at *
          have hc' : w2.cell? ⟨b, o + k, none⟩ = some (.int .i64 x) := (hbb.out.cell (p := ⟨b, o + k, none⟩) (by simp; omega)).trans hc
          have hsz := hbb.out.size
          have ob1 := Lib.hid (own_below HI.out.ob hbb.out)
          have ow1 := Lib.hid (own_below HI.out.ow hbb.out)
          clear ho1 hc
          go_wp2_with (first | (at_builtin; refine wpList_app bytesE rfl _ _ rfl w.heap.size u3 _ _ rfl ob1.out _ v1 _ _ rfl Ho1.out (by simp [bv, Value.oneCell']) (by unfold maxLen; omega) (by omega) (by omega) ?_; intro b' w7 o2 g2 _; have c2 := (own_far ob1.out g2 (o := o + k) hb (by omega)).trans hc'; have ow2 := Lib.hid (ow1.out.kept g2 (own_apart ow1.out ob1.out (by decide))); have hs7 := g2.size) | (at_builtin; refine wpList_app1 intsE rfl _ _ rfl w.heap.size u4 _ _ rfl ow2.out _ rfl rfl (by simp [Value.oneCell']) (by omega) (by omega) (by omega) ?_; intro want' w8 o3 g3 _ _))
          go_roundw
          case rel => exact ⟨k + 1, by go_num, by omega, by omega, Inv.put HI.out hlt40 Hcode.out Hval.out hbb.out o2 g2 (by exact o3) g3⟩
          case measure => simp [intOf]; omega
        · have hno : x < -549755813888 ∨ 549755813888 ≤ x := by omega
          have hval : valAt k (f k) = (k : Int) := by rw [Hfx.out]; unfold valAt okAt; rw [if_neg hev]; simp; omega
          have hcode : codeAt k (f k) = (Psp.zig (k : Int)).toNat := by unfold codeAt; rw [if_neg hev, hval]
          have Hval := Lib.hid hval
          have Hcode := Lib.hid hcode
          have Hno := Lib.hid hno
          have n6 := Psp.num_len6 (show (Psp.zig (k : Int)).toNat < 1099511627776 by have := Psp.zig_bd (k : Int); omega)
          clear hval hcode hev hno hok
          go_wp2_with fail
          refine (signed_no _ _ Hno.out).mono ?_
          rintro e w2 ⟨rfl, rfl⟩
          go_wp2_with fail
          refine (signed_ok _ _ (by omega) (by omega)).mono ?_
          rintro e w2 ⟨v1, rfl, ho1, hb2⟩
          have hbb := Lib.hid (hb2)
          have Ho1 := Lib.hid (Rd.of_own ho1)
          generalize (Psp.zig (k : Int)).toNat = N at *
          have hc' : w2.cell? ⟨b, o + k, none⟩ = some (.int .i64 x) := (hbb.out.cell (p := ⟨b, o + k, none⟩) (by simp; omega)).trans hc
          have hsz := hbb.out.size
          have ob1 := Lib.hid (own_below HI.out.ob hbb.out)
          have ow1 := Lib.hid (own_below HI.out.ow hbb.out)
          clear ho1 hc
          go_wp2_with (first | (at_builtin; refine wpList_app bytesE rfl _ _ rfl w.heap.size u3 _ _ rfl ob1.out _ v1 _ _ rfl Ho1.out (by simp [bv, Value.oneCell']) (by unfold maxLen; omega) (by omega) (by omega) ?_; intro b' w7 o2 g2 _; have c2 := (own_far ob1.out g2 (o := o + k) hb (by omega)).trans hc'; have ow2 := Lib.hid (ow1.out.kept g2 (own_apart ow1.out ob1.out (by decide))); have hs7 := g2.size) | (at_builtin; refine wpList_app1 intsE rfl _ _ rfl w.heap.size u4 _ _ rfl ow2.out _ rfl rfl (by simp [Value.oneCell']) (by omega) (by omega) (by omega) ?_; intro want' w8 o3 g3 _ _))
          go_roundw
          case rel => exact ⟨k + 1, by go_num, by omega, by omega, Inv.put HI.out hlt40 Hcode.out Hval.out hbb.out o2 g2 (by exact o3) g3⟩
          case measure => simp [intOf]; omega
    · obtain ⟨Ab, cb, hub, hcb1, hcb2, hxx⟩ := own_slice HI.out.ob
      clear hxx
      obtain ⟨Aw, cw, huw, hcw1, hcw2, hxx⟩ := own_slice HI.out.ow
      clear hxx
      subst hub
      subst huw
      have RB := Lib.hid (Rd.of_own HI.out.ob)
      have hend : len ≤ k ∨ (k < len ∧ 40 ≤ k) := by omega
      clear hlt
      rcases hend with hkl | ⟨hkl, h60⟩
      all_goals
        go_wp2
        go_loop [9, 66] (fun at_ j => ∃ q : Nat, j = .int .i64 (q : Int) ∧ q ≤ k ∧ at_ = .int .i64 ((flat f q).length : Nat)) (fun _ j => k - (intOf j).toNat)
        case atStart => exact ⟨0, rfl, Nat.zero_le _, by simp [flat]⟩
        case round =>
          obtain ⟨q, rfl, hq, rfl⟩ := hrel
          by_cases hqn : q < k
          · obtain ⟨gw, hge, hqx, hcl⟩ := own_cell HI.out.ow hqn
            subst hge
            have ht := flat_at (f := f) hk40 hqn
            have hnext : (flat f (q + 1)).length = (flat f q).length + (Psp.num (codeAt q (f q))).length := by rw [flat_succ, List.length_append]
            have hsq := flat_size f (q + 1) (by omega)
            have hvo := valAt_odd (i := q) (x := f q) (by omega)
            have hve := valAt_even (i := q) (x := f q) (by omega)
            have hcq : codeAt q (f q) = if q % 2 = 0 then (valAt q (f q)).toNat else (Psp.zig (valAt q (f q))).toNat := rfl
            simp only [List.getElem_map, List.getElem_range, iv] at hcl
            generalize codeAt q (f q) = N at *
            generalize valAt q (f q) = y at *
            generalize (flat f q).length = p0 at *
            obtain ⟨p1, hp1⟩ : ∃ p, (flat f (q + 1)).length = p := ⟨_, rfl⟩
            rw [hp1] at hnext hsq
            have Ht := Lib.hid ht
            have Hp1 := Lib.hid hp1
            have hp1c : (p0 : Int) + ((Psp.num N).length : Int) = (p1 : Int) := by omega
            have hp0b : p0 ≤ 360 := by omega
            have hNl : (Psp.num N).length ≤ 360 := by omega
            clear ht hnext hp1
            by_cases hev : q % 2 = 0
            · have hev1 : ((q : Int) % 2 == 0) = true := by simp; omega
              have hy := hve hev
              rw [if_pos hev] at hcq
              have hyN : (N : Int) = y := by omega
              clear hve hvo hev hcq hy
              go_wp2_with fail
              have hany : ∀ W : World, Calls Try.prog 48 #[.slice Ab (flat f k).length cb, .int .i64 (p0 : Int)] wr fun e w' => e = .returned (.tuple #[.int .i64 (Psp.zag (N : Int)), .int .i64 ((p0 : Int) + ((Psp.num N).length : Int)), .bool true]) ∧ wr = w' := fun _ => takes_yes _ _ _ _ N _ _ RB.out (by omega) Ht.out
              refine (hany wr).mono ?_
              clear hany
              rintro e w' ⟨rfl, rfl⟩
              generalize Psp.zag (N : Int) = z at *
              go_wp2_with (go_at_call 41; refine (taken_yes _ _ _ _ N _ _ RB.out (by omega) Ht.out).mono ?_; rintro e w' ⟨rfl, rfl⟩)
              go_round
              case rel => exact ⟨q + 1, by go_num, by omega, by rw [Hp1.out]⟩
              case measure => simp [intOf]; omega
            · have hev1 : ((q : Int) % 2 == 0) = false := by simp; omega
              have hy := hvo hev
              rw [if_neg hev] at hcq
              have hz := Psp.zig_bd y
              have hyN : Psp.zag (N : Int) = y := by rw [show (N : Int) = Psp.zig y by omega]; exact Psp.zag_zig hy.1 hy.2
              clear hve hvo hev hcq hy hz
              go_wp2_with (go_at_call 48; refine (takes_yes _ _ _ _ N _ _ RB.out (by omega) Ht.out).mono ?_; rintro e w' ⟨rfl, rfl⟩)
              go_round
              case rel => exact ⟨q + 1, by go_num, by omega, by rw [Hp1.out]⟩
              case measure => simp [intOf]; omega
          · obtain rfl : q = k := by omega
            have hw1 := Psp.within_self (v := ((flat f q).length : Nat)) (n := ((flat f q).length : Nat) + 1) (by omega) (by omega)
            go_wp2_with (first | (go_at_call 20; refine (within_any _ _ _ (by omega) (by omega) (by omega) (by omega)).mono ?_; rintro e w' ⟨rfl, rfl⟩) | (go_at_call 39; refine (wakes1 _).mono ?_; rintro e w' ⟨rfl, hb⟩))
            go_ret
            exact ⟨rfl, HI.out.bel.trans (hb.mono hs0)⟩
end Go.Proofs.Ytekpnihdbfgcdaa.codeMixed
