/- The walks of the references' own Number and Take. -/
import Derived.Test.YtadaejpodjhkdaaCode2
namespace Go.Proofs.Ytadaejpodjhkdaa
open Go.RowKit
set_option linter.unusedVariables false

theorem r_num_next {N : Nat} {m : Int} {pre : List UInt8} {base : Nat} {w0 wr w' : World} {v' : Value} (h : ¬ m < 128) (hN : (Psp.num N).length ≤ 6) (hp : pre ++ Psp.num m.toNat = Psp.num N) (hb : Below base w0 wr)
    (ho : w'.ownsRow base 5 1 v' (pre.length + 1) (List.map bv pre ++ [Value.int .u8 (128 + m % 128)])) (hb' : Below base wr w') : NumInv N base w0 (m / 128) v' w' := by
  have h1 : ¬ m.toNat < 128 := by omega
  rw [Psp.num_big h1] at hp
  have h2 : (m / 128).toNat = m.toNat / 128 := by omega
  have he : Value.int .u8 (128 + m % 128) = bv (UInt8.ofNat (m.toNat % 128 + 128)) := by
    unfold bv
    rw [Psp.u8_toNat (by omega)]
    congr 1
    omega
  rw [he] at ho
  refine ⟨pre ++ [UInt8.ofNat (m.toNat % 128 + 128)], by rw [h2, ← hp]; simp, ?_, by simpa using ho, hb.trans hb'⟩
  have := congrArg List.length hp
  simp only [List.length_append, List.length_cons] at this
  have h3 := Psp.num_pos (m.toNat / 128)
  simp only [List.length_append, List.length_cons, List.length_nil]
  omega

theorem r_number_ok (x : Int) (w : World) (h0 : 0 ≤ x) (h1 : x < 1099511627776) :
    Calls Try.prog 87 #[.int .i64 x] w (NumOk w.heap.size w x.toNat) := by
  have hN6 := Psp.num_len6 (show x.toNat < 1099511627776 by omega)
  have hst : NumInv x.toNat w.heap.size w x (.slice none 0 0) w := ⟨[], rfl, by simp, World.ownsRow_nil _ _ _ _, Below.refl _ _⟩
  generalize x.toNat = N at *
  go_enter Try.func87, Try.ntmps87
  go_wp2
  go_loopw [0, 4] (fun n out wr => ∃ m : Int, n = .int .i64 m ∧ 0 ≤ m ∧ m < 1099511627776 ∧ NumInv N w.heap.size w m out wr) (fun n _ _ => (intOf n).toNat)
  case atStart => exact ⟨x, rfl, h0, h1, hst⟩
  case round =>
    obtain ⟨m, rfl, hm0, hm1, pre, hpre, hp6, hown, hbel⟩ := hrel
    have Hpre := Lib.hid hpre
    clear hpre hst
    have hsz := hbel.size
    by_cases hlt : m < 128
    · go_wp2_with (at_builtin; refine wpList_app1 bytesE rfl _ _ rfl w.heap.size u4 _ _ rfl hown _ rfl rfl (by simp [Value.oneCell']) (by omega) (by omega) hsz ?_; intro v' w' hown' _ hbel' _; clear hown)
      go_ret2
      exact num_end hm0 hlt Hpre.out hbel (by simpa using hown') hbel'
    · go_wp2_with (at_builtin; refine wpList_app1 bytesE rfl _ _ rfl w.heap.size u4 _ _ rfl hown _ rfl rfl (by simp [Value.oneCell']) (by omega) (by omega) hsz ?_; intro v' w' hown' _ hbel' _; clear hown)
      go_roundw
      case rel => exact ⟨_, rfl, by omega, by omega, r_num_next hlt hN6 Hpre.out hbel (by simpa using hown') hbel'⟩
      case measure => simp [intOf]; omega

theorem r_number_no (x : Int) (w : World) (h : x < 0 ∨ 1099511627776 ≤ x) :
    Calls Try.prog 87 #[.int .i64 x] w fun e w' => e = .returned (.tuple #[.slice none 0 0, .bool false]) ∧ w = w' := by
  by_cases h1 : x < 0
  · clear h
    go_enter Try.func87, Try.ntmps87
    go_wp2
    go_ret2
    exact ⟨rfl, rfl⟩
  · have h2 : 1099511627776 ≤ x := by omega
    clear h
    go_enter Try.func87, Try.ntmps87
    go_wp2
    go_ret2
    exact ⟨rfl, rfl⟩


theorem ref_step {n one p : Int} {k c : Nat} (h0 : 0 ≤ n) (hone : one = ((128 ^ k : Nat) : Int)) (hp : p = ((c : Int) % 128) * one) : n + p = ((n.toNat + c % 128 * 128 ^ k : Nat) : Int) := by
  subst hp
  subst hone
  have : ((c : Int) % 128) * ((128 ^ k : Nat) : Int) = ((c % 128 * 128 ^ k : Nat) : Int) := by
    rw [Int.natCast_mul, Int.natCast_emod]; rfl
  rw [this]
  omega

theorem ref_prod {one : Int} {k c : Nat} (hone : one = ((128 ^ k : Nat) : Int)) (hk : k < 6) : 0 ≤ ((c : Int) % 128) * one ∧ ((c : Int) % 128) * one ≤ 4398046511104 := by
  subst hone
  have h1 : ((c : Int) % 128) * ((128 ^ k : Nat) : Int) = ((c % 128 * 128 ^ k : Nat) : Int) := by
    rw [Int.natCast_mul, Int.natCast_emod]; rfl
  have h2 := Psp.pow_bd (k := k) (n := 0) (d := c % 128) (Nat.pow_pos (by omega)) (Nat.mod_lt _ (by omega))
  have h3 := Psp.pow_le6 (k := k + 1) (by omega)
  rw [h1]
  omega

set_option maxRecDepth 100000 in
set_option maxHeartbeats 1000000 in
theorem r_take_walk (A : Option Addr) (len c : Nat) (l : List UInt8) (at0 : Nat) (R : Option (Nat × Nat)) (w : World) (hR : Psp.take (l.drop at0) = R)
    (hA : 0 < len → ∃ b o, A = some ⟨b, o, none⟩ ∧ Lies w b o (l.map bv)) (hlen : l.length = len) (hbig : len ≤ 9223372036854775807) (hat : at0 ≤ 9223372036854775807) :
    Calls Try.prog 75 #[.slice A len c, .int .i64 (at0 : Int)] w fun e w' => TakeOut at0 R e ∧ w = w' := by
  have hst : TakeInv l at0 R 0 0 := ⟨by omega, by omega, by simp, by simpa [Psp.take] using hR⟩
  go_enter Try.func75, Try.ntmps75
  go_wp2
  go_loopw [1, 7, 8, 9] (fun p n one k wr => ∃ (j : Nat) (x y : Int), p = .int .i64 ((at0 : Int) + (j : Int)) ∧ n = .int .i64 x ∧ one = .int .i64 y ∧ k = .int .i64 (j : Int) ∧ 0 ≤ x ∧ x ≤ 4398046511104 ∧ 1 ≤ y ∧ y ≤ 4398046511104 ∧ j ≤ 6 ∧ Hid (y = ((128 ^ j : Nat) : Int)) ∧ Hid (TakeInv l at0 R j x) ∧ w = wr) (fun _ _ _ k _ => 6 - (intOf k).toNat)
  case atStart => exact ⟨0, 0, 1, by simp, rfl, rfl, rfl, by omega, by omega, by omega, by omega, by omega, Lib.hid (by simp), Lib.hid hst, rfl⟩
  case round =>
    obtain ⟨k, n, one, rfl, rfl, rfl, rfl, hn0, hn1, ho0, ho1, hk6, Hone, HI, rfl⟩ := hrel
    clear hst hR
    by_cases hk : k < 6
    · by_cases hlt : at0 + k < len
      · obtain ⟨b, o, hAe, hl⟩ := hA (by omega)
        clear hA
        subst hAe
        have hc := hl.at_ (j := at0 + k) (by simp; omega)
        obtain ⟨ch, hch⟩ : ∃ ch, l.getD (at0 + k) 0 = ch := ⟨_, rfl⟩
        have hc' : w.cell? ⟨b, o + (at0 + k), none⟩ = some (.int .u8 (ch.toNat : Int)) := by
          rw [hc, ← hch]
          simp [bv, List.getD_eq_getElem?_getD, List.getElem?_eq_getElem (show at0 + k < l.length by omega)]
        clear hc hl
        have hbd := ref_prod (c := ch.toNat) Hone.out hk
        obtain ⟨p, hp⟩ : ∃ p : Int, ((ch.toNat : Int) % 128) * one = p := ⟨_, rfl⟩
        rw [hp] at hbd
        obtain ⟨hp0, hp1⟩ := hbd
        have hn2 := ref_step (c := ch.toNat) hn0 Hone.out hp.symm
        have hch1 : (ch.toNat : Int) < 256 := by have := ch.toNat_lt; omega
        have Hch := Lib.hid hch
        clear hch
        obtain ⟨n2, hn2'⟩ : ∃ n2 : Int, n + p = n2 := ⟨_, rfl⟩
        rw [hn2'] at hn2
        by_cases hb : (128 : Int) ≤ (ch.toNat : Int)
        · have HN := Lib.hid (take_next HI.out hk (by omega) Hch.out hn2 hb)
          have h6 := HN.out.2.2.1
          have h7 := Psp.pow_le6 (k := k + 1) (by omega)
          have hone2 : 128 * one = ((128 ^ (k + 1) : Nat) : Int) := by rw [Hone.out, Nat.pow_succ]; omega
          have hh : n2 ≤ 4398046511104 := by have := HN.out.1; omega
          have hh0 : 0 ≤ n2 := HN.out.1
          have HO := Lib.hid hone2
          have ho2 : 128 * one ≤ 4398046511104 := by omega
          clear hone2 h6 h7 hn2
          go_wp2
          go_roundw
          case rel => exact ⟨k + 1, n2, 128 * one, by go_num, rfl, rfl, by go_num, hh0, hh, by omega, by omega, by omega, HO, HN, by trivial⟩
          case measure => simp [intOf]; omega
        · have HN := Lib.hid (take_fin HI.out hk (by omega) Hch.out hn2 hb)
          have hn20 : 0 ≤ n2 := by omega
          clear hn2
          by_cases hbg : 1099511627776 ≤ n2
          · have HB := Lib.hid (HN.out.1 (.inr hbg))
            go_wp2
            go_ret3
            exact ⟨by rw [HB.out]; rfl, rfl⟩
          · by_cases hz : (ch.toNat : Int) = 0
            · have hz1 : ((ch.toNat : Int) == 0) = true := by simpa using hz
              by_cases hk1 : 1 ≤ k
              · have HB := Lib.hid (HN.out.1 (.inl ⟨hz, hk1⟩))
                clear hz
                go_wp2
                go_ret3
                exact ⟨by rw [HB.out]; rfl, rfl⟩
              · have HB := Lib.hid (HN.out.2 (by omega))
                clear hz
                go_wp2
                go_ret3
                exact ⟨take_ret HB.out hn20, rfl⟩
            · have hz1 : ((ch.toNat : Int) == 0) = false := by simpa using hz
              have HB := Lib.hid (HN.out.2 (by omega))
              clear hz
              go_wp2
              go_ret3
              exact ⟨take_ret HB.out hn20, rfl⟩
      · have hR0 := Lib.hid (take_none HI.out (.inl (by omega)))
        clear hA
        go_wp2
        go_ret3
        exact ⟨by rw [hR0.out]; rfl, rfl⟩
    · have hR0 := Lib.hid (take_none HI.out (.inr (by omega)))
      clear hA
      go_wp2
      go_ret3
      exact ⟨by rw [hR0.out]; rfl, rfl⟩

theorem r_taken_yes (x : Value) (n : Nat) (l : List UInt8) (a : Int) (v m : Nat) (w : World) (hx : Rd w w.heap.size 1 x n (l.map bv)) (h2 : a ≤ 9223372036854775807) (h : takeAt l a = some (v, m)) :
    Calls Try.prog 75 #[x, .int .i64 a] w fun e w' => e = .returned (.tuple #[.int .i64 (v : Int), .int .i64 (a + (m : Int)), .bool true]) ∧ w = w' := by
  have h0 := (takeAt_bd h).1
  have hb := hx.bd
  obtain ⟨hl, A, c, rfl, _, _, hc⟩ := hx
  obtain ⟨at0, rfl⟩ := Int.eq_ofNat_of_zero_le h0
  have hR : Psp.take (l.drop at0) = some (v, m) := by
    unfold takeAt at h
    rw [if_neg (by omega)] at h
    simpa using h
  refine (r_take_walk A n c l at0 _ w hR (fun hn => by obtain ⟨b, o, e, _, hh⟩ := hc hn; exact ⟨b, o, e, hh⟩) (by simpa using hl) hb (by omega)).mono fun e w' ⟨h1, h2⟩ => ?_
  exact ⟨h1, h2⟩

theorem r_taken_no (x : Value) (n : Nat) (l : List UInt8) (a : Int) (w : World) (hx : Rd w w.heap.size 1 x n (l.map bv)) (h1 : -9223372036854775808 ≤ a) (h2 : a ≤ 9223372036854775807) (h : takeAt l a = none) :
    Calls Try.prog 75 #[x, .int .i64 a] w fun e w' => e = .returned (.tuple #[.int .i64 0, .int .i64 0, .bool false]) ∧ w = w' := by
  have hb := hx.bd
  obtain ⟨hl, A, c, rfl, _, _, hc⟩ := hx
  by_cases h0 : a < 0
  · clear h hc hl
    go_enter Try.func75, Try.ntmps75
    go_wp2
    go_ret3
    exact ⟨rfl, rfl⟩
  · obtain ⟨at0, rfl⟩ := Int.eq_ofNat_of_zero_le (show 0 ≤ a by omega)
    have hR : Psp.take (l.drop at0) = none := by
      unfold takeAt at h
      rw [if_neg (by omega)] at h
      simpa using h
    refine (r_take_walk A n c l at0 _ w hR (fun hn => by obtain ⟨b, o, e, _, hh⟩ := hc hn; exact ⟨b, o, e, hh⟩) (by simpa using hl) hb (by omega)).mono fun e w' ⟨h1, h2⟩ => ?_
    exact ⟨h1, h2⟩


end Go.Proofs.Ytadaejpodjhkdaa
