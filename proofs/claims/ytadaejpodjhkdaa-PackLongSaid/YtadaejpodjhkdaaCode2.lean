/- Package code by its contracts: TakeNumber at any place, TakeSigned, Signed. -/
import Derived.Test.YtadaejpodjhkdaaCode
import Derived.Test.YtadaejpodjhkdaaInts
namespace Go.Proofs.Ytadaejpodjhkdaa
open Go.RowKit
set_option linter.unusedVariables false

/-- What is taken at a place. -/
def takeAt (l : List UInt8) (a : Int) : Option (Nat × Nat) := if a < 0 then none else Psp.take (l.drop a.toNat)

theorem takeAt_bd {l : List UInt8} {a : Int} {v m : Nat} (h : takeAt l a = some (v, m)) : 0 ≤ a ∧ v < 1099511627776 ∧ 1 ≤ m ∧ a + m ≤ l.length := by
  unfold takeAt at h
  split at h
  · cases h
  · have := Psp.take_bound h
    simp only [List.length_drop] at this
    omega

theorem taken_yes (x : Value) (n : Nat) (l : List UInt8) (a : Int) (v m : Nat) (w : World) (hx : Rd w w.heap.size 1 x n (l.map bv)) (h2 : a ≤ 9223372036854775807) (h : takeAt l a = some (v, m)) :
    Calls Try.prog 85 #[x, .int .i64 a] w fun e w' => e = .returned (.tuple #[.int .i64 (v : Int), .int .i64 (a + (m : Int)), .bool true]) ∧ w = w' := by
  have h0 := (takeAt_bd h).1
  have hb := hx.bd
  obtain ⟨hl, A, c, rfl, _, _, hc⟩ := hx
  obtain ⟨at0, rfl⟩ := Int.eq_ofNat_of_zero_le h0
  have hR : Psp.take (l.drop at0) = some (v, m) := by
    unfold takeAt at h
    rw [if_neg (by omega)] at h
    simpa using h
  refine (take_walk A n c l at0 _ w hR (fun hn => by obtain ⟨b, o, e, _, hh⟩ := hc hn; exact ⟨b, o, e, hh⟩) (by simpa using hl) hb (by omega)).mono fun e w' ⟨h1, h2⟩ => ?_
  exact ⟨h1, h2⟩

theorem taken_no (x : Value) (n : Nat) (l : List UInt8) (a : Int) (w : World) (hx : Rd w w.heap.size 1 x n (l.map bv)) (h1 : -9223372036854775808 ≤ a) (h2 : a ≤ 9223372036854775807) (h : takeAt l a = none) :
    Calls Try.prog 85 #[x, .int .i64 a] w fun e w' => e = .returned (.tuple #[.int .i64 0, .int .i64 0, .bool false]) ∧ w = w' := by
  have hb := hx.bd
  obtain ⟨hl, A, c, rfl, _, _, hc⟩ := hx
  by_cases h0 : a < 0
  · clear h hc hl
    go_enter Try.func85, Try.ntmps85
    go_wp2
    refine wp_scope_hops (fun lab a' w' => w' = w ∧ lab = 0 ∧ ∃ u0 u1 u2 u3 u4 u5 u6 u7 u8 u9 u10 u11 u12 u13 u14 u15 u16 u17 u18 u19 u20 u21 u22 u23 u24 u25 u26 u27 u28 u29 u30 u31 u32 u33 u34 u35 u36 u37 u38 u39 u40 u41 u42 u43 u44 u45 u46 u47 u48 : Value, a' = { tmps := #[u0, u1, u2, u3, u4, u5, u6, u7, u8, u9, u10, u11, u12, u13, u14, u15, u16, u17, u18, u19, u20, u21, u22, u23, u24, u25, u26, u27, u28, u29, u30, u31, u32, u33, u34, u35, u36, u37, u38, u39, u40, u41, u42, u43, u44, u45, u46, u47, u48], defers := [] }) (fun _ _ _ => 0) ?_ ?_
    · rintro lab a' w' ⟨rfl, rfl, u0, u1, u2, u3, u4, u5, u6, u7, u8, u9, u10, u11, u12, u13, u14, u15, u16, u17, u18, u19, u20, u21, u22, u23, u24, u25, u26, u27, u28, u29, u30, u31, u32, u33, u34, u35, u36, u37, u38, u39, u40, u41, u42, u43, u44, u45, u46, u47, u48, rfl⟩
      refine ⟨_, rfl, ?_⟩
      go_wp2
      go_ret3
      exact ⟨rfl, rfl⟩
    · intro _
      go_wp2
      go_step3
      exact ⟨rfl, rfl, _, _, _, _, _, _, _, _, _, _, _, _, _, _, _, _, _, _, _, _, _, _, _, _, _, _, _, _, _, _, _, _, _, _, _, _, _, _, _, _, _, _, _, _, _, _, _, _, _, rfl⟩
  · obtain ⟨at0, rfl⟩ := Int.eq_ofNat_of_zero_le (show 0 ≤ a by omega)
    have hR : Psp.take (l.drop at0) = none := by
      unfold takeAt at h
      rw [if_neg (by omega)] at h
      simpa using h
    refine (take_walk A n c l at0 _ w hR (fun hn => by obtain ⟨b, o, e, _, hh⟩ := hc hn; exact ⟨b, o, e, hh⟩) (by simpa using hl) hb (by omega)).mono fun e w' ⟨h1, h2⟩ => ?_
    exact ⟨h1, h2⟩



theorem signed_ok (x : Int) (w : World) (h0 : -549755813888 ≤ x) (h1 : x < 549755813888) :
    Calls Try.prog 84 #[.int .i64 x] w (NumOk w.heap.size w (Psp.zig x).toNat) := by
  have hz := Psp.zig_bd x
  go_enter Try.func84, Try.ntmps84
  go_wp2_with (first | (go_at_call 89; refine (zig_any _ _ (by omega) (by omega)).mono ?_; rintro e w' ⟨rfl, rfl⟩) | (go_at_call 13; refine (number_ok _ _ hz.1 hz.2).mono ?_; rintro e w' ⟨v, rfl, hown, hbel⟩))
  go_ret2
  exact ⟨_, rfl, hown, hbel⟩

theorem signed_no (x : Int) (w : World) (h : x < -549755813888 ∨ 549755813888 ≤ x) :
    Calls Try.prog 84 #[.int .i64 x] w fun e w' => e = .returned (.tuple #[.slice none 0 0, .bool false]) ∧ w = w' := by
  by_cases h1 : x < -549755813888
  · clear h
    go_enter Try.func84, Try.ntmps84
    go_wp2
    go_ret2
    exact ⟨rfl, rfl⟩
  · have h2 : 549755813888 ≤ x := by omega
    clear h
    go_enter Try.func84, Try.ntmps84
    go_wp2
    go_ret2
    exact ⟨rfl, rfl⟩

end Go.Proofs.Ytadaejpodjhkdaa
