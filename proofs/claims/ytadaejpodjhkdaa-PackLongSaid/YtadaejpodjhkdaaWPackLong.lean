/- The walk of PackLong: lists of 250 to 261 votes, certificates; bytes with as many. -/
import Derived.Test.YtadaejpodjhkdaaPz
import Derived.Lib.AppendZerosOnto
import Derived.OwnWalk
import Derived.Deep.CutBlock
namespace Go.Proofs.Ytadaejpodjhkdaa.packLong
open Go.RowKit
set_option linter.unusedVariables false

abbrev v0 : Psp.Vote := ⟨0, 0⟩
abbrev c0 : CertV := ⟨⟨0, 0, 0, [], []⟩, .slice none 0 0, .slice none 0 0⟩
theorem made_V (n : Nat) : (madeCells #[.int .i64 0, .int .i64 0] (n * 2)).toList = (List.replicate n v0).flatMap vt := by
  induction n with
  | zero => simp [madeCells]
  | succ n ih =>
    have h1 : (n + 1) * 2 = n * 2 + 1 + 1 := by omega
    have m0 : (n * 2) % 2 = 0 := by omega
    have m1 : (n * 2 + 1) % 2 = 1 := by omega
    rw [List.replicate_succ', List.flatMap_append, ← ih, h1]
    simp [madeCells, List.range_succ, m0, m1, vt, iv]
theorem made_C (n : Nat) : (madeCells #[.int .i64 0, .int .i64 0, .int .i64 0, .slice none 0 0, .slice none 0 0] (n * 5)).toList = (List.replicate n c0).flatMap cv := by
  induction n with
  | zero => simp [madeCells]
  | succ n ih =>
    have h1 : (n + 1) * 5 = n * 5 + 1 + 1 + 1 + 1 + 1 := by omega
    have m0 : (n * 5) % 5 = 0 := by omega
    have m1 : (n * 5 + 1) % 5 = 1 := by omega
    have m2 : (n * 5 + 1 + 1) % 5 = 2 := by omega
    have m3 : (n * 5 + 1 + 1 + 1) % 5 = 3 := by omega
    have m4 : (n * 5 + 1 + 1 + 1 + 1) % 5 = 4 := by omega
    rw [List.replicate_succ', List.flatMap_append, ← ih, h1]
    simp only [madeCells, Array.toList_map, Array.toList_range, List.range_succ, List.map_append, List.map_cons, List.map_nil, List.append_assoc]
    have e0 : ((#[.int .i64 0, .int .i64 0, .int .i64 0, .slice none 0 0, .slice none 0 0] : Array Value).size) = 5 := rfl
    simp only [e0, m0, m1, m2, m3, m4]
    rfl
theorem okL_V (n : Nat) : Psp.okL Psp.okV (List.replicate n v0) = decide (n ≤ 256) := by
  have h : (List.replicate n v0).all Psp.okV = true := by
    rw [List.all_eq_true]; intro x hx; rw [List.eq_of_mem_replicate hx]; decide
  simp [Psp.okL, h]
theorem okL_C (n : Nat) : Psp.okL Psp.okC (List.replicate n c0.c) = decide (n ≤ 256) := by
  have h : (List.replicate n c0.c).all Psp.okC = true := by
    rw [List.all_eq_true]; intro x hx; rw [List.eq_of_mem_replicate hx]; decide
  simp [Psp.okL, h]
/-- The bytes that are taken at the end. -/
def bl (n : Nat) : List UInt8 := UInt8.ofNat (n % 128 + 128) :: UInt8.ofNat (n / 128) :: List.replicate (2 * n) 0
theorem encN_n {n : Nat} (h1 : 128 ≤ n) (h2 : n < 16384) : Psp.encN (n : Int) = [UInt8.ofNat (n % 128 + 128), UInt8.ofNat (n / 128)] := by
  unfold Psp.encN
  rw [Int.toNat_natCast]
  unfold Psp.num
  rw [if_neg (by omega)]
  unfold Psp.num
  rw [if_pos (by omega)]
theorem enc_V (n : Nat) : (List.replicate n v0).flatMap Psp.encV = List.replicate (2 * n) 0 := by
  induction n with
  | zero => rfl
  | succ n ih =>
    rw [List.replicate_succ, List.flatMap_cons, ih, show 2 * (n + 1) = 2 * n + 1 + 1 by omega, List.replicate_succ, List.replicate_succ]
    simp [Psp.encV, Psp.encN, Psp.num]
theorem bl_enc {n : Nat} (h1 : 128 ≤ n) (h2 : n < 16384) : bl n = Psp.encL Psp.encV (List.replicate n v0) := by
  unfold Psp.encL bl
  rw [List.length_replicate, encN_n h1 h2, enc_V]
  rfl
theorem bl_len (n : Nat) : (bl n).length = 2 + 2 * n := by simp [bl]; omega
theorem bl_yes {n : Nat} (h1 : 128 ≤ n) (h2 : n ≤ 256) : Psp.dL Psp.dV (bl n) 0 = some (List.replicate n v0, ((2 + 2 * n : Nat) : Int)) := by
  have := (Psp.codec_L Psp.codec_V).back (x := List.replicate n v0) (by rw [okL_V]; simpa using h2) []
  rw [List.append_nil, ← bl_enc h1 (by omega), bl_len] at this
  exact this
theorem bl_no {n : Nat} (h1 : 256 < n) (h2 : n < 16384) : Psp.dL Psp.dV (bl n) 0 = none := by
  have h := codec_N.back (x := (n : Int)) ((Psp.okN_iff _).2 ⟨by omega, by omega⟩) (List.replicate (2 * n) 0)
  rw [encN_n (by omega) h2] at h
  have e : bl n = [UInt8.ofNat (n % 128 + 128), UInt8.ofNat (n / 128)] ++ List.replicate (2 * n) 0 := rfl
  unfold Psp.dL
  rw [e, h]
  simp only [Option.bind_some]
  rw [if_neg (by omega)]
theorem infoV : (Try.prog.info? 43).map (fun i => (i.zero, i.size, i.bytes)) = some (some (.agg #[.int .i64 0, .int .i64 0]), 2, 16) := by kernel_rfl
theorem infoC : (Try.prog.info? 87).map (fun i => (i.zero, i.size, i.bytes)) = some (some (.agg #[.int .i64 0, .int .i64 0, .int .i64 0, .slice none 0 0, .slice none 0 0]), 5, 72) := by kernel_rfl
theorem infoB : (Try.prog.info? 5).map (fun i => (i.zero, i.size, i.bytes)) = some (some (.int .u8 0), 1, 1) := by kernel_rfl
theorem info_open {t : TypeId} {z : Value} {s b : Nat} (h : (Try.prog.info? t).map (fun i => (i.zero, i.size, i.bytes)) = some (some z, s, b)) : ∃ i, Try.prog.info? t = some i ∧ i.zero = some z ∧ i.size = s ∧ i.bytes = b := by
  cases hi : Try.prog.info? t with
  | none => rw [hi] at h; cases h
  | some i =>
    rw [hi] at h
    simp only [Option.map_some, Option.some.injEq, Prod.mk.injEq] at h
    exact ⟨i, rfl, h.1, h.2.1, h.2.2⟩

theorem bl_map (m : Nat) (hm : m ≤ 11) : (bl (250 + m)).map bv = [.int .u8 (128 + (250 + (m : Int)) % 128), .int .u8 ((250 + (m : Int)) / 128)] ++ List.replicate (2 * (250 + m)) (.int .u8 0) := by
  have e1 : (UInt8.ofNat ((250 + m) % 128 + 128)).toNat = (250 + m) % 128 + 128 := by rw [UInt8.toNat_ofNat']; omega
  have e2 : (UInt8.ofNat ((250 + m) / 128)).toNat = (250 + m) / 128 := by rw [UInt8.toNat_ofNat']; omega
  unfold bl
  simp only [List.map_cons, List.map_replicate, bv, e1, e2, List.cons_append, List.nil_append]
  congr 1
  · congr 1; omega
theorem zero_B (n : Nat) : (Builtin.zeroCells (Value.int .u8 0).cells n).toList = List.replicate n (.int .u8 0) := by
  have : Builtin.zeroCells (Value.int .u8 0).cells n = madeCells #[.int .u8 0] (n * 1) := rfl
  rw [this, Nat.mul_one, toList_madeCells_one]
/-- The append of so many zeros behind two bytes. -/
theorem app (W : World) (m : Nat) (hm : m ≤ 11) (ty : TypeId) : ∃ cap W', (Builtin.append_ #[24, 3] ty #[.slice (some ⟨W.heap.size, 0, none⟩) 2 2, .int .i64 (2 * (250 + (m : Int)))]).run Try.prog (W.alloc (.cells #[.int .u8 (128 + (250 + (m : Int)) % 128), .int .u8 ((250 + (m : Int)) / 128)] 5)) = .ok (.slice (some ⟨W.heap.size + 1, 0, none⟩) (2 + 2 * (250 + m)) cap) W' ∧
    RdP W' (fun b => b < W'.heap.size) 1 (.slice (some ⟨W.heap.size + 1, 0, none⟩) (2 + 2 * (250 + m)) cap) (bl (250 + m)).length ((bl (250 + m)).map bv) ∧ Below W.heap.size W W' := by
  obtain ⟨i, i1, i2, i3, i4⟩ := info_open infoB
  obtain ⟨x0, hx0⟩ : ∃ x0 : Value, x0 = .int .u8 (128 + (250 + (m : Int)) % 128) := ⟨_, rfl⟩
  obtain ⟨x1, hx1⟩ : ∃ x1 : Value, x1 = .int .u8 ((250 + (m : Int)) / 128) := ⟨_, rfl⟩
  rw [bl_map m hm, bl_len, ← hx0, ← hx1]
  have hcell : ∀ j v, [x0, x1][j]? = some v → ((W.alloc (.cells #[x0, x1] 5)).drew).cell? ((⟨W.heap.size, 0, none⟩ : Addr).add j) = some v := fun j v hj => by
    have h1 : (W.alloc (.cells #[x0, x1] 5)).cell? ⟨W.heap.size, j, none⟩ = some v := by
      rw [cell_of_row (W.alloc (.cells #[x0, x1] 5)) W.heap.size j _ _ _ (heap_alloc_new W _)]; simpa using hj
    have ha : ((⟨W.heap.size, 0, none⟩ : Addr).add j) = ⟨W.heap.size, j, none⟩ := by
      unfold Addr.add; by_cases h0 : j = 0
      · subst h0; rfl
      · simp [h0]
    rw [ha]; exact h1
  have h := Lib.run_append_grow_zeros (P := Try.prog) (W.alloc (.cells #[x0, x1] 5)) 24 3 ty 5 i _ .i64 .i64 Try.underlying24 Try.underlying3 i1 i2 (some ⟨W.heap.size, 0, none⟩) 2 2
    [x0, x1] (run_firstCells_some _ _ _ _ _ _ _ (by rw [i3]; rfl) hcell)
    (2 * (250 + m)) (by omega) (by rw [i3]; omega) (by omega) (by omega) (by rw [i4]; omega) (by rw [i4]; have : Builtin.nextslicecap (2 + 2 * (250 + m)) 2 = 2 + 2 * (250 + m) := by { unfold Builtin.nextslicecap; rw [if_pos (by omega)] }; rw [this]; omega)
  have e1 : ((2 * (250 + m) : Nat) : Int) = 2 * (250 + (m : Int)) := by omega
  have e2 : (W.alloc (.cells #[x0, x1] 5)).heap.size = W.heap.size + 1 := by simp
  rw [e1, e2] at h
  have hg := grownCap_ge (W.alloc (.cells #[x0, x1] 5)) (2 + 2 * (250 + m)) 2 5
  have hl := grownCap_le_maxLen (W.alloc (.cells #[x0, x1] 5)) (2 + 2 * (250 + m)) 2 5 (by unfold maxLen; omega)
  have hb : Below W.heap.size W (W.alloc (.cells #[x0, x1] 5)).drew := (alloc_below W _).drew
  refine ⟨_, _, h, ⟨by simp; omega, _, _, rfl, hg, hl, fun _ => ⟨W.heap.size + 1, 0, rfl, ?_, ?_, fun j u hu => ?_⟩⟩, hb.alloc (by simp) _⟩
  · simp
  · simp
  · have hnew := heap_alloc_new (W.alloc (.cells #[x0, x1] 5)).drew (.cells ([x0, x1].toArray ++ Builtin.zeroCells (Value.int .u8 0).cells (2 * (250 + m)) ++ Builtin.zeroCells (Value.int .u8 0).cells (grownCap (W.alloc (.cells #[x0, x1] 5)) (2 + 2 * (250 + m)) 2 5 - (2 + 2 * (250 + m)))) 5)
    have hs : (W.alloc (.cells #[x0, x1] 5)).drew.heap.size = W.heap.size + 1 := by simp
    rw [hs] at hnew
    rw [Nat.zero_add, cell_of_row _ _ j _ _ _ hnew, ← Array.getElem?_toList, Array.toList_append, Array.toList_append, zero_B, List.getElem?_append_left]
    · exact hu
    · exact (List.getElem?_eq_some_iff.1 hu).1

set_option maxRecDepth 100000 in
set_option maxHeartbeats 30000000 in
theorem walk (n0 : Int) (w : World) (hn : isI64 n0) :
    Calls Try.prog 5 #[.int .i64 n0] w fun e w' => e = .returned (.bool true) ∧ Below w.heap.size w w' := by
  have hw1 := Psp.within_lo n0 12
  have hw2 := Psp.within_hi n0 12 (by omega)
  obtain ⟨hn1, hn2⟩ := hn
  obtain ⟨m, hk⟩ : ∃ m : Nat, Psp.within n0 12 = (m : Int) := ⟨(Psp.within n0 12).toNat, by omega⟩
  have q1 : m ≤ 11 := by omega
  have Hk := Lib.hid hk
  obtain ⟨iV, iV1, iV2, iV3, iV4⟩ := info_open infoV
  obtain ⟨iC, iC1, iC2, iC3, iC4⟩ := info_open infoC
  obtain ⟨iB, iB1, iB2, iB3, iB4⟩ := info_open infoB
  have IV1 := Lib.hid iV1
  have IV2 := Lib.hid iV2
  have IV3 := Lib.hid iV3
  have IV4 := Lib.hid iV4
  have IC1 := Lib.hid iC1
  have IC2 := Lib.hid iC2
  have IC3 := Lib.hid iC3
  have IC4 := Lib.hid iC4
  have IB1 := Lib.hid iB1
  have IB2 := Lib.hid iB2
  have IB3 := Lib.hid iB3
  have IB4 := Lib.hid iB4
  clear hk hw1 hw2 iV1 iV2 iV3 iV4 iC1 iC2 iC3 iC4 iB1 iB2 iB3 iB4
  go_enter Try.func5, Try.ntmps5
  go_wp2_with fail
  refine (within_any n0 12 w (by omega) (by omega) (by omega) (by omega)).mono ?_
  rintro e w' ⟨rfl, rfl⟩
  rw [Hk.out]
  go_wp2_with (at_make; refine wpList_make_full _ rfl _ _ 36 rfl w.heap.size 43 _ _ 2 Try.underlying36 IV1.out IV2.out IV3.out _ _ _ _ (250 + m) rfl rfl (by omega) (by omega) (by rw [IV4.out]; omega) (by unfold maxLen; omega) (Nat.le_refl _) ?_; intro w1 hown1 hg1)
  have hb1 := (Below.refl w.heap.size w).grown hg1 (Nat.le_refl _) (fun j hj => by cases hj)
  have HB1 := Lib.hid hb1
  have hr1 : RdP w1 (fun b => b < w1.heap.size) 2 (.slice (some ⟨w.heap.size, 0, none⟩) (250 + m) (250 + m)) (List.replicate (250 + m) v0).length ((List.replicate (250 + m) v0).flatMap vt) := by
    have h : RdP w1 (fun b => b < w1.heap.size) 2 (.slice (some ⟨w.heap.size, 0, none⟩) (250 + m) (250 + m)) (250 + m) (madeCells #[.int .i64 0, .int .i64 0] ((250 + m) * 2)).toList := (Rd.of_own hown1).to_p (Nat.le_refl _)
    rw [made_V] at h
    rw [List.length_replicate]
    exact h
  have HR1 := Lib.hid hr1
  clear hown1 hg1 hb1 hr1
  refine (pk_votes _ _ w1 HR1.out).mono ?_
  intro e w2 h
  by_cases hm : 250 + m ≤ 256
  case' pos =>
    have hmi : decide ((250 : Int) + (m : Int) ≤ 256) = true := by simp; omega
    obtain ⟨A1, p1, rfl, hr2, hb2⟩ := Bytes.rd h rfl ((okL_V _).trans (decide_eq_true hm))
    have HB2 := Lib.hid (Below.then HB1.out hb2 HB1.out.size)
    clear h hr2 hb2
    go_wp2_with (at_make; refine wpList_make_full _ rfl _ _ 35 rfl w2.heap.size 87 _ _ 5 Try.underlying35 IC1.out IC2.out IC3.out _ _ _ _ (250 + m) rfl rfl (by omega) (by omega) (by rw [IC4.out]; omega) (by unfold maxLen; omega) (Nat.le_refl _) ?_; intro w3 hown3 hg3)
    have hb3 := (Below.refl w2.heap.size w2).grown hg3 (Nat.le_refl _) (fun j hj => by cases hj)
    have HB3 := Lib.hid (Below.then HB2.out hb3 HB2.out.size)
    have hr3 : RdC w3 (fun b => b < w3.heap.size) (.slice (some ⟨w2.heap.size, 0, none⟩) (250 + m) (250 + m)) (List.replicate (250 + m) c0.c) := by
      have h : RdP w3 (fun b => b < w3.heap.size) 5 (.slice (some ⟨w2.heap.size, 0, none⟩) (250 + m) (250 + m)) (250 + m) (madeCells #[.int .i64 0, .int .i64 0, .int .i64 0, .slice none 0 0, .slice none 0 0] ((250 + m) * 5)).toList := (Rd.of_own hown3).to_p (Nat.le_refl _)
      rw [made_C] at h
      refine ⟨List.replicate (250 + m) c0, by simp, by rw [List.length_replicate]; exact h, fun x hx => ?_⟩
      rw [List.eq_of_mem_replicate hx]
      exact ⟨RdP.none_, RdP.none_⟩
    have HR3 := Lib.hid hr3
    clear hown3 hg3 hb3 hr3
    refine (pk_certs _ _ w3 HR3.out).mono ?_
    intro e w4 h
    obtain ⟨A2, p2, rfl, hr4, hb4⟩ := Bytes.rd h rfl ((okL_C _).trans (decide_eq_true hm))
    have HB4 := Lib.hid (Below.then HB3.out hb4 HB3.out.size)
    clear h hr4 hb4 HR3
    go_upto_region 6 with fail
    obtain ⟨cap, w5, hrun, hrd, hb5⟩ := app w4 m q1 24
    have HRd := Lib.hid hrd
    have HB5 := Lib.hid (Below.then HB4.out hb5 HB4.out.size)
    clear hrd hb5
    go_wp2_with (at_builtin; refine Lib.wpList_append_run _ rfl _ _ _ _ rfl _ _ rfl rfl _ _ hrun ?_)
    clear hrun
    refine (takeV (bl (250 + m)) _ 0 w5 HRd.out ⟨by omega, by omega⟩).mono ?_
    intro e w6 h
    obtain ⟨h1, h2, hb6⟩ := h
    have HB6 := Lib.hid (Below.then HB5.out hb6 HB5.out.size)
    obtain ⟨v6, he, hL⟩ := h1 _ _ (bl_yes (by omega) hm)
    obtain ⟨_, A6, c6, rfl, _, _, _⟩ := RdP.parts hL
    rw [List.length_replicate] at he
    subst he
    have hmj : decide (((2 + 2 * (250 + m) : Nat) : Int) = 2 + 2 * (250 + (m : Int))) = true := by rw [decide_eq_true_eq]; omega
    clear h1 h2 hb6 hL
    go_wp2_with fail
    refine (wakes02 _).mono ?_
    rintro e w9 ⟨rfl, hb⟩
    have HB9 := Lib.hid (Below.then HB6.out hb HB6.out.size)
    clear hb
    go_wp2_with fail
    go_ret
    exact ⟨rfl, HB9.out⟩
  case' neg =>
    have hmi : decide ((250 : Int) + (m : Int) ≤ 256) = false := by simp; omega
    obtain ⟨A1, p1, rfl, hr2, hb2⟩ := Bytes.rd h (show res _ _ = [] by rw [okL_V, decide_eq_false hm]; rfl) ((okL_V _).trans (decide_eq_false hm))
    have HB2 := Lib.hid (Below.then HB1.out hb2 HB1.out.size)
    clear h hr2 hb2
    go_wp2_with (at_make; refine wpList_make_full _ rfl _ _ 35 rfl w2.heap.size 87 _ _ 5 Try.underlying35 IC1.out IC2.out IC3.out _ _ _ _ (250 + m) rfl rfl (by omega) (by omega) (by rw [IC4.out]; omega) (by unfold maxLen; omega) (Nat.le_refl _) ?_; intro w3 hown3 hg3)
    have hb3 := (Below.refl w2.heap.size w2).grown hg3 (Nat.le_refl _) (fun j hj => by cases hj)
    have HB3 := Lib.hid (Below.then HB2.out hb3 HB2.out.size)
    have hr3 : RdC w3 (fun b => b < w3.heap.size) (.slice (some ⟨w2.heap.size, 0, none⟩) (250 + m) (250 + m)) (List.replicate (250 + m) c0.c) := by
      have h : RdP w3 (fun b => b < w3.heap.size) 5 (.slice (some ⟨w2.heap.size, 0, none⟩) (250 + m) (250 + m)) (250 + m) (madeCells #[.int .i64 0, .int .i64 0, .int .i64 0, .slice none 0 0, .slice none 0 0] ((250 + m) * 5)).toList := (Rd.of_own hown3).to_p (Nat.le_refl _)
      rw [made_C] at h
      refine ⟨List.replicate (250 + m) c0, by simp, by rw [List.length_replicate]; exact h, fun x hx => ?_⟩
      rw [List.eq_of_mem_replicate hx]
      exact ⟨RdP.none_, RdP.none_⟩
    have HR3 := Lib.hid hr3
    clear hown3 hg3 hb3 hr3
    refine (pk_certs _ _ w3 HR3.out).mono ?_
    intro e w4 h
    obtain ⟨A2, p2, rfl, hr4, hb4⟩ := Bytes.rd h (show res _ _ = [] by rw [okL_C, decide_eq_false hm]; rfl) ((okL_C _).trans (decide_eq_false hm))
    have HB4 := Lib.hid (Below.then HB3.out hb4 HB3.out.size)
    clear h hr4 hb4 HR3
    go_upto_region 6 with fail
    obtain ⟨cap, w5, hrun, hrd, hb5⟩ := app w4 m q1 24
    have HRd := Lib.hid hrd
    have HB5 := Lib.hid (Below.then HB4.out hb5 HB4.out.size)
    clear hrd hb5
    go_wp2_with (at_builtin; refine Lib.wpList_append_run _ rfl _ _ _ _ rfl _ _ rfl rfl _ _ hrun ?_)
    clear hrun
    refine (takeV (bl (250 + m)) _ 0 w5 HRd.out ⟨by omega, by omega⟩).mono ?_
    intro e w6 h
    obtain ⟨h1, h2, hb6⟩ := h
    have HB6 := Lib.hid (Below.then HB5.out hb6 HB5.out.size)
    have he := h2 (bl_no (by omega) (by omega))
    subst he
    clear h1 h2 hb6
    go_wp2_with fail
    refine (wakes02 _).mono ?_
    rintro e w9 ⟨rfl, hb⟩
    have HB9 := Lib.hid (Below.then HB6.out hb HB6.out.size)
    clear hb
    go_wp2_with fail
    go_ret
    exact ⟨rfl, HB9.out⟩
end Go.Proofs.Ytadaejpodjhkdaa.packLong
