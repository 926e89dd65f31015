/- psephoskeep.Msg: the same message? Printed by gen_msame.py. -/
import Derived.Test.YtadpkjgjciodnaaGreatBxVi
namespace Go.Proofs.YtadpkjgjciodnaaGreat
open Go.RowKit
set_option linter.unusedVariables false
set_option linter.unusedSimpArgs false

theorem msg_ext_iff (a b : Psp.Msg) : decide (a = b) = (decide (a.k = b.k) && (decide (a.f = b.f) && (decide (a.v = b.v) && (decide (a.i = b.i) && (decide (a.q = b.q) && (decide (a.r = b.r) && (decide (a.b = b.b) && (decide (a.o = b.o) && (decide (a.c = b.c) && decide (a.p = b.p)))))))))) := by
  cases a; cases b; rw [Bool.eq_iff_iff]; simp

set_option maxRecDepth 100000 in
set_option maxHeartbeats 4000000 in
theorem msg_same (a b : Psp.Msg) (ab ao ac ap bb bo bc bp : Value) (w : World) (P Q : Nat → Prop) (hx : MsgOk w P ⟨a, ab, ao, ac, ap⟩) (hy : MsgOk w Q ⟨b, bb, bo, bc, bp⟩) :
    Calls Tryz.prog 17 #[.agg #[.int .i64 a.k, .int .i64 a.f, .int .i64 a.v, .int .i64 a.i, .int .i64 a.q, .int .i64 a.r, ab, ao, ac, ap], .agg #[.int .i64 b.k, .int .i64 b.f, .int .i64 b.v, .int .i64 b.i, .int .i64 b.q, .int .i64 b.r, bb, bo, bc, bp]] w fun e w' => e = .returned (.bool (decide (a = b))) ∧ Below w.heap.size w w' := by
  rw [msg_ext_iff]
  have HX := Lib.hid hx
  have HY := Lib.hid hy
  have oa0 : ab.oneCell' = true := RdP.one hx.1
  have oa1 : ao.oneCell' = true := RdP.one hx.2.1
  have oa2 : ac.oneCell' = true := hx.2.2.1.one
  have oa3 : ap.oneCell' = true := hx.2.2.2.one
  have ob0 : bb.oneCell' = true := RdP.one hy.1
  have ob1 : bo.oneCell' = true := RdP.one hy.2.1
  have ob2 : bc.oneCell' = true := hy.2.2.1.one
  have ob3 : bp.oneCell' = true := hy.2.2.2.one
  have hb2 : Below w.heap.size w ((w.alloc (.cells #[.int .i64 a.k, .int .i64 a.f, .int .i64 a.v, .int .i64 a.i, .int .i64 a.q, .int .i64 a.r, ab, ao, ac, ap] 41)).alloc (.cells #[.int .i64 b.k, .int .i64 b.f, .int .i64 b.v, .int .i64 b.i, .int .i64 b.q, .int .i64 b.r, bb, bo, bc, bp] 41)) := (alloc_below w _).trans ((alloc_below _ _).mono (by simp))
  have Hb2 := Lib.hid hb2
  have hca : ((w.alloc (.cells #[.int .i64 a.k, .int .i64 a.f, .int .i64 a.v, .int .i64 a.i, .int .i64 a.q, .int .i64 a.r, ab, ao, ac, ap] 41)).alloc (.cells #[.int .i64 b.k, .int .i64 b.f, .int .i64 b.v, .int .i64 b.i, .int .i64 b.q, .int .i64 b.r, bb, bo, bc, bp] 41)).heap[w.heap.size]? = some (.cells #[.int .i64 a.k, .int .i64 a.f, .int .i64 a.v, .int .i64 a.i, .int .i64 a.q, .int .i64 a.r, ab, ao, ac, ap] 41 (0, 0)) := ((alloc_below (w.alloc (.cells #[.int .i64 a.k, .int .i64 a.f, .int .i64 a.v, .int .i64 a.i, .int .i64 a.q, .int .i64 a.r, ab, ao, ac, ap] 41)) _).block _ (by simp)).trans (heap_alloc_new w _)
  have hcb : ((w.alloc (.cells #[.int .i64 a.k, .int .i64 a.f, .int .i64 a.v, .int .i64 a.i, .int .i64 a.q, .int .i64 a.r, ab, ao, ac, ap] 41)).alloc (.cells #[.int .i64 b.k, .int .i64 b.f, .int .i64 b.v, .int .i64 b.i, .int .i64 b.q, .int .i64 b.r, bb, bo, bc, bp] 41)).heap[w.heap.size + 1]? = some (.cells #[.int .i64 b.k, .int .i64 b.f, .int .i64 b.v, .int .i64 b.i, .int .i64 b.q, .int .i64 b.r, bb, bo, bc, bp] 41 (0, 0)) := by have h := heap_alloc_new (w.alloc (.cells #[.int .i64 a.k, .int .i64 a.f, .int .i64 a.v, .int .i64 a.i, .int .i64 a.q, .int .i64 a.r, ab, ao, ac, ap] 41)) (.cells #[.int .i64 b.k, .int .i64 b.f, .int .i64 b.v, .int .i64 b.i, .int .i64 b.q, .int .i64 b.r, bb, bo, bc, bp] 41); simpa using h
  have Hca := Lib.hid hca
  have Hcb := Lib.hid hcb
  clear hca hcb
  obtain ⟨T, hT⟩ : ∃ T, (decide (a.k = b.k) && (decide (a.f = b.f) && (decide (a.v = b.v) && (decide (a.i = b.i) && (decide (a.q = b.q) && (decide (a.r = b.r) && (decide (a.b = b.b) && (decide (a.o = b.o) && (decide (a.c = b.c) && decide (a.p = b.p)))))))))) = T := ⟨_, rfl⟩
  rw [hT]
  have HT := Lib.hid hT
  clear hx hy hb2 hT
  rcases (Decidable.em (a.k = b.k)).symm with h0 | h0
  · have e0 : ((a.k : Int) == b.k) = false := by simpa using h0
    have HF : Hid (T = false) := Lib.hid (by rw [← HT.out]; simp [h0])
    obtain rfl := HF.out
    clear HT HF
    clear h0
    go_enter Tryz.func17, Tryz.ntmps17
    go_wp2_with fail
    go_ret
    exact ⟨rfl, Hb2.out⟩
  have e0 : ((a.k : Int) == b.k) = true := by simpa using h0
  have E0 := Lib.hid h0
  clear h0
  rcases (Decidable.em (a.f = b.f)).symm with h1 | h1
  · have e1 : ((a.f : Int) == b.f) = false := by simpa using h1
    have HF : Hid (T = false) := Lib.hid (by rw [← HT.out]; simp [h1])
    obtain rfl := HF.out
    clear HT HF
    clear h1
    go_enter Tryz.func17, Tryz.ntmps17
    go_wp2_with fail
    go_ret
    exact ⟨rfl, Hb2.out⟩
  have e1 : ((a.f : Int) == b.f) = true := by simpa using h1
  have E1 := Lib.hid h1
  clear h1
  rcases (Decidable.em (a.v = b.v)).symm with h2 | h2
  · have e2 : ((a.v : Int) == b.v) = false := by simpa using h2
    have HF : Hid (T = false) := Lib.hid (by rw [← HT.out]; simp [h2])
    obtain rfl := HF.out
    clear HT HF
    clear h2
    go_enter Tryz.func17, Tryz.ntmps17
    go_wp2_with fail
    go_ret
    exact ⟨rfl, Hb2.out⟩
  have e2 : ((a.v : Int) == b.v) = true := by simpa using h2
  have E2 := Lib.hid h2
  clear h2
  rcases (Decidable.em (a.i = b.i)).symm with h3 | h3
  · have e3 : ((a.i : Int) == b.i) = false := by simpa using h3
    have HF : Hid (T = false) := Lib.hid (by rw [← HT.out]; simp [h3])
    obtain rfl := HF.out
    clear HT HF
    clear h3
    go_enter Tryz.func17, Tryz.ntmps17
    go_wp2_with fail
    go_ret
    exact ⟨rfl, Hb2.out⟩
  have e3 : ((a.i : Int) == b.i) = true := by simpa using h3
  have E3 := Lib.hid h3
  clear h3
  rcases (Decidable.em (a.q = b.q)).symm with h4 | h4
  · have e4 : ((a.q : Int) == b.q) = false := by simpa using h4
    have HF : Hid (T = false) := Lib.hid (by rw [← HT.out]; simp [h4])
    obtain rfl := HF.out
    clear HT HF
    clear h4
    go_enter Tryz.func17, Tryz.ntmps17
    go_wp2_with fail
    go_ret
    exact ⟨rfl, Hb2.out⟩
  have e4 : ((a.q : Int) == b.q) = true := by simpa using h4
  have E4 := Lib.hid h4
  clear h4
  rcases (Decidable.em (a.r = b.r)).symm with h5 | h5
  · have e5 : ((a.r : Int) == b.r) = false := by simpa using h5
    have HF : Hid (T = false) := Lib.hid (by rw [← HT.out]; simp [h5])
    obtain rfl := HF.out
    clear HT HF
    clear h5
    go_enter Tryz.func17, Tryz.ntmps17
    go_wp2_with fail
    go_ret
    exact ⟨rfl, Hb2.out⟩
  have e5 : ((a.r : Int) == b.r) = true := by simpa using h5
  have E5 := Lib.hid h5
  clear h5
  have HT1 : Hid ((decide (a.b = b.b) && (decide (a.o = b.o) && (decide (a.c = b.c) && decide (a.p = b.p)))) = T) := Lib.hid (by rw [← HT.out]; simp [E0.out, E1.out, E2.out, E3.out, E4.out, E5.out])
  clear HT E0 E1 E2 E3 E4 E5
  go_enter Tryz.func17, Tryz.ntmps17
  go_wp2_with fail
  refine (same_R _ _ _ _ a.b b.b _ P Q (HX.out.keeps (Keeps.below Hb2.out)).1 (HY.out.keeps (Keeps.below Hb2.out)).1 rfl rfl).mono ?_
  rintro e w1 ⟨rfl, k1, rfl⟩
  have Hb3 := Lib.hid (below_drewN Hb2.out k1)
  cases db : decide (a.b = b.b) with
  | false =>
    have HF : Hid (T = false) := Lib.hid (by rw [← HT1.out, db]; rfl)
    obtain rfl := HF.out
    clear db HT1 HF
    go_wp2_with fail
    go_ret
    exact ⟨rfl, Hb3.out⟩
  | true =>
  have HT2 : Hid ((decide (a.o = b.o) && (decide (a.c = b.c) && decide (a.p = b.p))) = T) := Lib.hid (by rw [← HT1.out, db]; rfl)
  clear db HT1
  go_wp2_with fail
  refine (same_V _ _ _ _ a.o b.o _ P Q (HX.out.keeps (Keeps.below Hb3.out)).2.1 (HY.out.keeps (Keeps.below Hb3.out)).2.1 rfl rfl).mono ?_
  rintro e w1 ⟨rfl, k2, rfl⟩
  have Hb4 := Lib.hid (below_drewN Hb2.out (k1 + k2))
  cases dO : decide (a.o = b.o) with
  | false =>
    have HF : Hid (T = false) := Lib.hid (by rw [← HT2.out, dO]; rfl)
    obtain rfl := HF.out
    clear dO HT2 HF
    go_wp2_with fail
    go_ret
    exact ⟨rfl, Hb4.out⟩
  | true =>
  have HT3 : Hid ((decide (a.c = b.c) && decide (a.p = b.p)) = T) := Lib.hid (by rw [← HT2.out, dO]; rfl)
  clear dO HT2
  go_wp2_with fail
  refine (certs_same _ _ a.c b.c _ P Q (HX.out.keeps (Keeps.below Hb4.out)).2.2.1 (HY.out.keeps (Keeps.below Hb4.out)).2.2.1).mono ?_
  rintro e w1 ⟨rfl, hb5⟩
  have hka : w1.heap[w.heap.size]? = _ := (hb5.block w.heap.size (by simp; omega)).trans Hca.out
  have hkb : w1.heap[w.heap.size + 1]? = _ := (hb5.block (w.heap.size + 1) (by simp)).trans Hcb.out
  have x9 : w1.cell? ⟨w.heap.size, 9, none⟩ = some ap := by rw [cell_of_row _ _ 9 _ _ _ hka]; rfl
  have y9 : w1.cell? ⟨w.heap.size + 1, 9, none⟩ = some bp := by rw [cell_of_row _ _ 9 _ _ _ hkb]; rfl
  clear hka hkb
  have Hb5 := Lib.hid (Below.then Hb4.out hb5 Hb4.out.size)
  clear hb5
  cases dc : decide (a.c = b.c) with
  | false =>
    have HF : Hid (T = false) := Lib.hid (by rw [← HT3.out, dc]; rfl)
    obtain rfl := HF.out
    clear dc HT3 HF
    go_wp2_with fail
    go_ret
    exact ⟨rfl, Hb5.out⟩
  | true =>
  have HT4 : Hid (decide (a.p = b.p) = T) := Lib.hid (by rw [← HT3.out, dc]; rfl)
  clear dc HT3
  go_wp2_with fail
  refine (parts_same _ _ a.p b.p _ P Q (HX.out.keeps (Keeps.below Hb5.out)).2.2.2 (HY.out.keeps (Keeps.below Hb5.out)).2.2.2).mono ?_
  rintro e w2 ⟨rfl, hb6⟩
  have Hb6 := Lib.hid (Below.then Hb5.out hb6 Hb5.out.size)
  clear hb6
  rw [HT4.out]
  clear HT4
  go_wp2_with fail
  go_ret
  exact ⟨rfl, Hb6.out⟩
end Go.Proofs.YtadpkjgjciodnaaGreat
