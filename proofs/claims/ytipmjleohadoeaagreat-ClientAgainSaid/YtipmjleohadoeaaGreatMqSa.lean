/- The walk of msgs.Parse. Printed by gen_mq.py. -/
import Derived.Test.YtipmjleohadoeaaGreatJ14Sa
namespace Go.Proofs.YtipmjleohadoeaaGreat
open Go.RowKit
set_option linter.unusedVariables false

theorem bd2 {α : Type} {e : α → List UInt8} {ok : α → Bool} {d : Psp.Dec α} (hc : Psp.Codec e ok d) {b : List UInt8} {a a' : Int} {x : α} (h : d b a = some (x, a')) (hb : b.length ≤ 65536) : isI64 a' := by have := hc.bd h; exact ⟨by omega, by omega⟩
theorem Keeps.set (N j : Nat) (W : World) (v : Value) : Keeps (fun k => N + 1 < k) (fun k => N + 1 < k) W (W.setCell ⟨N + 1, j, none⟩ v) :=
  ⟨by simp [World.setCell], fun b hb _ => ⟨Below.heap_setCell W ⟨N + 1, j, none⟩ v b (by show b ≠ N + 1; omega), hb⟩⟩
theorem Keeps.fin {N : Nat} {W W' : World} (hs : W.heap.size ≤ W'.heap.size) (h : ∀ b, b ≠ N → W'.heap[b]? = W.heap[b]?) : Keeps (fun k => N + 1 < k) (fun k => N ≤ k) W W' := ⟨hs, fun b hb _ => ⟨h b (by omega), by omega⟩⟩
theorem Keeps.into {N M : Nat} {W : World} (h : N + 1 < M) : Keeps (fun k => M ≤ k) (fun k => N + 1 < k) W W := Keeps.mono fun b _ hb => by omega

theorem frame_lit (n : Nat) (a : Act) (hs : a.tmps.size = n) (hd : a.defers = []) : a = { tmps := ((List.range n).map fun i => a.tmps.getD i undef).toArray, defers := [] } := by
  obtain ⟨t, d⟩ := a
  simp only at hs hd ⊢
  subst hd
  congr 1
  apply Array.ext
  · simp [hs]
  · intro i h1 h2
    simp [Array.getD, h1]
/-- At the label 'no': nothing is parsed; of the slots only the result's cell is known. -/
def JP (b : List UInt8) (w : World) (lab : Nat) (a' : Act) (w' : World) : Prop := lab = 0 ∧ Psp.parseM b = none ∧ (∃ cs, Pc w w' cs) ∧ a'.tmps.size = 118 ∧ a'.tmps.getD 2 undef = .pointer (some ⟨w.heap.size, 0, none⟩) ∧ a'.defers = []

set_option maxRecDepth 100000 in
set_option maxHeartbeats 8000000 in
theorem parse_m (b : List UInt8) (x : Value) (w : World) (hx : RdP w (fun k => k < w.heap.size) 1 x b.length (b.map bv)) :
    Calls Tryz.prog 60 #[x] w (TakenM b w) := by
  obtain ⟨_, A, c, rfl, hc1, hc2, _⟩ := hx.parts
  have HX := Lib.hid hx
  have hP := Pc.new w
  have HP := Lib.hid hP
  clear hx hP
  have za : isI64 0 := ⟨by omega, by omega⟩
  go_enter Tryz.func60, Tryz.ntmps60
  go_wp2_with fail
  refine wp_scope_hops (fun lab a' w' => JP b w lab a' w') (fun _ _ _ => 0) ?_ ?_
  · rintro lab a' w' ⟨rfl, hn, ⟨cs, hp⟩, hs, h2, hd⟩
    obtain ⟨f, hf, rfl⟩ : ∃ f : Nat → Value, f 2 = .pointer (some ⟨w.heap.size, 0, none⟩) ∧ a' = { tmps := #[f 0, f 1, f 2, f 3, f 4, f 5, f 6, f 7, f 8, f 9, f 10, f 11, f 12, f 13, f 14, f 15, f 16, f 17, f 18, f 19, f 20, f 21, f 22, f 23, f 24, f 25, f 26, f 27, f 28, f 29, f 30, f 31, f 32, f 33, f 34, f 35, f 36, f 37, f 38, f 39, f 40, f 41, f 42, f 43, f 44, f 45, f 46, f 47, f 48, f 49, f 50, f 51, f 52, f 53, f 54, f 55, f 56, f 57, f 58, f 59, f 60, f 61, f 62, f 63, f 64, f 65, f 66, f 67, f 68, f 69, f 70, f 71, f 72, f 73, f 74, f 75, f 76, f 77, f 78, f 79, f 80, f 81, f 82, f 83, f 84, f 85, f 86, f 87, f 88, f 89, f 90, f 91, f 92, f 93, f 94, f 95, f 96, f 97, f 98, f 99, f 100, f 101, f 102, f 103, f 104, f 105, f 106, f 107, f 108, f 109, f 110, f 111, f 112, f 113, f 114, f 115, f 116, f 117], defers := [] } := ⟨fun i => a'.tmps.getD i undef, h2, frame_lit 118 a' hs hd⟩
    rw [hf]
    clear hs h2 hd hf
    refine ⟨_, rfl, ?_⟩
    have Hn := Lib.hid hn
    have HP := Lib.hid hp
    clear hn hp HX za
    have Hth := Lib.hid (row_there HP.out.rr)
    obtain ⟨t1, t2, _⟩ := HP.out.fin zs.toList rfl
    have T1 := Lib.hid t1
    have T2 := Lib.hid t2
    clear t1 t2
    go_wp2_with (first | (refine wpList_store_mid rfl 56 (.tmp 2) (.tmp 117) rfl w.heap.size 0 zs rfl rfl Hth.out sizeM (by simp [Value.oneCell']) ?_))
    refine bodyPost_ret (v := .tuple #[.agg zs, .bool false]) ?_ rfl ?_
    · exact results_cell_row1 Tryz.results60 _ _ w.heap.size _ _ _ _ rfl T1.out Tryz.underlying56 rfl sizeM
    · exact ⟨fun m h => (by rw [Hn.out] at h; cases h), fun _ => rfl, T2.out⟩
  intro _
  by_cases hbig : b.length ≤ 65536
  case' neg =>
    have Hn := Lib.hid (Psp.parse_long hbig)
    have d0 : decide ((b.length : Int) > 65536) = true := by simp; omega
    clear za
    go_wp2_with fail
    go_step3
    exact ⟨rfl, Hn.out, ⟨_, HP.out⟩, rfl, rfl, rfl⟩
  have Hc := Lib.hid (Psp.parse_chain hbig)
  have d0 : decide ((b.length : Int) > 65536) = false := by simp; omega
  obtain ⟨W0, hW0⟩ : ∃ W0, (w.alloc (.cells zs 56)).alloc (.cells zs 56) = W0 := ⟨_, rfl⟩
  rw [hW0] at HP
  go_wp2_with fail
  clear hW0
  refine (tk_N b _ 0 W0 _ (HX.out.keeps (Keeps.on HP.out.be)) za).mono ?_
  rintro e wa ⟨g1, g2, rfl⟩
  obtain ⟨k0, y0⟩ := HP.out.cell 0 (u := .int .i64 0) rfl
  rcases hd : dN b 0 with _ | ⟨n0, a0⟩
  · obtain rfl := g2 hd
    have Hn : Hid (Psp.parseM b = none) := Lib.hid (by have := Hc.out; rw [hd] at this; exact this)
    replace HP := Lib.hid (HP.out.store 0 (.int .i64 0) (cs' := #[.int .i64 0, .int .i64 0, .int .i64 0, .int .i64 0, .int .i64 0, .int .i64 0, .slice none 0 0, .slice none 0 0, .slice none 0 0, .slice none 0 0]) rfl)
    clear g1 g2 hd Hc HX za 
    obtain ⟨WF, hW1⟩ : ∃ Wx, W0.setCell ⟨w.heap.size + 1, 0, none⟩ (.int .i64 0) = Wx := ⟨_, rfl⟩
    rw [hW1] at HP
    go_wp2_with fail
    go_step3
    exact ⟨rfl, Hn.out, ⟨_, HP.out⟩, rfl, rfl, rfl⟩
  obtain rfl := g1 _ _ hd
  have hc := Hc.out
  rw [hd, Option.bind_some] at hc
  dsimp only at hc
  replace Hc := Lib.hid hc
  replace za : isI64 a0 := bd2 codec_N hd hbig
  clear hc hd g1 g2
  replace HP := Lib.hid (HP.out.store 0 (.int .i64 n0) (cs' := #[.int .i64 n0, .int .i64 0, .int .i64 0, .int .i64 0, .int .i64 0, .int .i64 0, .slice none 0 0, .slice none 0 0, .slice none 0 0, .slice none 0 0]) rfl)
  obtain ⟨W1, hW⟩ : ∃ Wx, W0.setCell ⟨w.heap.size + 1, 0, none⟩ (.int .i64 n0) = Wx := ⟨_, rfl⟩
  rw [hW] at HP
  go_wp2_with fail
  clear k0 y0
  try clear hW
  refine (tk_N b _ a0 W1 _ (HX.out.keeps (Keeps.on HP.out.be)) za).mono ?_
  rintro e wa ⟨g1, g2, rfl⟩
  obtain ⟨k1, y1⟩ := HP.out.cell 1 (u := .int .i64 0) rfl
  rcases hd : dN b a0 with _ | ⟨n1, a1⟩
  · obtain rfl := g2 hd
    have Hn : Hid (Psp.parseM b = none) := Lib.hid (by have := Hc.out; rw [hd] at this; exact this)
    replace HP := Lib.hid (HP.out.store 1 (.int .i64 0) (cs' := #[.int .i64 n0, .int .i64 0, .int .i64 0, .int .i64 0, .int .i64 0, .int .i64 0, .slice none 0 0, .slice none 0 0, .slice none 0 0, .slice none 0 0]) rfl)
    clear g1 g2 hd Hc HX za 
    obtain ⟨WF, hW1⟩ : ∃ Wx, W1.setCell ⟨w.heap.size + 1, 1, none⟩ (.int .i64 0) = Wx := ⟨_, rfl⟩
    rw [hW1] at HP
    go_wp2_with fail
    go_step3
    exact ⟨rfl, Hn.out, ⟨_, HP.out⟩, rfl, rfl, rfl⟩
  obtain rfl := g1 _ _ hd
  have hc := Hc.out
  rw [hd, Option.bind_some] at hc
  dsimp only at hc
  replace Hc := Lib.hid hc
  replace za : isI64 a1 := bd2 codec_N hd hbig
  clear hc hd g1 g2
  replace HP := Lib.hid (HP.out.store 1 (.int .i64 n1) (cs' := #[.int .i64 n0, .int .i64 n1, .int .i64 0, .int .i64 0, .int .i64 0, .int .i64 0, .slice none 0 0, .slice none 0 0, .slice none 0 0, .slice none 0 0]) rfl)
  obtain ⟨W2, hW⟩ : ∃ Wx, W1.setCell ⟨w.heap.size + 1, 1, none⟩ (.int .i64 n1) = Wx := ⟨_, rfl⟩
  rw [hW] at HP
  go_wp2_with fail
  clear k1 y1
  try clear hW
  refine (tk_N b _ a1 W2 _ (HX.out.keeps (Keeps.on HP.out.be)) za).mono ?_
  rintro e wa ⟨g1, g2, rfl⟩
  obtain ⟨k2, y2⟩ := HP.out.cell 2 (u := .int .i64 0) rfl
  rcases hd : dN b a1 with _ | ⟨n2, a2⟩
  · obtain rfl := g2 hd
    have Hn : Hid (Psp.parseM b = none) := Lib.hid (by have := Hc.out; rw [hd] at this; exact this)
    replace HP := Lib.hid (HP.out.store 2 (.int .i64 0) (cs' := #[.int .i64 n0, .int .i64 n1, .int .i64 0, .int .i64 0, .int .i64 0, .int .i64 0, .slice none 0 0, .slice none 0 0, .slice none 0 0, .slice none 0 0]) rfl)
    clear g1 g2 hd Hc HX za 
    obtain ⟨WF, hW1⟩ : ∃ Wx, W2.setCell ⟨w.heap.size + 1, 2, none⟩ (.int .i64 0) = Wx := ⟨_, rfl⟩
    rw [hW1] at HP
    go_wp2_with fail
    go_step3
    exact ⟨rfl, Hn.out, ⟨_, HP.out⟩, rfl, rfl, rfl⟩
  obtain rfl := g1 _ _ hd
  have hc := Hc.out
  rw [hd, Option.bind_some] at hc
  dsimp only at hc
  replace Hc := Lib.hid hc
  replace za : isI64 a2 := bd2 codec_N hd hbig
  clear hc hd g1 g2
  replace HP := Lib.hid (HP.out.store 2 (.int .i64 n2) (cs' := #[.int .i64 n0, .int .i64 n1, .int .i64 n2, .int .i64 0, .int .i64 0, .int .i64 0, .slice none 0 0, .slice none 0 0, .slice none 0 0, .slice none 0 0]) rfl)
  obtain ⟨W3, hW⟩ : ∃ Wx, W2.setCell ⟨w.heap.size + 1, 2, none⟩ (.int .i64 n2) = Wx := ⟨_, rfl⟩
  rw [hW] at HP
  go_wp2_with fail
  clear k2 y2
  try clear hW
  refine (tk_N b _ a2 W3 _ (HX.out.keeps (Keeps.on HP.out.be)) za).mono ?_
  rintro e wa ⟨g1, g2, rfl⟩
  obtain ⟨k3, y3⟩ := HP.out.cell 3 (u := .int .i64 0) rfl
  rcases hd : dN b a2 with _ | ⟨n3, a3⟩
  · obtain rfl := g2 hd
    have Hn : Hid (Psp.parseM b = none) := Lib.hid (by have := Hc.out; rw [hd] at this; exact this)
    replace HP := Lib.hid (HP.out.store 3 (.int .i64 0) (cs' := #[.int .i64 n0, .int .i64 n1, .int .i64 n2, .int .i64 0, .int .i64 0, .int .i64 0, .slice none 0 0, .slice none 0 0, .slice none 0 0, .slice none 0 0]) rfl)
    clear g1 g2 hd Hc HX za 
    obtain ⟨WF, hW1⟩ : ∃ Wx, W3.setCell ⟨w.heap.size + 1, 3, none⟩ (.int .i64 0) = Wx := ⟨_, rfl⟩
    rw [hW1] at HP
    go_wp2_with fail
    go_step3
    exact ⟨rfl, Hn.out, ⟨_, HP.out⟩, rfl, rfl, rfl⟩
  obtain rfl := g1 _ _ hd
  have hc := Hc.out
  rw [hd, Option.bind_some] at hc
  dsimp only at hc
  replace Hc := Lib.hid hc
  replace za : isI64 a3 := bd2 codec_N hd hbig
  clear hc hd g1 g2
  replace HP := Lib.hid (HP.out.store 3 (.int .i64 n3) (cs' := #[.int .i64 n0, .int .i64 n1, .int .i64 n2, .int .i64 n3, .int .i64 0, .int .i64 0, .slice none 0 0, .slice none 0 0, .slice none 0 0, .slice none 0 0]) rfl)
  obtain ⟨W4, hW⟩ : ∃ Wx, W3.setCell ⟨w.heap.size + 1, 3, none⟩ (.int .i64 n3) = Wx := ⟨_, rfl⟩
  rw [hW] at HP
  go_wp2_with fail
  clear k3 y3
  try clear hW
  refine (tk_N b _ a3 W4 _ (HX.out.keeps (Keeps.on HP.out.be)) za).mono ?_
  rintro e wa ⟨g1, g2, rfl⟩
  obtain ⟨k4, y4⟩ := HP.out.cell 4 (u := .int .i64 0) rfl
  rcases hd : dN b a3 with _ | ⟨n4, a4⟩
  · obtain rfl := g2 hd
    have Hn : Hid (Psp.parseM b = none) := Lib.hid (by have := Hc.out; rw [hd] at this; exact this)
    replace HP := Lib.hid (HP.out.store 4 (.int .i64 0) (cs' := #[.int .i64 n0, .int .i64 n1, .int .i64 n2, .int .i64 n3, .int .i64 0, .int .i64 0, .slice none 0 0, .slice none 0 0, .slice none 0 0, .slice none 0 0]) rfl)
    clear g1 g2 hd Hc HX za 
    obtain ⟨WF, hW1⟩ : ∃ Wx, W4.setCell ⟨w.heap.size + 1, 4, none⟩ (.int .i64 0) = Wx := ⟨_, rfl⟩
    rw [hW1] at HP
    go_wp2_with fail
    go_step3
    exact ⟨rfl, Hn.out, ⟨_, HP.out⟩, rfl, rfl, rfl⟩
  obtain rfl := g1 _ _ hd
  have hc := Hc.out
  rw [hd, Option.bind_some] at hc
  dsimp only at hc
  replace Hc := Lib.hid hc
  replace za : isI64 a4 := bd2 codec_N hd hbig
  clear hc hd g1 g2
  replace HP := Lib.hid (HP.out.store 4 (.int .i64 n4) (cs' := #[.int .i64 n0, .int .i64 n1, .int .i64 n2, .int .i64 n3, .int .i64 n4, .int .i64 0, .slice none 0 0, .slice none 0 0, .slice none 0 0, .slice none 0 0]) rfl)
  obtain ⟨W5, hW⟩ : ∃ Wx, W4.setCell ⟨w.heap.size + 1, 4, none⟩ (.int .i64 n4) = Wx := ⟨_, rfl⟩
  rw [hW] at HP
  go_wp2_with fail
  clear k4 y4
  try clear hW
  refine (tk_S b _ a4 W5 _ (HX.out.keeps (Keeps.on HP.out.be)) za).mono ?_
  rintro e wa ⟨g1, g2, rfl⟩
  obtain ⟨k5, y5⟩ := HP.out.cell 5 (u := .int .i64 0) rfl
  rcases hd : Psp.dS b a4 with _ | ⟨n5, a5⟩
  · obtain rfl := g2 hd
    have Hn : Hid (Psp.parseM b = none) := Lib.hid (by have := Hc.out; rw [hd] at this; exact this)
    replace HP := Lib.hid (HP.out.store 5 (.int .i64 0) (cs' := #[.int .i64 n0, .int .i64 n1, .int .i64 n2, .int .i64 n3, .int .i64 n4, .int .i64 0, .slice none 0 0, .slice none 0 0, .slice none 0 0, .slice none 0 0]) rfl)
    clear g1 g2 hd Hc HX za 
    obtain ⟨WF, hW1⟩ : ∃ Wx, W5.setCell ⟨w.heap.size + 1, 5, none⟩ (.int .i64 0) = Wx := ⟨_, rfl⟩
    rw [hW1] at HP
    go_wp2_with fail
    go_step3
    exact ⟨rfl, Hn.out, ⟨_, HP.out⟩, rfl, rfl, rfl⟩
  obtain rfl := g1 _ _ hd
  have hc := Hc.out
  rw [hd, Option.bind_some] at hc
  dsimp only at hc
  replace Hc := Lib.hid hc
  replace za : isI64 a5 := bd2 Psp.codec_S hd hbig
  clear hc hd g1 g2
  replace HP := Lib.hid (HP.out.store 5 (.int .i64 n5) (cs' := #[.int .i64 n0, .int .i64 n1, .int .i64 n2, .int .i64 n3, .int .i64 n4, .int .i64 n5, .slice none 0 0, .slice none 0 0, .slice none 0 0, .slice none 0 0]) rfl)
  obtain ⟨W6, hW⟩ : ∃ Wx, W5.setCell ⟨w.heap.size + 1, 5, none⟩ (.int .i64 n5) = Wx := ⟨_, rfl⟩
  rw [hW] at HP
  go_wp2_with fail
  clear k5 y5
  try clear hW
  refine (takeR b _ a5 W6 (HX.out.keeps (Keeps.on HP.out.be)) za).mono ?_
  rintro e wa6 ⟨g1, g2, g3⟩
  have hlt6 := HP.out.lt
  replace HP := Lib.hid (HP.out.call g3)
  clear g3
  obtain ⟨k6, y6⟩ := HP.out.cell 6 (u := .slice none 0 0) rfl
  rcases hd : (Psp.dL Psp.dR) b a5 with _ | ⟨l6, a6⟩
  · obtain rfl := g2 hd
    have Hn : Hid (Psp.parseM b = none) := Lib.hid (by have := Hc.out; rw [hd] at this; exact this)
    replace HP := Lib.hid (HP.out.store 6 (.slice none 0 0) (cs' := #[.int .i64 n0, .int .i64 n1, .int .i64 n2, .int .i64 n3, .int .i64 n4, .int .i64 n5, .slice none 0 0, .slice none 0 0, .slice none 0 0, .slice none 0 0]) rfl)
    clear g1 g2 hd Hc HX za hlt6
    obtain ⟨WF, hW1⟩ : ∃ Wx, wa6.setCell ⟨w.heap.size + 1, 6, none⟩ (.slice none 0 0) = Wx := ⟨_, rfl⟩
    rw [hW1] at HP
    go_wp2_with fail
    go_step3
    exact ⟨rfl, Hn.out, ⟨_, HP.out⟩, rfl, rfl, rfl⟩
  obtain ⟨v6, he, hr⟩ := g1 _ _ hd
  subst he
  obtain ⟨_, A6, c6, rfl, _⟩ := RdP.parts (show RdP _ _ 6 v6 l6.length (l6.flatMap rq) from hr)
  have HR6 := Lib.hid (RdR.keeps' hr (Keeps.into hlt6))
  clear hr hlt6
  have hc := Hc.out
  rw [hd, Option.bind_some] at hc
  dsimp only at hc
  replace Hc := Lib.hid hc
  replace za : isI64 a6 := bd2 (Psp.codec_L Psp.codec_R) hd hbig
  clear hc hd g1 g2
  replace HP := Lib.hid (HP.out.store 6 (.slice A6 l6.length c6) (cs' := #[.int .i64 n0, .int .i64 n1, .int .i64 n2, .int .i64 n3, .int .i64 n4, .int .i64 n5, .slice A6 l6.length c6, .slice none 0 0, .slice none 0 0, .slice none 0 0]) rfl)
  replace HR6 := Lib.hid (HR6.out.keeps' (Keeps.set w.heap.size 6 _ (.slice A6 l6.length c6)))
  obtain ⟨W7, hW⟩ : ∃ Wx, wa6.setCell ⟨w.heap.size + 1, 6, none⟩ (.slice A6 l6.length c6) = Wx := ⟨_, rfl⟩
  rw [hW] at HP HR6
  go_wp2_with fail
  clear k6 y6
  try clear hW
  refine (takeV b _ a6 W7 (HX.out.keeps (Keeps.on HP.out.be)) za).mono ?_
  rintro e wa7 ⟨g1, g2, g3⟩
  have hlt7 := HP.out.lt
  replace HP := Lib.hid (HP.out.call g3)
  replace HR6 := Lib.hid (HR6.out.keeps (Keeps.below g3))
  clear g3
  obtain ⟨k7, y7⟩ := HP.out.cell 7 (u := .slice none 0 0) rfl
  rcases hd : (Psp.dL Psp.dV) b a6 with _ | ⟨l7, a7⟩
  · obtain rfl := g2 hd
    have Hn : Hid (Psp.parseM b = none) := Lib.hid (by have := Hc.out; rw [hd] at this; exact this)
    replace HP := Lib.hid (HP.out.store 7 (.slice none 0 0) (cs' := #[.int .i64 n0, .int .i64 n1, .int .i64 n2, .int .i64 n3, .int .i64 n4, .int .i64 n5, .slice A6 l6.length c6, .slice none 0 0, .slice none 0 0, .slice none 0 0]) rfl)
    clear g1 g2 hd Hc HX za hlt7
    obtain ⟨WF, hW1⟩ : ∃ Wx, wa7.setCell ⟨w.heap.size + 1, 7, none⟩ (.slice none 0 0) = Wx := ⟨_, rfl⟩
    rw [hW1] at HP
    go_wp2_with fail
    go_step3
    exact ⟨rfl, Hn.out, ⟨_, HP.out⟩, rfl, rfl, rfl⟩
  obtain ⟨v7, he, hr⟩ := g1 _ _ hd
  subst he
  obtain ⟨_, A7, c7, rfl, _⟩ := RdP.parts (show RdP _ _ 2 v7 l7.length (l7.flatMap vt) from hr)
  have HR7 := Lib.hid (RdV.keeps' hr (Keeps.into hlt7))
  clear hr hlt7
  have hc := Hc.out
  rw [hd, Option.bind_some] at hc
  dsimp only at hc
  replace Hc := Lib.hid hc
  replace za : isI64 a7 := bd2 (Psp.codec_L Psp.codec_V) hd hbig
  clear hc hd g1 g2
  replace HP := Lib.hid (HP.out.store 7 (.slice A7 l7.length c7) (cs' := #[.int .i64 n0, .int .i64 n1, .int .i64 n2, .int .i64 n3, .int .i64 n4, .int .i64 n5, .slice A6 l6.length c6, .slice A7 l7.length c7, .slice none 0 0, .slice none 0 0]) rfl)
  replace HR6 := Lib.hid (HR6.out.keeps' (Keeps.set w.heap.size 7 _ (.slice A7 l7.length c7)))
  replace HR7 := Lib.hid (HR7.out.keeps' (Keeps.set w.heap.size 7 _ (.slice A7 l7.length c7)))
  obtain ⟨W8, hW⟩ : ∃ Wx, wa7.setCell ⟨w.heap.size + 1, 7, none⟩ (.slice A7 l7.length c7) = Wx := ⟨_, rfl⟩
  rw [hW] at HP HR6 HR7
  go_wp2_with fail
  clear k7 y7
  try clear hW
  refine (takeC b _ a7 W8 (HX.out.keeps (Keeps.on HP.out.be)) za).mono ?_
  rintro e wa8 ⟨g1, g2, g3⟩
  have hlt8 := HP.out.lt
  replace HP := Lib.hid (HP.out.call g3)
  replace HR6 := Lib.hid (HR6.out.keeps (Keeps.below g3))
  replace HR7 := Lib.hid (HR7.out.keeps (Keeps.below g3))
  clear g3
  obtain ⟨k8, y8⟩ := HP.out.cell 8 (u := .slice none 0 0) rfl
  rcases hd : (Psp.dL Psp.dC) b a7 with _ | ⟨l8, a8⟩
  · obtain rfl := g2 hd
    have Hn : Hid (Psp.parseM b = none) := Lib.hid (by have := Hc.out; rw [hd] at this; exact this)
    replace HP := Lib.hid (HP.out.store 8 (.slice none 0 0) (cs' := #[.int .i64 n0, .int .i64 n1, .int .i64 n2, .int .i64 n3, .int .i64 n4, .int .i64 n5, .slice A6 l6.length c6, .slice A7 l7.length c7, .slice none 0 0, .slice none 0 0]) rfl)
    clear g1 g2 hd Hc HX za hlt8
    obtain ⟨WF, hW1⟩ : ∃ Wx, wa8.setCell ⟨w.heap.size + 1, 8, none⟩ (.slice none 0 0) = Wx := ⟨_, rfl⟩
    rw [hW1] at HP
    go_wp2_with fail
    go_step3
    exact ⟨rfl, Hn.out, ⟨_, HP.out⟩, rfl, rfl, rfl⟩
  obtain ⟨v8, he, hr⟩ := g1 _ _ hd
  subst he
  obtain ⟨L8, r1, r2, r3⟩ := hr
  obtain ⟨_, A8, c8, rfl, _⟩ := r2.parts
  have hr : RdC wa8 _ (.slice A8 L8.length c8) l8 := ⟨L8, r1, r2, r3⟩
  clear r1 r2 r3
  have HR8 := Lib.hid (RdC.keeps hr (Keeps.into hlt8))
  clear hr hlt8
  have hc := Hc.out
  rw [hd, Option.bind_some] at hc
  dsimp only at hc
  replace Hc := Lib.hid hc
  replace za : isI64 a8 := bd2 (Psp.codec_L Psp.codec_C) hd hbig
  clear hc hd g1 g2
  replace HP := Lib.hid (HP.out.store 8 (.slice A8 L8.length c8) (cs' := #[.int .i64 n0, .int .i64 n1, .int .i64 n2, .int .i64 n3, .int .i64 n4, .int .i64 n5, .slice A6 l6.length c6, .slice A7 l7.length c7, .slice A8 L8.length c8, .slice none 0 0]) rfl)
  replace HR6 := Lib.hid (HR6.out.keeps' (Keeps.set w.heap.size 8 _ (.slice A8 L8.length c8)))
  replace HR7 := Lib.hid (HR7.out.keeps' (Keeps.set w.heap.size 8 _ (.slice A8 L8.length c8)))
  replace HR8 := Lib.hid (HR8.out.keeps (Keeps.set w.heap.size 8 _ (.slice A8 L8.length c8)))
  obtain ⟨W9, hW⟩ : ∃ Wx, wa8.setCell ⟨w.heap.size + 1, 8, none⟩ (.slice A8 L8.length c8) = Wx := ⟨_, rfl⟩
  rw [hW] at HP HR6 HR7 HR8
  go_wp2_with fail
  clear k8 y8
  try clear hW
  refine (takeP b _ a8 W9 (HX.out.keeps (Keeps.on HP.out.be)) za).mono ?_
  rintro e wa9 ⟨g1, g2, g3⟩
  have hlt9 := HP.out.lt
  replace HP := Lib.hid (HP.out.call g3)
  replace HR6 := Lib.hid (HR6.out.keeps (Keeps.below g3))
  replace HR7 := Lib.hid (HR7.out.keeps (Keeps.below g3))
  replace HR8 := Lib.hid (HR8.out.keeps (Keeps.below g3))
  clear g3
  obtain ⟨k9, y9⟩ := HP.out.cell 9 (u := .slice none 0 0) rfl
  rcases hd : (Psp.dL Psp.dP) b a8 with _ | ⟨l9, a9⟩
  · obtain rfl := g2 hd
    have Hn : Hid (Psp.parseM b = none) := Lib.hid (by have := Hc.out; rw [hd] at this; exact this)
    replace HP := Lib.hid (HP.out.store 9 (.slice none 0 0) (cs' := #[.int .i64 n0, .int .i64 n1, .int .i64 n2, .int .i64 n3, .int .i64 n4, .int .i64 n5, .slice A6 l6.length c6, .slice A7 l7.length c7, .slice A8 L8.length c8, .slice none 0 0]) rfl)
    clear g1 g2 hd Hc HX za hlt9
    obtain ⟨WF, hW1⟩ : ∃ Wx, wa9.setCell ⟨w.heap.size + 1, 9, none⟩ (.slice none 0 0) = Wx := ⟨_, rfl⟩
    rw [hW1] at HP
    go_wp2_with fail
    go_step3
    exact ⟨rfl, Hn.out, ⟨_, HP.out⟩, rfl, rfl, rfl⟩
  obtain ⟨v9, he, hr⟩ := g1 _ _ hd
  subst he
  obtain ⟨L9, r1, r2, r3⟩ := hr
  obtain ⟨_, A9, c9, rfl, _⟩ := r2.parts
  have hr : RdA wa9 _ (.slice A9 L9.length c9) l9 := ⟨L9, r1, r2, r3⟩
  clear r1 r2 r3
  have HR9 := Lib.hid (RdA.keeps hr (Keeps.into hlt9))
  clear hr hlt9
  have hc := Hc.out
  rw [hd, Option.bind_some] at hc
  dsimp only at hc
  replace Hc := Lib.hid hc
  replace za : isI64 a9 := bd2 (Psp.codec_L Psp.codec_P) hd hbig
  clear hc hd g1 g2
  replace HP := Lib.hid (HP.out.store 9 (.slice A9 L9.length c9) (cs' := #[.int .i64 n0, .int .i64 n1, .int .i64 n2, .int .i64 n3, .int .i64 n4, .int .i64 n5, .slice A6 l6.length c6, .slice A7 l7.length c7, .slice A8 L8.length c8, .slice A9 L9.length c9]) rfl)
  replace HR6 := Lib.hid (HR6.out.keeps' (Keeps.set w.heap.size 9 _ (.slice A9 L9.length c9)))
  replace HR7 := Lib.hid (HR7.out.keeps' (Keeps.set w.heap.size 9 _ (.slice A9 L9.length c9)))
  replace HR8 := Lib.hid (HR8.out.keeps (Keeps.set w.heap.size 9 _ (.slice A9 L9.length c9)))
  replace HR9 := Lib.hid (HR9.out.keeps (Keeps.set w.heap.size 9 _ (.slice A9 L9.length c9)))
  obtain ⟨W10, hW⟩ : ∃ Wx, wa9.setCell ⟨w.heap.size + 1, 9, none⟩ (.slice A9 L9.length c9) = Wx := ⟨_, rfl⟩
  rw [hW] at HP HR6 HR7 HR8 HR9
  by_cases he : a9 = (b.length : Int)
  case' neg =>
    have d9 : (a9 != (b.length : Int)) = true := by rw [bne_iff_ne]; exact he
    have d9' : decide (a9 ≠ (b.length : Int)) = true := decide_eq_true he
    have Hn : Hid (Psp.parseM b = none) := Lib.hid (by rw [Hc.out]; exact if_neg he)
    clear Hc HX za he
    go_wp2_with fail
    go_step3
    exact ⟨rfl, Hn.out, ⟨_, HP.out⟩, rfl, rfl, rfl⟩
  have d9 : (a9 != (b.length : Int)) = false := by rw [he]; simp
  have d9' : decide (a9 ≠ (b.length : Int)) = false := by rw [he]; simp
  have Hy : Hid (Psp.parseM b = some ⟨n0, n1, n2, n3, n4, n5, l6, l7, l8, l9⟩) := Lib.hid (by rw [Hc.out]; exact if_pos he)
  clear Hc HX za he
  have x0 := (HP.out.cell 0 (u := .int .i64 n0) rfl).1
  have x1 := (HP.out.cell 1 (u := .int .i64 n1) rfl).1
  have x2 := (HP.out.cell 2 (u := .int .i64 n2) rfl).1
  have x3 := (HP.out.cell 3 (u := .int .i64 n3) rfl).1
  have x4 := (HP.out.cell 4 (u := .int .i64 n4) rfl).1
  have x5 := (HP.out.cell 5 (u := .int .i64 n5) rfl).1
  have x6 := (HP.out.cell 6 (u := .slice A6 l6.length c6) rfl).1
  have x7 := (HP.out.cell 7 (u := .slice A7 l7.length c7) rfl).1
  have x8 := (HP.out.cell 8 (u := .slice A8 L8.length c8) rfl).1
  have x9 := (HP.out.cell 9 (u := .slice A9 L9.length c9) rfl).1
  have Hth := Lib.hid (row_there HP.out.rr)
  obtain ⟨t1, t2, t3⟩ := HP.out.fin [.int .i64 n0, .int .i64 n1, .int .i64 n2, .int .i64 n3, .int .i64 n4, .int .i64 n5, .slice A6 l6.length c6, .slice A7 l7.length c7, .slice A8 L8.length c8, .slice A9 L9.length c9] rfl
  have HK := Lib.hid (Keeps.fin (N := w.heap.size) ((Fp.refl (fun _ => True) W10).setCells (Or.inl trivial) _).size t3)
  have T1 := Lib.hid t1
  have T2 := Lib.hid t2
  clear t1 t2 t3
  go_wp2_with (first | (refine wpList_store_mid rfl 56 (.tmp 2) (.tmp 116) rfl w.heap.size 0 #[.int .i64 n0, .int .i64 n1, .int .i64 n2, .int .i64 n3, .int .i64 n4, .int .i64 n5, .slice A6 l6.length c6, .slice A7 l7.length c7, .slice A8 L8.length c8, .slice A9 L9.length c9] rfl rfl Hth.out sizeM (by simp [Value.oneCell']) ?_))
  rw [hop_ret]
  refine bodyPost_ret (v := .tuple #[.agg #[.int .i64 n0, .int .i64 n1, .int .i64 n2, .int .i64 n3, .int .i64 n4, .int .i64 n5, .slice A6 l6.length c6, .slice A7 l7.length c7, .slice A8 L8.length c8, .slice A9 L9.length c9], .bool true]) ?_ rfl ?_
  · exact results_cell_row1 Tryz.results60 _ _ w.heap.size _ _ _ _ rfl T1.out Tryz.underlying56 rfl sizeM
  · refine ⟨fun m h => ?_, fun h => (by rw [Hy.out] at h; cases h), T2.out⟩
    rw [Hy.out] at h
    injection h with h
    subst h
    exact ⟨_, _, _, _, rfl, MsgOk.keeps ⟨HR6.out, HR7.out, HR8.out, HR9.out⟩ HK.out⟩
end Go.Proofs.YtipmjleohadoeaaGreat
