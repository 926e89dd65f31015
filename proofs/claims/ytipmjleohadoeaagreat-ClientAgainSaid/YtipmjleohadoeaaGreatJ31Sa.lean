/- What goes out, compared: psephoskeep.Sends where both are the same. Boxes and bytes apart from the notaries' memory. Printed by gen_wrw.py out of Rw and Vwe: never import it beside these. -/
import Derived.Test.YtipmjleohadoeaaGreatClSa
import Derived.Test.YtipmjleohadoeaaGreatGdSa
import Derived.Test.YtipmjleohadoeaaGreatGbSa
import Derived.Test.YtipmjleohadoeaaGreatJ21Sa
section
namespace Go.Proofs.YtipmjleohadoeaaGreat
open Go.RowKit
set_option linter.unusedVariables false
set_option linter.unusedSimpArgs false

/-- A value that reads as sends. -/
structure RdS (W : World) (v : Value) (L : List SendV) : Prop where
  rd : Rd W W.heap.size 2 v L.length (L.flatMap sv)
  ok : ∀ x ∈ L, Rd W W.heap.size 1 x.v x.b.length (x.b.map bv)
theorem RdS.below {W W' : World} {v : Value} {L : List SendV} (h : RdS W v L) (hb : Below W.heap.size W W') : RdS W' v L :=
  ⟨(h.rd.below hb).more hb.size, fun x hx => ((h.ok x hx).below hb).more hb.size⟩
theorem RdS.later {W : World} {v : Value} {L : List SendV} (h : RdS W v L) (p : Later W) : RdS p.W v L := h.below p.h
theorem Outs.rds {W : World} {U : Nat → Prop} {v : Value} {L : List SendV} (h : Outs W U v L) : RdS W v L :=
  ⟨Rd.of_own h.own, fun x hx => Rd.of_own (h.ok x hx).1⟩
theorem sv_at {W : World} {b o : Nat} {L : List SendV} (h : Lies W b o (L.flatMap sv)) {k : Nat} (hk : k < L.length) : W.cell? ⟨b, o + k * 2, none⟩ = some (.int .i64 L[k].t) ∧ W.cell? ⟨b, o + k * 2 + 1, none⟩ = some L[k].v := by
  have h1 := flat_get (f := sv) (k := 2) (fun _ => rfl) L k 0 (by omega)
  have h2 := flat_get (f := sv) (k := 2) (fun _ => rfl) L k 1 (by omega)
  rw [List.getElem?_eq_getElem hk] at h1 h2
  exact ⟨h (k * 2) _ (by rw [Nat.add_zero] at h1; rw [h1]; rfl), by rw [Nat.add_assoc]; exact h (k * 2 + 1) _ (by rw [h2]; rfl)⟩

set_option maxRecDepth 100000 in
set_option maxHeartbeats 4000000 in
theorem sends_yes (va vb : Value) (La Lb : List SendV) (w : World) (ha : RdS w va La) (hb : RdS w vb Lb) (he : La.map SendV.s = Lb.map SendV.s) :
    Calls Tryz.prog 23 #[va, vb] w fun e w' => e = .returned (.bool true) ∧ Below w.heap.size w w' := by
  have hll : La.length = Lb.length := by have := congrArg List.length he; simpa using this
  obtain ⟨n, hn⟩ : ∃ n, La.length = n := ⟨_, rfl⟩
  have hnb : Lb.length = n := by omega
  have HA := Lib.hid ha
  have HBs := Lib.hid hb
  have hra := ha.rd
  have hrb := hb.rd
  rw [hn] at hra
  rw [hnb] at hrb
  obtain ⟨_, A, ca, rfl, hca1, hca2, hla⟩ := hra
  obtain ⟨_, B, cb, rfl, hcb1, hcb2, hlb⟩ := hrb
  unfold maxLen at hca2 hcb2
  have HLa := Lib.hid hla
  have HLb := Lib.hid hlb
  have HEq := Lib.hid he
  have Hn := Lib.hid hn
  have Hnb := Lib.hid hnb
  clear ha hb he hll hn hnb hla hlb
  go_enter Tryz.func23, Tryz.ntmps23
  go_upto_region 4 with fail
  go_loopw [5] (fun ix wr => ∃ i : Nat, ix = .int .i64 (i : Int) ∧ i ≤ n ∧ Hid (Below w.heap.size w wr)) (fun ix _ => n - (intOf ix).toNat)
  case atStart => exact ⟨0, rfl, Nat.zero_le _, Lib.hid (Below.refl _ _)⟩
  case round =>
    obtain ⟨i, rfl, hi, HB⟩ := hrel
    by_cases hlt : i < n
    case neg =>
      have hd1 : decide ((i : Int) < (n : Int)) = false := by simp; omega
      go_wp2_with fail
      go_ret
      exact ⟨rfl, HB.out⟩
    case pos =>
      have hd1 : decide ((i : Int) < (n : Int)) = true := by simp; omega
      obtain ⟨b1, o1, rfl, hb1, hl1⟩ := HLa.out (by omega)
      obtain ⟨b2, o2, rfl, hb2, hl2⟩ := HLb.out (by omega)
      have hia : i < La.length := by rw [Hn.out]; exact hlt
      have hib : i < Lb.length := by rw [Hnb.out]; exact hlt
      have HAr := Lib.hid (HA.out.below HB.out)
      have HBr := Lib.hid (HBs.out.below HB.out)
      obtain ⟨p1, p2⟩ := sv_at hl1 hia
      obtain ⟨q1, q2⟩ := sv_at hl2 hib
      have hx := HAr.out.ok La[i] (List.getElem_mem hia)
      have hy := HBr.out.ok Lb[i] (List.getElem_mem hib)
      have hs : La[i].s = Lb[i].s := by
        have h1 : (La.map SendV.s)[i]? = (Lb.map SendV.s)[i]? := by rw [HEq.out]
        rw [List.getElem?_map, List.getElem?_map, List.getElem?_eq_getElem hia, List.getElem?_eq_getElem hib] at h1
        exact Option.some.inj h1
      obtain ⟨⟨t1, d1, v1⟩, hx1⟩ : ∃ x, La[i] = x := ⟨_, rfl⟩
      obtain ⟨⟨t2, d2, v2⟩, hx2⟩ : ∃ x, Lb[i] = x := ⟨_, rfl⟩
      rw [hx1] at p1 p2 hx hs
      rw [hx2] at q1 q2 hy hs
      unfold SendV.s at hs
      injection hs with hs1 hs2
      dsimp only at hs1 hs2 p1 p2 q1 q2 hx hy
      subst hs1 hs2
      have l1 := later_cell (w := wr) (show wr.cell? ⟨b1, o1 + i * 2, none⟩ = some (.int .i64 t1) from (World.cell?_of_block (a := ⟨b1, o1 + i * 2, none⟩) (HB.out.block b1 hb1)).trans p1)
      have l2 := later_cell (w := wr) (show wr.cell? ⟨b1, o1 + i * 2 + 1, none⟩ = some v1 from (World.cell?_of_block (a := ⟨b1, o1 + i * 2 + 1, none⟩) (HB.out.block b1 hb1)).trans p2)
      have l3 := later_cell (w := wr) (show wr.cell? ⟨b2, o2 + i * 2, none⟩ = some (.int .i64 t1) from (World.cell?_of_block (a := ⟨b2, o2 + i * 2, none⟩) (HB.out.block b2 hb2)).trans q1)
      have l4 := later_cell (w := wr) (show wr.cell? ⟨b2, o2 + i * 2 + 1, none⟩ = some v2 from (World.cell?_of_block (a := ⟨b2, o2 + i * 2 + 1, none⟩) (HB.out.block b2 hb2)).trans q2)
      have HSm : Hid (∀ p : Later wr, Calls Tryz.prog 45 #[v1, v2] p.W fun e w' => e = .returned (.bool true) ∧ Below p.W.heap.size p.W w') := Lib.hid fun p => by
        exact same_bytes_yes v1 v2 _ _ d1 d1 p.W (hx.later (Nat.le_refl _) p) (hy.later (Nat.le_refl _) p) rfl
      have k0 : (0 : Int) ≤ (i : Int) := by omega
      have k1 : (i : Int) < (n : Int) := by omega
      clear hx hy hx1 hx2 p1 p2 q1 q2 hl1 hl2 hia hib
      go_upto_region 6 with fail
      refine wp_region_later (by kernel_rfl) (by kernel_rfl) ?_
      repeat ((with_reducible show wpQuiet _ _ _ _ _ _); first | ((with_reducible refine wpQuiet_bare ?_ ?_); (· rfl)) | go_big_quiet_step ((go_at_call 45; exact later_call _ (HSm.out _))) | quiet_step ((go_at_call 45; exact later_call _ (HSm.out _))))
      refine wpQuiet_nil ?_
      intro w3 hw'
      have hb3 := later_out hw'
      have HB3 := Lib.hid (Below.then HB.out hb3 HB.out.size)
      clear hw' hb3 l1 l2 l3 l4
      go_wp2_with fail
      refine ⟨⟨i + 1, by go_num, by omega, HB3⟩, ?_⟩
      simp [intOf]; omega
end Go.Proofs.YtipmjleohadoeaaGreat
end
section
namespace Go.Proofs.YtipmjleohadoeaaGreat
open Go.RowKit
set_option linter.unusedVariables false
set_option linter.unusedSimpArgs false

/-- Memory that the notaries have not. -/
def Off (W : World) (S : Nat → Prop) (bm : Nat) (b : Nat) : Prop := b < W.heap.size ∧ ¬ S b ∧ b ≠ bm
theorem Off.below {W W' : World} {S : Nat → Prop} {bm b : Nat} (h : Off W S bm b) (hb : Below W.heap.size W W') : Off W' S bm b := ⟨Nat.lt_of_lt_of_le h.1 hb.size, h.2⟩
theorem Off.seal {W W' : World} {S S' T : Nat → Prop} {bm b : Nat} (h : Off W S bm b) (hf : Fp T W W') (hS : ∀ b, S' b → S b ∨ W.heap.size ≤ b) : Off W' S' bm b :=
  ⟨Nat.lt_of_lt_of_le h.1 hf.size, fun hh => by
    rcases hS b hh with h1 | h1
    · exact h.2.1 h1
    · have := h.1; omega, h.2.2⟩
theorem Off.new {w : World} {S : Nat → Prop} {bm : Nat} (o : Obj) (hS : ∀ b, S b → b < w.heap.size) (hbm : bm < w.heap.size) : Off (w.alloc o) S bm w.heap.size := ⟨by simp, fun hh => by have := hS _ hh; omega, by omega⟩
/-- A box. -/
structure Rw (W : World) (S : Nat → Prop) (bm : Nat) (j : Nat) (o : Obj) : Prop where
  row : W.heap[j]? = some o
  off : Off W S bm j
theorem Rw.lt {W : World} {S : Nat → Prop} {bm j : Nat} {o : Obj} (h : Rw W S bm j o) : j < W.heap.size := h.off.1
theorem Rw.below {W W' : World} {S : Nat → Prop} {bm j : Nat} {o : Obj} (h : Rw W S bm j o) (hb : Below W.heap.size W W') : Rw W' S bm j o := ⟨(hb.block j h.lt).trans h.row, h.off.below hb⟩
theorem Rw.seal {W W' : World} {S S' : Nat → Prop} {bm j : Nat} {o : Obj} (h : Rw W S bm j o) (hf : Fp (fun b => S b ∨ b = bm) W W') (hS : ∀ b, S' b → S b ∨ W.heap.size ≤ b) : Rw W' S' bm j o :=
  ⟨(hf.block j h.lt (by rintro (hh | hh); exact h.off.2.1 hh; exact h.off.2.2 hh)).trans h.row, h.off.seal hf hS⟩
theorem Rw.other {W W' : World} {S T : Nat → Prop} {bm j : Nat} {o : Obj} (h : Rw W S bm j o) (hf : Fp T W W') (hn : ¬ T j) : Rw W' S bm j o :=
  ⟨(hf.block j h.lt hn).trans h.row, h.off.seal hf fun b hb => .inl hb⟩
theorem Rw.new {w : World} {S : Nat → Prop} {bm : Nat} (o : Obj) (hS : ∀ b, S b → b < w.heap.size) (hbm : bm < w.heap.size) : Rw (w.alloc o) S bm w.heap.size o := ⟨heap_alloc_new w o, Off.new o hS hbm⟩
theorem Rw.cell {W : World} {S : Nat → Prop} {bm j : Nat} {cs : Array Value} {T : TypeId} (h : Rw W S bm j (.cells cs T (0, 0))) {k : Nat} {u : Value} (hk : cs[k]? = some u) : W.cell? ⟨j, k, none⟩ = some u := by rw [cell_of_row _ _ k _ _ _ h.row]; exact hk
theorem Rw.ice {W : World} {S : Nat → Prop} {bm j : Nat} {cs : Array Value} {T : TypeId} (h : Rw W S bm j (.cells cs T (0, 0))) (k : Nat) : W.frozen? ⟨j, k, none⟩ = false := frozen_of_row _ _ k _ _ h.row
/-- Bytes, apart. -/
structure Bk (W : World) (S : Nat → Prop) (bm : Nat) (v : Value) (bs : List UInt8) : Prop where
  rd : RdP W (Off W S bm) 1 v bs.length (bs.map bv)
theorem Bk.below {W W' : World} {S : Nat → Prop} {bm : Nat} {v : Value} {bs : List UInt8} (h : Bk W S bm v bs) (hb : Below W.heap.size W W') : Bk W' S bm v bs := ⟨h.rd.keeps ⟨hb.size, fun b hP hlt => ⟨hb.block b hlt, hP.below hb⟩⟩⟩
theorem Bk.seal {W W' : World} {S S' : Nat → Prop} {bm : Nat} {v : Value} {bs : List UInt8} (h : Bk W S bm v bs) (hf : Fp (fun b => S b ∨ b = bm) W W') (hS : ∀ b, S' b → S b ∨ W.heap.size ≤ b) : Bk W' S' bm v bs :=
  ⟨h.rd.keeps ⟨hf.size, fun b hP hlt => ⟨hf.block b hlt (by rintro (hh | hh); exact hP.2.1 hh; exact hP.2.2 hh), hP.seal hf hS⟩⟩⟩
theorem Bk.new {W W' : World} {S : Nat → Prop} {bm : Nat} {v : Value} {bs : List UInt8} (h : RdP W' (fun b => W.heap.size ≤ b) 1 v bs.length (bs.map bv)) (hS : ∀ b, S b → b < W.heap.size) (hbm : bm < W.heap.size) : Bk W' S bm v bs :=
  ⟨h.mono fun b hb hP => ⟨hb, fun hh => by have := hS b hh; omega, by omega⟩⟩
theorem Bk.all {W : World} {S : Nat → Prop} {bm : Nat} {v : Value} {bs : List UInt8} (h : Bk W S bm v bs) : RdP W (fun b => b < W.heap.size) 1 v bs.length (bs.map bv) := h.rd.mono fun b hb _ => hb
end Go.Proofs.YtipmjleohadoeaaGreat
end
