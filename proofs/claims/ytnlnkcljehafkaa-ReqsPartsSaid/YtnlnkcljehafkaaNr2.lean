/- The reference's notary: Seal. -/
import Derived.Test.YtnlnkcljehafkaaNr
import Derived.Deep.AppendLies
import Derived.Deep.RegionHeld3
import Derived.Deep.RegionLaw
import Derived.OwnWalk
namespace Go.Proofs.Ytnlnkcljehafkaa
open Go.RowKit
set_option linter.unusedVariables false

theorem still_val {P : Program} {ops : Array Oper} {w : World} {Q : Act → Prop} {a : Act} {o : Oper} {rest : List Oper} (hw : Region.wanted o (yielded ops a.tmps) = true) (v : Value)
    (hr : (execOp a.eval o).run P w = .ok (.value v) w) (h : ∀ K : Act → Prop, (∀ a, wpStill P ops w Q rest a → K a) → K (a.put o.dst v)) : wpStill P ops w Q (o :: rest) a := by
  refine wpStill_step fun K hK => ?_
  rw [if_pos hw]
  unfold Oper.still
  rw [hr]
  exact ⟨rfl, h K hK⟩
theorem step_val {P : Program} {w : World} {ops : Array Oper} {o : Oper} {a : Act} {K : Act → World → Prop} {Q : Exit → Act → World → Prop} {E : Prop} (hw : Region.wanted o (yielded ops a.tmps) = true) (v : Value)
    (hr : (execOp a.eval o).run P w = .ok (.value v) w) (h : K (a.put o.dst v) w) : if Region.wanted o (yielded ops a.tmps) = true then Oper.wp P o a w K Q else E := by
  rw [if_pos hw]
  unfold Oper.wp
  rw [hr]
  exact h
theorem str_info : (Try.prog.info? 9).map (fun i => (i.zero, i.size, i.bytes)) = some (some (.string ByteArray.empty), 1, 16) := by kernel_rfl
theorem intE : Elem Try.prog 48 3 1 8 := ⟨Try.underlying48, by kernel_rfl, by decide⟩
theorem strE : Elem Try.prog 49 9 1 16 := ⟨Try.underlying49, by kernel_rfl, by decide⟩

/-- What Seal leaves. -/
theorem nr_fin {S : Nat → Prop} {g : Nat} {l : List Key} {p : Int} {bs : List UInt8} {w w4 w6 : World} {A3 B : Option Addr} {c3 d gg cap : Nat}
    (h4 : S g) (h6 : ∀ b, (Value.slice B l.length d).ownBlock = some b → S b ∧ b ≠ g) (hz : w.heap.size < w4.heap.size) (hgl : g < w.heap.size)
    (ha3 : ∀ b, (Value.slice A3 (l.length + 1) c3).ownBlock = some b → (S b ∨ (w.heap.size ≤ b ∧ b < w4.heap.size)) ∧ b ≠ g ∧ (Value.slice B l.length d).ownBlock ≠ some b)
    (ho3 : w4.ownsRow 0 3 1 (.slice A3 (l.length + 1) c3) (l.length + 1) (l.map (fun k => Value.int .i64 k.1) ++ [.int .i64 p])) (hf : Fp S w w4)
    (hgw : w6.heap[g]? = some (.cells #[.slice A3 (l.length + 1) c3, .slice B l.length d] 51 (0, 0)))
    (hg6 : (w4.drew.alloc (.cells #[.string (strOf bs)] 9)).grownBy w6 (Value.slice B l.length d).ownBlock)
    (ho6 : w6.ownsRow 0 9 1 (.slice (some ⟨gg, 0, none⟩) (l.length + 1) cap) (l.length + 1) (l.map (fun k => Value.string (strOf k.2)) ++ [.string (strOf bs)]))
    (hat : (Value.slice B l.length d).ownBlock = some gg ∨ gg = w4.heap.size + 1) (hlt : gg < w6.heap.size) :
    Ntr (w6.setCell ⟨g, 1, none⟩ (.slice (some ⟨gg, 0, none⟩) (l.length + 1) cap)) (fun b => S b ∨ (w.heap.size ≤ b ∧ b < (w6.setCell ⟨g, 1, none⟩ (.slice (some ⟨gg, 0, none⟩) (l.length + 1) cap)).heap.size)) g (l ++ [(p, bs)]) ∧ Fp S w (w6.setCell ⟨g, 1, none⟩ (.slice (some ⟨gg, 0, none⟩) (l.length + 1) cap)) := by
  have hs7 : (w6.setCell ⟨g, 1, none⟩ (.slice (some ⟨gg, 0, none⟩) (l.length + 1) cap)).heap.size = w6.heap.size := by simp [World.setCell]
  have hz6 : w4.heap.size + 1 ≤ w6.heap.size := by have := hg6.size; simpa using this
  have hggne : gg ≠ g := by
    rcases hat with h | h
    · exact (h6 gg h).2
    · have := hf.size; omega
  refine ⟨⟨_, _, heap_setCell_same w6 g 1 _ _ (.slice (some ⟨gg, 0, none⟩) (l.length + 1) cap) hgw, ?_, ?_, Or.inl h4, ?_, ?_⟩, ?_⟩
  · have := own_keep0 (w' := w6.setCell ⟨g, 1, none⟩ (.slice (some ⟨gg, 0, none⟩) (l.length + 1) cap)) ho3 fun b hb => by
      rw [Below.heap_setCell w6 _ _ b (fun he => (ha3 b hb).2.1 he), hg6.block b (by have := own_lt0 ho3 hb; simp; omega) (fun he => (ha3 b hb).2.2 he.symm)]
      exact (alloc_below w4.drew _).block b (own_lt0 ho3 hb)
    simpa using this
  · have := own_keep0 (w' := w6.setCell ⟨g, 1, none⟩ (.slice (some ⟨gg, 0, none⟩) (l.length + 1) cap)) ho6 fun b hb => Below.heap_setCell w6 _ _ b (fun he => hggne (by injection hb with hb; exact hb.trans he))
    simpa using this
  · intro b hb
    obtain ⟨q1, q2, _⟩ := ha3 b hb
    refine ⟨?_, q2⟩
    rcases q1 with q | q
    · exact Or.inl q
    · exact Or.inr ⟨q.1, by rw [hs7]; omega⟩
  · intro b hb
    injection hb with hb
    simp only at hb
    subst hb
    refine ⟨?_, hggne, fun he => ?_⟩
    · rcases hat with h | h
      · exact Or.inl (h6 _ h).1
      · exact Or.inr ⟨by omega, by rw [hs7]; exact hlt⟩
    · obtain ⟨_, _, q3⟩ := ha3 _ he
      rcases hat with h | h
      · exact q3 h
      · have := own_lt0 ho3 he; omega
  · exact (((hf.drew).alloc _).grown hg6 (fun k hk => Or.inl (h6 k hk).1)).setCell (p := ⟨g, 1, none⟩) (Or.inl h4) _

set_option maxRecDepth 100000 in
set_option maxHeartbeats 4000000 in
theorem nr_seal (S : Nat → Prop) (g : Nat) (l : List Key) (p : Int) (bs : List UInt8) (v : Value) (w : World) (P : Nat → Prop) (hN : Ntr w S g l) (hl : l.length < 1099511627776) (hv : RdP w P 1 v bs.length (bs.map bv)) (hP : ∀ b, P b → ¬ S b) :
    Calls Try.prog 29 #[.pointer (some ⟨g, 0, none⟩), .int .i64 p, v] w fun e w' => e = .returned (.int .i64 (sealN l (p, bs))) ∧ Ntr w' (fun b => S b ∨ (w.heap.size ≤ b ∧ b < w'.heap.size)) g (sealL l (p, bs)) ∧ Fp S w w' := by
  have HN := Lib.hid hN
  have HV := Lib.hid hv
  by_cases hm : (p, bs) ∈ l
  · have e1 : sealN l (p, bs) = num l (p, bs) := by simp [sealN, num, hm]
    have e2 : sealL l (p, bs) = l := by simp [sealL, hm]
    have hd := decide_eq_true hm
    rw [e1, e2]
    clear hN hv e1 e2
    go_enter Try.func29, Try.ntmps29
    go_wp2_with fail
    refine (nr_find S g l p bs v w P HN.out HV.out).mono ?_
    rw [hd]
    rintro e w' ⟨rfl, rfl⟩
    go_wp2_with fail
    go_ret
    refine ⟨rfl, ?_, Fp.refl _ _⟩
    obtain ⟨vp, vt, h1, h2, h3, h4, h5, h6⟩ := HN.out.ex
    exact ⟨vp, vt, h1, h2, h3, Or.inl h4, fun b hb => ⟨Or.inl (h5 b hb).1, (h5 b hb).2⟩, fun b hb => ⟨Or.inl (h6 b hb).1, (h6 b hb).2⟩⟩
  · have e1 : sealN l (p, bs) = (l.length : Int) + 1 := by simp [sealN, hm]
    have e2 : sealL l (p, bs) = l ++ [(p, bs)] := by simp [sealL, hm]
    have hd := decide_eq_false hm
    rw [e1, e2]
    clear e1 e2
    obtain ⟨vp, vt, h1, h2, h3, h4, h5, h6⟩ := hN.ex
    obtain ⟨A, c, rfl, _, _, _⟩ := own_slice h2
    obtain ⟨B, d, rfl, _, _, _⟩ := own_slice h3
    have hgl : g < w.heap.size := (Array.getElem?_eq_some_iff.1 h1).1
    have c0 : w.cell? ⟨g, 0, none⟩ = some (.slice A l.length c) := (cell_of_row w g 0 _ _ _ h1).trans rfl
    have f0 := frozen_of_row w g 0 _ _ h1
    have H1 := Lib.hid h1
    have H2 := Lib.hid h2
    have H3 := Lib.hid h3
    have H4 := Lib.hid h4
    have H5 := Lib.hid h5
    have H6 := Lib.hid h6
    clear hN hv h1 h2 h3 h4 h5 h6
    go_enter Try.func29, Try.ntmps29
    go_wp2_with fail
    refine (nr_find S g l p bs v w P HN.out HV.out).mono ?_
    rw [hd]
    rintro e w' ⟨rfl, rfl⟩
    have hown0 : (w'.alloc (.cells #[.int .i64 p] 3)).ownsRow 0 3 1 (.slice A l.length c) l.length (l.map fun k => .int .i64 k.1) := own_below H2.out (alloc_below _ _)
    go_wp2_with (at_builtin; refine wpList_app intE rfl _ _ rfl 0 (.slice A l.length c) l.length _ rfl hown0 _ (.slice (some ⟨w'.heap.size, 0, none⟩) 1 1) 1 [.int .i64 p] rfl (Rd.lit w' #[.int .i64 p] 3 1 rfl) (by simp [Value.oneCell']) (by unfold maxLen; omega) (by omega) (by omega) ?_; intro v1 w3 h3 hg3 hb3; obtain ⟨A3, c3, rfl, _, _, _⟩ := own_slice h3; have hgw := (hg3.block g (by simp; omega) (fun he => ((H5.out g he.symm).2 rfl))).trans (((alloc_below w' (.cells #[.int .i64 p] 3)).block g hgl).trans H1.out); have k0 := (cell_of_row w3 g 0 _ _ _ hgw).trans rfl; have z0 := frozen_of_row w3 g 0 _ _ hgw)
    clear c0 f0
    have f3 : Fp S w' w3 := ((Fp.refl S w').alloc _).grown hg3 (fun k hk => Or.inl (H5.out k hk).1)
    have hg4 := heap_setCell_same w3 g 0 _ _ (.slice A3 (l.length + 1) c3) hgw
    have hs4 : (w3.setCell ⟨g, 0, none⟩ (.slice A3 (l.length + 1) c3)).heap.size = w3.heap.size := by simp [World.setCell]
    have f4 : Fp S w' (w3.setCell ⟨g, 0, none⟩ (.slice A3 (l.length + 1) c3)) := f3.setCell (p := ⟨g, 0, none⟩) (Or.inl H4.out) _
    have hsz0 : (w'.alloc (.cells #[.int .i64 p] 3)).heap.size = w'.heap.size + 1 := by simp
    have hz3 : w'.heap.size < w3.heap.size := by have := hg3.size; rw [hsz0] at this; omega
    have hA3 : ∀ b, (Value.slice A3 (l.length + 1) c3).ownBlock = some b → (S b ∨ (w'.heap.size ≤ b ∧ b < w3.heap.size)) ∧ b ≠ g ∧ (Value.slice B l.length d).ownBlock ≠ some b := by
      intro b hb
      rcases hb3 with he | he
      · rw [he] at hb
        refine ⟨Or.inl (H5.out b hb).1, (H5.out b hb).2, fun hq => (H6.out b hq).2.2 hb⟩
      · have hlt := own_lt0 h3 hb
        rw [he, hsz0] at hb
        injection hb with hb
        refine ⟨Or.inr ⟨by omega, hlt⟩, by omega, fun hq => ?_⟩
        have := own_lt0 H3.out hq
        omega
    have hown3 : (w3.setCell ⟨g, 0, none⟩ (.slice A3 (l.length + 1) c3)).ownsRow 0 3 1 (.slice A3 (l.length + 1) c3) (l.length + 1) (l.map (fun k => Value.int .i64 k.1) ++ [.int .i64 p]) :=
      own_keep0 h3 fun b hb => Below.heap_setCell w3 _ _ b (fun he => (hA3 b hb).2.1 he)
    have hown4 : (w3.setCell ⟨g, 0, none⟩ (.slice A3 (l.length + 1) c3)).ownsRow 0 9 1 (.slice B l.length d) l.length (l.map fun k => .string (strOf k.2)) :=
      own_keep0 H3.out fun b hb => by
        have hlt := own_lt0 H3.out hb
        rw [Below.heap_setCell w3 _ _ b (fun he => (H6.out b hb).2.1 he), hg3.block b (by rw [hsz0]; omega) (fun he => (H6.out b hb).2.2 he.symm)]
        exact (alloc_below w' _).block b hlt
    have hrd4 := HV.out.fp f4 hP
    obtain ⟨w4, hw4⟩ : ∃ w4, w4 = w3.setCell ⟨g, 0, none⟩ (.slice A3 (l.length + 1) c3) := ⟨_, rfl⟩
    rw [← hw4] at hg4 hs4 f4 hown3 hown4 hrd4 ⊢
    have hg4' : w4.heap[g]? = some (.cells #[.slice A3 (l.length + 1) c3, .slice B l.length d] 51 (0, 0)) := hg4
    have HG4 := Lib.hid hg4'
    have HF4 := Lib.hid f4
    have HO3 := Lib.hid hown3
    have HO4 := Lib.hid hown4
    have HV4 := Lib.hid hrd4
    rw [← hs4] at hA3
    have HA3 := Lib.hid hA3
    have k1 : w4.cell? ⟨g, 1, none⟩ = some (.slice B l.length d) := (cell_of_row w4 g 1 _ _ _ hg4').trans rfl
    have k00 : w4.cell? ⟨g, 0, none⟩ = some (.slice A3 (l.length + 1) c3) := (cell_of_row w4 g 0 _ _ _ hg4').trans rfl
    have hgl4 : g < w4.heap.size := (Array.getElem?_eq_some_iff.1 hg4').1
    have hz4 : w'.heap.size < w4.heap.size := by rw [hs4]; exact hz3
    clear hs4 hg4 hg4' f4 f3 hown3 hown4 hrd4 hA3 hw4 h3 hg3 hb3 hgw k0 z0 hown0 hsz0 hz3
    obtain ⟨i0, hi0, hz0, hz1, hz2⟩ := info_parts str_info
    have hown5 : (w4.drew.alloc (.cells #[.string (strOf bs)] 9)).ownsRow 0 9 1 (.slice B l.length d) l.length (l.map fun k => .string (strOf k.2)) := own_below (show w4.drew.ownsRow _ _ _ _ _ _ from HO4.out) (alloc_below _ _)
    have z1 : w4.frozen? ⟨g, 1, none⟩ = false := frozen_of_row w4 g 1 _ _ HG4.out
    have hstr := run_str w4.drew v bs (show RdP w4.drew P 1 v bs.length (bs.map bv) from HV4.out)
    go_region_law (first
      | (refine step_val (by rfl) (.string (strOf bs)) (exec_str (.tmp 33) (by rfl) _ bs (show RdP w4.drew _ _ _ _ _ from HV4.out) (by rfl)) ?_)
      | (refine step_append_lies _ (by rfl) _ _ _ (by rfl) 0 9 i0 _ 1 16 Try.underlying49 hi0 hz0 hz1 hz2 rfl (by omega) (.slice B l.length d) l.length _ (by rfl) hown5 ⟨w4.heap.size, 0, none⟩ 1 1 [.string (strOf bs)] (by rfl) (by rfl) (World.news_of_block (cs := #[.string (strOf bs)]) (t := 9) (fr := (0, 0)) (heap_alloc_new w4.drew _)) (by simp [Value.oneCell'])
           (by omega) (by unfold maxLen; omega) (by omega) (by omega) (w4.heap.size + 1) (by simp) ?_; intro gg cap w6 h6 hg6 hat hlt'; have hgw := (hg6.block g (by simp; omega) (fun he => ((H6.out g he.symm).2.1 rfl))).trans (((alloc_below w4.drew (.cells #[.string (strOf bs)] 9)).block g hgl4).trans (show w4.drew.heap[g]? = _ from HG4.out)); have k2 : w6.cell? ⟨g, 0, none⟩ = some (.slice A3 (l.length + 1) c3) := (cell_of_row w6 g 0 _ _ _ hgw).trans rfl; have k3 : w6.cell? ⟨g, 1, none⟩ = some (.slice B l.length d) := (cell_of_row w6 g 1 _ _ _ hgw).trans rfl; have z3 := frozen_of_row w6 g 1 _ _ hgw))
    all_goals
      go_wp2_with fail
      go_ret
      obtain ⟨r1, r2⟩ := nr_fin H4.out (fun b hb => ⟨(H6.out b hb).1, (H6.out b hb).2.1⟩) hz4 hgl HA3.out HO3.out HF4.out hgw hg6 h6 hat hlt'
      exact ⟨by first | rfl | simp, r1, r2⟩
end Go.Proofs.Ytnlnkcljehafkaa
