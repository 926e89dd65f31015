/- The example of the document's chapter 6. Messages in cells; what a call that parses returns, both ways in one. The law of phases over another class of worlds: what is changed lies in a set of blocks. -/
import Derived.Test.YtadpkjgjciodnaaGreatOpVi
import Derived.Test.YtadpkjgjciodnaaGreatFhVi
import Derived.Test.YtadpkjgjciodnaaGreatJ14Vi
import Derived.Test.YtadpkjgjciodnaaGreatMsameVi
import Derived.Test.YtadpkjgjciodnaaGreatMqVi
import Derived.Test.YtadpkjgjciodnaaGreatGfVi
import Derived.Test.YtadpkjgjciodnaaGreatGeVi
import Derived.Test.YtadpkjgjciodnaaGreatJ21Vi
import Derived.ChangeSame
import Derived.Test.YtadpkjgjciodnaaGreatPhaseVi
import Derived.Test.YtadpkjgjciodnaaGreatGbVi
section
namespace Go.Proofs.YtadpkjgjciodnaaGreat
open Go.RowKit
set_option linter.unusedVariables false
set_option linter.unusedSimpArgs false

/-- What an envelope that was sealed opens as. -/
theorem open_back {m : Psp.Msg} {s f cl : Int} {K : List Key} (h : Psp.okB m = true) (hs : okE s (Psp.encM m) = true) :
    openM (Psp.encN s ++ Psp.encM m) f cl K = if (Psp.formM m f cl && chkB K (kM m) s) = true then some (m, s) else none := by
  unfold okE at hs
  rw [Bool.and_eq_true, decide_eq_true_eq] at hs
  rw [open_short (by rw [List.length_append]; exact hs.2), codec_N.back hs.1]
  simp only [Option.bind_some, Int.toNat_natCast, List.drop_left, Psp.parse_back h]
  rfl
theorem open_form {m : Psp.Msg} {s f cl : Int} (h : Psp.okB m = true) (hs : Psp.okN s = true) (hF : FormOk f cl m) :
    ∀ n a m', dN (Psp.encN s ++ Psp.encM m) 0 = some (n, a) → Psp.parseM ((Psp.encN s ++ Psp.encM m).drop a.toNat) = some m' → FormOk f cl m' := by
  intro n a m' h1 h2
  rw [codec_N.back hs] at h1
  injection h1 with h1
  injection h1 with h1 h3
  subst h3
  rw [Int.toNat_natCast, List.drop_left, Psp.parse_back h] at h2
  injection h2 with h2
  subst h2
  exact hF

def mW : Psp.Msg := ⟨6, 2, 1, 0, 0, 0, [], [], [], []⟩
theorem mW_S : Psp.encS 0 = [0] := by
  have h : (Psp.zig 0).toNat = 0 := by decide
  unfold Psp.encS
  rw [h]
  simp [Psp.num]
theorem mW_enc : Psp.encM mW = [6, 2, 1, 0, 0, 0, 0, 0, 0, 0] := by
  unfold Psp.encM mW
  simp only [mW_S, Psp.encL, List.flatMap_nil, List.length_nil, List.append_nil]
  simp [Psp.encN, Psp.num]
theorem mW_ok : Psp.okB mW = true := by
  unfold Psp.okB
  rw [mW_enc]
  decide
theorem mW_form : Psp.formM mW 1 1 = true := by decide
theorem mW_num : sealN [] (kM mW) = 1 := by simp [sealN]
theorem mW_okE : okE 1 (Psp.encM mW) = true := by
  unfold okE
  rw [mW_enc]
  simp [Psp.encN, Psp.num]
  decide
theorem mW_okS : okS [] mW = true := by
  unfold okS
  rw [mW_ok, mW_num, mW_okE]
  rfl
theorem mW_K : sealK [] mW = [kM mW] := by
  unfold sealK
  rw [mW_ok]
  simp [sealL]
theorem mW_open : openM (Psp.encN 1 ++ Psp.encM mW) 1 1 [kM mW] = some (mW, 1) := by
  rw [open_back mW_ok mW_okE, mW_form]
  simp [chkB, num]
theorem mW_FormOk : FormOk 1 1 mW := fun vb vo vc vp w P hx hw => form_6 mW vb vo vc vp 1 1 w P hx hw (by decide) rfl

set_option maxRecDepth 100000 in
set_option maxHeartbeats 1000000 in
theorem wakes06 (w : World) : Calls Tryz.prog 16 #[] w fun e w' => e = .returned (.bool true) ∧ Below w.heap.size w w' := by
  go_enter Tryz.func16, Tryz.ntmps16
  go_wp2_with fail
  refine (parse_m [] _ w ⟨rfl, _, 0, rfl, Nat.le_refl _, Nat.zero_le _, fun h => absurd h (by simp)⟩).mono ?_
  rintro e w1 ⟨_, g2, g3⟩
  obtain rfl := g2 rfl
  have HB1 := Lib.hid g3
  clear g2 g3
  go_wp2_with fail
  have HB2 := Lib.hid (HB1.out.trans ((alloc_below w1 (.cells zs 41)).mono HB1.out.size))
  refine (nt_new _).mono ?_
  rintro e w2 ⟨g, bm, rfl, hN, hb2, hg1, hg2⟩
  have HB3 := Lib.hid (Below.then HB2.out hb2 HB2.out.size)
  have HN := Lib.hid hN
  have hz1 := HB1.out.size
  have hlg := hN.lt
  have hg3 : w.heap.size ≤ bm := by have h := hg2; simp at h; omega
  clear hN hb2 hg1 hg2 HB2
  go_wp2_with fail
  refine (seal_m mW (.slice none 0 0) (.slice none 0 0) (.slice none 0 0) (.slice none 0 0) g bm [] w2 ⟨RdP.none_, RdP.none_, RdC.nil, RdA.nil⟩ ⟨by decide, by decide⟩ HN.out (by simp)).mono ?_
  rintro e w3 ⟨v, rfl, hown, hN3, hf3⟩
  rw [mW_okS, mW_num] at hown
  rw [mW_okS]
  rw [mW_K] at hN3
  have HO := Lib.hid (RdP.of_own hown)
  have HN3 := Lib.hid hN3
  have HB4 := Lib.hid (HB3.out.trans (hf3.to_below (B := w.heap.size) HB3.out.size fun k hk hh => by omega))
  clear hown hN3 hf3 HN HB3
  go_wp2_with fail
  refine (open_m (Psp.encN 1 ++ Psp.encM mW) v 1 1 g bm [kM mW] w3 (HO.out.mono fun b hb hh => hb) HN3.out (open_form mW_ok (by decide) mW_FormOk)).mono ?_
  rintro e w4 ⟨h1, _, h3⟩
  obtain ⟨vb, vo, vc, vp, rfl, hm⟩ := h1 _ _ mW_open
  have HB5 := Lib.hid (Below.then HB4.out h3 HB4.out.size)
  obtain ⟨Ab, Ao, Ac, Ap, cb, co, cc, cp, rfl, rfl, rfl, rfl⟩ := msg_slices hm
  clear h1 h3 hm HO HN3 HB4
  go_wp2_with fail
  go_ret
  exact ⟨rfl, by first | exact HB5.out | exact HB5.out.trans ((alloc_below _ _).mono HB5.out.size)⟩
end Go.Proofs.YtadpkjgjciodnaaGreat
end
section
namespace Go.Proofs.YtadpkjgjciodnaaGreat
open Go.RowKit
set_option linter.unusedVariables false
set_option linter.unusedSimpArgs false

theorem box_below {W W' : World} {g : Nat} {o : Obj} {B : Nat} (h : W.heap[g]? = some o) (hb : Below B W W') (hB : W.heap.size ≤ B) : W'.heap[g]? = some o :=
  (hb.block g (Nat.lt_of_lt_of_le (Array.getElem?_eq_some_iff.1 h).1 hB)).trans h

theorem TakenM.any {b : List UInt8} {w w' : World} {e : Ending} (h : TakenM b w e w') : ∃ (m : Psp.Msg) (Ab Ao Ac Ap : Option Addr) (cb co cc cp : Nat),
    e = .returned (.tuple #[.agg #[.int .i64 m.k, .int .i64 m.f, .int .i64 m.v, .int .i64 m.i, .int .i64 m.q, .int .i64 m.r, .slice Ab m.b.length cb, .slice Ao m.o.length co, .slice Ac m.c.length cc, .slice Ap m.p.length cp], .bool (Psp.parseM b).isSome]) ∧
    MsgOk w' (fun k => w.heap.size ≤ k) ⟨m, .slice Ab m.b.length cb, .slice Ao m.o.length co, .slice Ac m.c.length cc, .slice Ap m.p.length cp⟩ ∧ (Psp.parseM b).getD zM = m ∧ Below w.heap.size w w' := by
  obtain ⟨h1, h2, h3⟩ := h
  cases hp : Psp.parseM b with
  | none => exact ⟨zM, none, none, none, none, 0, 0, 0, 0, h2 hp, zM_ok, rfl, h3⟩
  | some m =>
    obtain ⟨vb, vo, vc, vp, he, hm⟩ := h1 m hp
    obtain ⟨Ab, Ao, Ac, Ap, cb, co, cc, cp, rfl, rfl, rfl, rfl⟩ := msg_slices hm
    exact ⟨m, Ab, Ao, Ac, Ap, cb, co, cc, cp, he, hm, rfl, h3⟩
theorem msg_same_yes (a b : Psp.Msg) (ab ao ac ap bb bo bc bp : Value) (w : World) (P Q : Nat → Prop) (hx : MsgOk w P ⟨a, ab, ao, ac, ap⟩) (hy : MsgOk w Q ⟨b, bb, bo, bc, bp⟩) (h : a = b) :
    Calls Tryz.prog 17 #[.agg #[.int .i64 a.k, .int .i64 a.f, .int .i64 a.v, .int .i64 a.i, .int .i64 a.q, .int .i64 a.r, ab, ao, ac, ap], .agg #[.int .i64 b.k, .int .i64 b.f, .int .i64 b.v, .int .i64 b.i, .int .i64 b.q, .int .i64 b.r, bb, bo, bc, bp]] w fun e w' => e = .returned (.bool true) ∧ Below w.heap.size w w' := by
  have := msg_same a b ab ao ac ap bb bo bc bp w P Q hx hy
  rwa [decide_eq_true h] at this
end Go.Proofs.YtadpkjgjciodnaaGreat
end
section
namespace Go.Proofs.YtadpkjgjciodnaaGreat
open Go.RowKit
set_option linter.unusedVariables false
set_option linter.unusedSimpArgs false

/-- A world that has come of w: but for the blocks of T what was there is as it was. -/
structure LaterF (w : World) (T : Nat → Prop) where
  W : World
  h : Fp T w W
instance (w : World) (T : Nat → Prop) : Nonempty (LaterF w T) := ⟨⟨w, Fp.refl _ _⟩⟩
theorem laterF_cell {w : World} {T : Nat → Prop} {b o : Nat} {v : Value} (h : w.cell? ⟨b, o, none⟩ = some v) (hT : ¬ T b) : ∀ p : LaterF w T, p.W.cell? ⟨b, o, none⟩ = some v :=
  fun p => by
    have hb := p.h.block b (World.block_lt_of_cell? w ⟨b, o, none⟩ h) hT
    unfold World.cell? at h ⊢
    simp only at h ⊢
    rw [hb]; exact h

section
variable {P : Program} {ops : Array Oper} {md : Region.Mode}

def phS (P : Program) (l : List Oper) (S : World → Prop) (E : Act → World → Prop) : List (Bool × Nat) → Act → World → Prop
  | [], a, w => E a w
  | (true, i) :: t, a, w => wpQuiet P l.toArray S (fun a' => phS P l S E t a' w) (l[i]?).toList a
  | (false, i) :: t, a, w => wpList P l.toArray (thenN fun a' w' => S w' ∧ phS P l S E t a' w') (l[i]?).toList a w

theorem phAny.walkS {l : List Oper} {S : World → Prop} {E : Act → World → Prop} {fin : Array Bool → Bool} {fl : List Nat} (hsel : Region.noSelect l.toArray = true)
    (hfin : ∀ listed, fin listed = true → ∀ j ∈ Region.ready md l.toArray listed, j ∉ fl)
    :
    ∀ (t : List (Bool × Nat)) (listed : Array Bool) (a : Act) (w : World), (∀ p ∈ t, p.2 ∈ fl ∧ (p.1 = true → ∀ j, j < l.toArray.size → j ∉ fl → j ∈ waitAcc md p.2 l.toArray.toList 0 [])) → closedL md l.toArray listed →
      phB md l fin t listed = true → S w → phS P l S E t a w →
      phAny P md l.toArray S fl (fun listed a w => fin listed = true ∧ E a w) t.length listed a w
  | [], listed, a, w, _, _, hB, _, h => ⟨by simpa [phB] using hB, h⟩
  | (true, i) :: t, listed, a, w, hp, hcl, hB, hS, h => by
    simp only [phB, Bool.and_eq_true] at hB
    obtain ⟨⟨⟨ho, hr⟩, hf⟩, hB'⟩ := hB
    have hr' : i ∈ Region.ready md l.toArray listed := by simpa using hr
    obtain ⟨_, o, hoi, _⟩ := mem_ready.1 hr'
    have hol : l[i]? = some o := by simpa using hoi
    rw [hol] at ho
    have h' : wpQuiet P l.toArray S (fun a' => phS P l S E t a' w) [o] a := by
      have := h
      unfold phS at this
      rw [hol] at this
      exact this
    obtain ⟨v, hy, hK⟩ := yields_of_quiet (i := i) (by simpa using ho) h'
    obtain ⟨h1, h2⟩ := hp (true, i) List.mem_cons_self
    exact phAny.first hoi (Region.noSelect_spec hsel) h1 (h2 rfl) (fun listed a w hL => hfin listed hL.1) _ _ _ _ hcl (Region.free_spec hoi hf) hr' hy hS
      (phAny.walkS hsel hfin t _ _ _ (fun p hpt => hp p (by simp [hpt])) (hcl.set hr') hB' hS hK)
  | (false, i) :: t, listed, a, w, hp, hcl, hB, hS, h => by
    simp only [phB, Bool.and_eq_true, decide_eq_true_eq] at hB
    refine ⟨by rw [hB.1]; simp, fun j hj => ?_⟩
    rw [hB.1] at hj
    have hji : j = i := by simpa using hj
    subst hji
    refine ⟨(hp (false, j) List.mem_cons_self).1, ?_⟩
    have hr' : j ∈ Region.ready md l.toArray listed := by rw [hB.1]; simp
    obtain ⟨_, o, hoi, _⟩ := mem_ready.1 hr'
    have hol : l[j]? = some o := by simpa using hoi
    have h' : wpList P l.toArray (thenN fun a' w' => S w' ∧ phS P l S E t a' w') [o] a w := by
      have := h
      unfold phS at this
      rw [hol] at this
      exact this
    have h2 : wpOp P l.toArray noQ j (fun a' w' => S w' ∧ phS P l S E t a' w') a w := by
      unfold wpOp
      simp only [hoi]
      unfold wpList at h'
      split
      · rename_i hwt
        rw [if_pos hwt] at h'
        rcases h' with h' | ⟨_, _, _, h'⟩
        · exact .inl (wp_thenN (Oper.wp_mono (fun a w h => h) h'))
        · exact absurd h' id
      · rename_i hwt
        rw [if_neg hwt] at h'
        exact h'
    exact wpOp_mono (fun a' w' h3 => ⟨h3.1, phAny.walkS hsel hfin t _ _ _ (fun p hpt => hp p (by simp [hpt])) (hcl.set hr') hB.2 h3.1 h3.2⟩) h2


/-- Those of the list, then the others in the order of the text: S holds behind each of the list. -/
theorem wp_region_phasesS {id : Nat} {Q : Exit → Act → World → Prop} {a : Act} {w : World} {l : List Oper} (S : World → Prop) (sch : List (Bool × Nat)) (hm : P.follows .mixedOrders = true) (hB : phaseB .any l sch = true)
    (hS : S w.drew) (h : phS P l S (fun a' w' => wpList P l.toArray Q (l.drop sch.length) a' w') sch a w.drew) : (Code.region id l.toArray true).wp P Q a w := by
  simp only [phaseB, Bool.and_eq_true, decide_eq_true_eq] at hB
  obtain ⟨⟨⟨hsel, hle⟩, hw⟩, hP⟩ := hB
  have H := phAny.walkS (md := .any) (fin := tailB .any l sch) (fl := sch.map (·.2)) hsel (fun listed hf j hj => by
      simp only [tailB, Bool.and_eq_true] at hf
      intro hm
      have h1 := seqB_ready hf.1 j hj
      have h2 := of_decide_eq_true (List.all_eq_true.1 hf.2 j hm)
      omega) sch _ a w.drew (phaseList hw) (closedL.start _) hP hS h
  refine wp_region_any hm ?_
  have hsz : l.toArray.size = l.length := by simp
  have := phAny.any (Q := Q) (g := l.length - sch.length) (fun listed a' w' hL => by
    have h1 := hL.1
    simp only [tailB, Bool.and_eq_true] at h1
    have hdl : (l.drop sch.length).length = l.length - sch.length := by simp
    have := wpAny_of_seq (md := .any) (Q' := Q) (l.drop sch.length) sch.length listed a' w' (fun j => by simp [List.getElem?_drop]) (by rw [hdl]; exact h1.1) hL.2
    rwa [hdl] at this) _ _ _ _ H
  rw [show sch.length + (l.length - sch.length) = l.toArray.size by rw [hsz]; omega, ← hsz] at this
  exact this


theorem wp_region_phasesF {id : Nat} {Q : Exit → Act → World → Prop} {a : Act} {w : World} {l : List Oper} (T : Nat → Prop) (sch : List (Bool × Nat)) (hm : P.follows .mixedOrders = true) (hB : phaseB .any l sch = true)
    (h : phS P l (fun w' => ∃ p : LaterF w.drew T, w' = p.W) (fun a' w' => wpList P l.toArray Q (l.drop sch.length) a' w') sch a w.drew) : (Code.region id l.toArray true).wp P Q a w :=
  wp_region_phasesS _ sch hm hB ⟨⟨w.drew, Fp.refl _ _⟩, rfl⟩ h
end
end Go.Proofs.YtadpkjgjciodnaaGreat
end
