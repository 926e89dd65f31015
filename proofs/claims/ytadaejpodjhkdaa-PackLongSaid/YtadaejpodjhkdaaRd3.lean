/- A reader's lists: taken of requests, of votes. Printed by gen_rd3.py. -/
import Derived.Test.YtadaejpodjhkdaaRd2
namespace Psp
open Go.Proofs.Ytadaejpodjhkdaa
/-- Where xs of n have been taken, o' is the place. -/
structure Many {α : Type} (d : Dec α) (b : List UInt8) (n : Nat) (o1 : Option Int) (xs : List α) (o' : Option Int) : Prop where
  no : o' = none → o1.bind (dMany d b n) = none
  yes : ∀ a', o' = some a' → o1.bind (dMany d b n) = (dMany d b (n - xs.length) a').map fun q => (xs ++ q.1, q.2)
section
variable {α : Type} {d : Dec α} {b : List UInt8} {n : Nat} {o1 o' : Option Int} {xs : List α}
theorem Many.start : Many d b n o1 [] o1 := by
  refine ⟨fun h => by rw [h]; rfl, fun a' h => ?_⟩
  rw [h]
  simp
theorem Many.step {a' : Int} {y : α} (h : Many d b n o1 xs (some a')) (hk : xs.length < n) (hy : Is d b (some a') y) : Many d b n o1 (xs ++ [y]) (nxt d b (some a')) := by
  have h1 := h.yes a' rfl
  obtain ⟨m, hm⟩ : ∃ m, n - xs.length = m + 1 := ⟨n - xs.length - 1, by omega⟩
  rw [hm] at h1
  have hm2 : n - (xs ++ [y]).length = m := by rw [List.length_append, List.length_singleton]; omega
  cases hd : d b a' with
  | none =>
    rw [nxt_no hd]
    refine ⟨fun _ => ?_, fun a hc => by cases hc⟩
    rw [h1]; simp [dMany, hd]
  | some p =>
    obtain ⟨z, c⟩ := p
    have : y = z := hy (z, c) (by simp [hd])
    subst this
    rw [nxt_yes hd]
    refine ⟨(fun hc => by cases hc), fun a hc => ?_⟩
    injection hc with hc
    subst hc
    rw [h1, hm2]
    simp [dMany, hd, Option.map_map]
    cases dMany d b m c <;> simp
theorem Many.done {a' : Int} (h : Many d b n o1 xs (some a')) (hk : xs.length = n) : o1.bind (dMany d b n) = some (xs, a') := by
  rw [h.yes a' rfl, hk, Nat.sub_self]
  simp [dMany]
theorem dL_of {o : Option Int} {m : Int} (hn : Is dN b o m) (h : m ≤ 256) : o.bind (dL d b) = (nxt dN b o).bind (dMany d b m.toNat) := by
  cases o with
  | none => rfl
  | some a =>
    cases hd : dN b a with
    | none => simp [dL, hd, nxt]
    | some p =>
      have := hn p (by simp [hd])
      subst this
      simp [dL, hd, nxt, h]
theorem dL_big {o : Option Int} {m : Int} (hn : Is dN b o m) (h : 256 < m) : o.bind (dL d b) = none := by
  cases o with
  | none => rfl
  | some a =>
    cases hd : dN b a with
    | none => simp [dL, hd]
    | some p =>
      have := hn p (by simp [hd])
      subst this
      simp [dL, hd]
      omega
theorem nxt_of {α : Type} {d : Dec α} {o : Option Int} {x : α} {a : Int} (h : o.bind (d b) = some (x, a)) : nxt d b o = some a ∧ Is d b o x := ⟨by unfold nxt; rw [h]; rfl, fun p hp => by rw [h] at hp; injection hp with hp; rw [← hp]⟩
theorem nxt_not {α : Type} {d : Dec α} {o : Option Int} (h : o.bind (d b) = none) : nxt d b o = none ∧ ∀ x, Is d b o x := ⟨by unfold nxt; rw [h]; rfl, fun x p hp => by rw [h] at hp; cases hp⟩
end
end Psp
namespace Go.Proofs.Ytadaejpodjhkdaa
open Go.RowKit
set_option linter.unusedVariables false

/-- What a call that reads a list leaves behind. RD: how the list reads in memory. -/
def TookL (RT : TypeId) {α : Type} (d : Psp.Dec α) (RD : World → (Nat → Prop) → Value → List α → Prop) (b : List UInt8) (x : Value) (g : Nat) (o : Option Int) (w : World) (e : Ending) (w' : World) : Prop :=
  ∃ (v : Value) (l : List α), e = .returned v ∧ RD w' (fun k => w.heap.size ≤ k) v l ∧ Psp.Is (Psp.dL d) b o l ∧ Rs RT w' g x (Psp.nxt (Psp.dL d) b o) ∧ Fp (fun k => k = g) w w'
def RdR (w : World) (P : Nat → Prop) (v : Value) (l : List Psp.Req) : Prop := RdP w P 6 v l.length (l.flatMap rq)
def RdV (w : World) (P : Nat → Prop) (v : Value) (l : List Psp.Vote) : Prop := RdP w P 2 v l.length (l.flatMap vt)
theorem nil_R (w : World) (P : Nat → Prop) : RdR w P (.slice none 0 0) [] := RdP.none_
theorem nil_V (w : World) (P : Nat → Prop) : RdV w P (.slice none 0 0) [] := RdP.none_
theorem nil_C (w : World) (P : Nat → Prop) : RdC w P (.slice none 0 0) [] := ⟨[], rfl, RdP.none_, fun x hx => by cases hx⟩
theorem nil_A (w : World) (P : Nat → Prop) : RdA w P (.slice none 0 0) [] := ⟨[], rfl, RdP.none_, fun x hx => by cases hx⟩
theorem zeroV (t : Psp.Vote) : (Try.prog.info? 43).map (fun i => (i.zero.map (·.cells.size), i.size)) = some (some (vt t).length, (vt t).length) := by
  show _ = some (some 2, 2)
  kernel_rfl
theorem zeroR (t : Psp.Req) : (Try.prog.info? 31).map (fun i => (i.zero.map (·.cells.size), i.size)) = some (some (rq t).length, (rq t).length) := by
  show _ = some (some 6, 6)
  kernel_rfl
def lenOf : Value → Nat | .slice _ n _ => n | _ => 0
theorem votE : Elem Try.prog 36 43 2 16 := ⟨Try.underlying36, by kernel_rfl, by decide⟩

/-- What the loop keeps. -/
structure TInvV (b : List UInt8) (x : Value) (g : Nat) (o o1 : Option Int) (n : Nat) (w w' : World) (out : Value) (xs : List Psp.Vote) (o' : Option Int) : Prop where
  n256 : n ≤ 256
  le : xs.length ≤ n
  own : w'.ownsRow w.heap.size 43 2 out xs.length (xs.flatMap vt)
  many : Psp.Many Psp.dV b n o1 (xs) o'
  rs : Rs 102 w' g x o'
  fp : Fp (fun k => k = g) w w'
/-- How the rounds of taken go: to the end, or to the next round. -/
def TJV (b : List UInt8) (x : Value) (g : Nat) (o o1 : Option Int) (n : Nat) (w : World) (lab : Nat) (a' : Act) (w' : World) : Prop :=
  (lab = 0 ∧ o.bind (Psp.dL Psp.dV b) = none ∧ Fp (fun k => k = g) w w' ∧ (∃ o', Rs 102 w' g x o') ∧ ∃ u1 u2 u3 u5 u6 u7 u8 u9 u10 u11 u12 u13 u14 u15 u16 u17 u18 u19 u20 u21 u22 u23 u24 u25 u26 u27 u28 : Value, a' = { tmps := #[.pointer (some ⟨g, 0, none⟩), u1, u2, u3, .slice none 0 0, u5, u6, u7, u8, u9, u10, u11, u12, u13, u14, u15, u16, u17, u18, u19, u20, u21, u22, u23, u24, u25, u26, u27, u28], defers := [] }) ∨
  (lab = 1 ∧ ∃ (out : Value) (xs : List Psp.Vote) (o' : Option Int), TInvV b x g o o1 n w w' out xs o' ∧ ∃ u2 u3 u7 u8 u9 u10 u11 u12 u13 u14 u15 u16 u17 u18 u19 u20 u21 u22 u23 u24 u25 u26 u27 u28 : Value, a' = { tmps := #[.pointer (some ⟨g, 0, none⟩), .func (.func 53) #[] #[], u2, u3, .slice none 0 0, out, .int .i64 (n : Int), u7, u8, u9, u10, u11, u12, u13, u14, u15, u16, u17, u18, u19, u20, u21, u22, u23, u24, u25, u26, u27, u28], defers := [] })

theorem TInvV.next {b : List UInt8} {x : Value} {g : Nat} {o o1 : Option Int} {n m c5 : Nat} {w w' w1 w2 : World} {A5 : Option Addr} {xs : List Psp.Vote} {a : Int} {t : Psp.Vote} {v' : Value} (h : TInvV b x g o o1 n w w' (.slice A5 m c5) xs (some a))
    (hm : xs.length = m) (hlt : m < n) (h3 : Psp.Is Psp.dV b (some a) t) (h4 : Rs 102 w1 g x (Psp.nxt Psp.dV b (some a))) (h5 : Fp (fun k => k = g) w' w1) (hg : g < w.heap.size) (hown1 : w1.ownsRow w.heap.size 43 2 (.slice A5 m c5) m (xs.flatMap vt))
    (hown2 : w2.ownsRow w.heap.size 43 2 v' (m + 1) (xs.flatMap vt ++ (vt t).toArray.toList)) (hg2 : w1.grownBy w2 (Value.slice A5 m c5).ownBlock) (hv2 : v'.ownBlock = (Value.slice A5 m c5).ownBlock ∨ v'.ownBlock = some (w1.heap.size + 1)) :
    TInvV b x g o o1 n w w2 v' (xs ++ [t]) (Psp.nxt Psp.dV b (some a)) := by
  have hz := h.fp.size
  have hz1 := h5.size
  have hgo : (Value.slice A5 m c5).ownBlock ≠ some g := fun he => by have := (hown1.lt g he).1; omega
  refine ⟨h.n256, by rw [List.length_append]; simp; omega, ?_, h.many.step (by omega) h3, h4.keep (hg2.block g (by omega) (fun he => hgo he.symm)), (h.fp.trans h5 fun k hk => Or.inl hk).grown hg2 fun k hk => Or.inr (hown1.lt k hk).1⟩
  rw [List.length_append, List.flatMap_append, hm]
  simpa using hown2

set_option maxRecDepth 100000 in
set_option maxHeartbeats 2000000 in
theorem rd_takenV (b : List UInt8) (x : Value) (g : Nat) (o : Option Int) (w : World) (hx : RdP w (fun k => k ≠ g) 1 x b.length (b.map bv)) (hR : Rs 102 w g x o) :
    Calls Try.prog 73 #[.pointer (some ⟨g, 0, none⟩), .func (.func 53) #[] #[]] w (TookL 102 Psp.dV RdV b x g o w) := by
  have HX := Lib.hid hx
  have HR := Lib.hid hR
  have hg := hR.lt
  clear hx hR
  go_enter Try.func73, Try.ntmps73
  go_wp2_with fail
  refine wp_scope_hops (fun lab a' w' => ∃ n : Nat, Psp.Is dN b o (n : Int) ∧ TJV b x g o (Psp.nxt dN b o) n w lab a' w') (fun lab a' _ => if lab = 0 then 0 else 300 - lenOf (a'.tmps.getD 5 undef)) ?_ ?_
  · rintro lab a' w' ⟨n, hn, ⟨rfl, hnone, hF, ⟨o', hrs⟩, u1, u2, u3, u5, u6, u7, u8, u9, u10, u11, u12, u13, u14, u15, u16, u17, u18, u19, u20, u21, u22, u23, u24, u25, u26, u27, u28, rfl⟩ | ⟨rfl, out, xs, o', hI, u2, u3, u7, u8, u9, u10, u11, u12, u13, u14, u15, u16, u17, u18, u19, u20, u21, u22, u23, u24, u25, u26, u27, u28, rfl⟩⟩
    · refine ⟨_, rfl, ?_⟩
      obtain ⟨a, bad, k0, k1, k2, z1, z2, _, _, _⟩ := hrs.cells
      have Hrs := Lib.hid hrs
      have HF := Lib.hid hF
      have Hno := Lib.hid hnone
      clear hrs hF hnone hn k0 k1 z1
      go_wp2_with fail
      go_ret
      obtain ⟨f1, f2⟩ := Hrs.out.fail
      obtain ⟨q1, q2⟩ := Psp.nxt_not Hno.out
      exact ⟨_, [], rfl, nil_V _ _, q2 _, by rw [q1]; exact f1, HF.out.trans f2 fun k hk => Or.inl hk⟩
    · refine ⟨_, rfl, ?_⟩
      obtain ⟨A5, c5, e5, _, _, _⟩ := own_slice hI.own
      subst e5
      obtain ⟨a, bad, k0, k1, k2, z1, z2, _, hs, hnn⟩ := hI.rs.cells
      have hle := hI.le
      have h256 := hI.n256
      have HI := Lib.hid hI
      have Hn := Lib.hid hn
      cases o' with
      | none =>
        have hbad := hnn rfl
        subst hbad
        have hdn : o.bind (Psp.dL Psp.dV b) = none := by
          rw [Psp.dL_of Hn.out (by omega), Int.toNat_natCast]
          exact HI.out.many.no rfl
        have Hdn := Lib.hid hdn
        clear hI hn hs hnn hdn k0 k1 z1
        go_wp2_with fail
        go_step3
        exact ⟨⟨n, Hn.out, .inl ⟨rfl, Hdn.out, HI.out.fp, ⟨_, HI.out.rs⟩, _, _, _, _, _, _, _, _, _, _, _, _, _, _, _, _, _, _, _, _, _, _, _, _, _, _, _, rfl⟩⟩, by simp [lenOf]; omega⟩
      | some p =>
        obtain ⟨hap, hbad⟩ := hs p rfl
        subst hap hbad
        clear hI hn hs hnn k0 k1 z1
        by_cases hk : xs.length = n
        · have hkb : ((xs.length : Int) == (n : Int)) = true := by simp; omega
          have hd := Psp.nxt_of ((Psp.dL_of (d := Psp.dV) Hn.out (by omega)).trans (by rw [Int.toNat_natCast]; exact HI.out.many.done hk))
          have Hd := Lib.hid hd
          obtain ⟨m, hm⟩ : ∃ m, xs.length = m := ⟨_, rfl⟩
          have hfin : RdV w' (fun k => w.heap.size ≤ k) (.slice A5 m c5) (xs) := by rw [← hm]; exact (RdP.of_own HI.out.own).mono fun b _ hb => hb.2
          have Hfin := Lib.hid hfin
          clear hfin
          have Hm := Lib.hid hm
          rw [hm] at hkb
          rw [hm]
          clear hd hk hm hle
          go_wp2_with fail
          go_ret
          exact ⟨_, _, rfl, Hfin.out, Hd.out.2, by rw [Hd.out.1]; exact HI.out.rs, HI.out.fp⟩
        · have hkb : ((xs.length : Int) == (n : Int)) = false := by simp; omega
          have hlt : xs.length < n := by omega
          have hz := HI.out.fp.size
          obtain ⟨m, hm⟩ : ∃ m, xs.length = m := ⟨_, rfl⟩
          have Hm := Lib.hid hm
          rw [hm] at hkb hlt HI
          rw [hm]
          clear hk hm hle
          go_wp2_with fail
          refine (rd_vote b x g _ _ (HX.out.fp HI.out.fp (fun k hk => hk)) HI.out.rs).mono ?_
          rintro e w1 ⟨t, rfl, h3, h4, h5⟩
          have hz1 := h5.size
          have hown1 : w1.ownsRow w.heap.size 43 2 (.slice A5 m c5) m (xs.flatMap vt) := by have h := HI.out.own; rw [Hm.out] at h; exact own_keep h fun b hb => h5.block b (HI.out.own.lt b hb).2 (by have := (HI.out.own.lt b hb).1; omega)
          have Hown1 := Lib.hid hown1
          have H3 := Lib.hid h3
          have H4 := Lib.hid h4
          have H5 := Lib.hid h5
          clear hown1 h3 h4 h5
          go_wp2_with (first | (refine list_build1 rfl 36 (.tmp 23) rfl 43 (vt t) rfl Try.underlying36 (zeroV t) (by simp [vt]) (by simp [vt]) ?_) | (at_builtin; refine wpList_app1 votE rfl _ _ rfl w.heap.size _ m _ rfl Hown1.out (vt t).toArray rfl rfl (by simp [vt, iv, Value.oneCell']) (by omega) (by decide) (by omega) ?_; intro v' w2 hown2 hg2 hb2 hv2; have HN := Lib.hid (TInvV.next HI.out Hm.out hlt H3.out H4.out H5.out hg Hown1.out hown2 hg2 hv2); clear hown2 hg2 hb2 hv2; obtain ⟨A6, c6, e6, _, _, _⟩ := own_slice HN.out.own; have E6 := Lib.hid e6; clear e6))
          go_step3
          refine ⟨⟨n, Hn.out, .inr ⟨rfl, _, _, _, HN.out, _, _, _, _, _, _, _, _, _, _, _, _, _, _, _, _, _, _, _, _, _, _, _, _, rfl⟩⟩, ?_⟩
          show 300 - lenOf _ < 300 - _
          rw [show lenOf _ = m + 1 from by rw [E6.out]; simp [lenOf, Hm.out]]
          show 300 - (m + 1) < 300 - m
          omega
  · intro H
    have HH := Lib.hid H
    clear H
    go_wp2_with fail
    refine (rd_number b x g o _ (fun k => k ≠ g) HX.out HR.out).mono ?_
    rintro e w1 ⟨n0, rfl, h1, h2, h3, h4, h5⟩
    obtain ⟨n, rfl⟩ : ∃ n : Nat, n0 = (n : Int) := ⟨n0.toNat, by omega⟩
    have H3 := Lib.hid h3
    have H4 := Lib.hid h4
    have H5 := Lib.hid h5
    clear h3 h4 h5
    by_cases h256 : 256 < n
    · have d1 : decide (256 < (n : Int)) = true := by simp; omega
      go_wp2_with fail
      go_step3
      exact ⟨n, H3.out, .inl ⟨rfl, Psp.dL_big H3.out (by omega), H5.out, ⟨_, H4.out⟩, _, _, _, _, _, _, _, _, _, _, _, _, _, _, _, _, _, _, _, _, _, _, _, _, _, _, _, rfl⟩⟩
    · have d1 : decide (256 < (n : Int)) = false := by simp; omega
      have hst : TInvV b x g o (Psp.nxt dN b o) n w w1 (.slice none 0 0) [] (Psp.nxt dN b o) := ⟨by omega, by simp, World.ownsRow_nil _ _ _ _, Psp.Many.start, H4.out, H5.out⟩
      have Hst := Lib.hid hst
      clear hst
      go_wp2_with fail
      go_step3
      simp only [Exit.then]
      rename_i hK
      refine hK _ _ (HH.out 1 _ _ ⟨n, H3.out, .inr ⟨rfl, _, _, _, Hst.out, _, _, _, _, _, _, _, _, _, _, _, _, _, _, _, _, _, _, _, _, _, _, _, _, rfl⟩⟩ _ rfl)

/-- What the loop keeps. -/
structure TInvR (b : List UInt8) (x : Value) (g : Nat) (o o1 : Option Int) (n : Nat) (w w' : World) (out : Value) (xs : List Psp.Req) (o' : Option Int) : Prop where
  n256 : n ≤ 256
  le : xs.length ≤ n
  own : w'.ownsRow w.heap.size 31 6 out xs.length (xs.flatMap rq)
  many : Psp.Many Psp.dR b n o1 (xs) o'
  rs : Rs 102 w' g x o'
  fp : Fp (fun k => k = g) w w'
/-- How the rounds of taken go: to the end, or to the next round. -/
def TJR (b : List UInt8) (x : Value) (g : Nat) (o o1 : Option Int) (n : Nat) (w : World) (lab : Nat) (a' : Act) (w' : World) : Prop :=
  (lab = 0 ∧ o.bind (Psp.dL Psp.dR b) = none ∧ Fp (fun k => k = g) w w' ∧ (∃ o', Rs 102 w' g x o') ∧ ∃ u1 u2 u3 u5 u6 u7 u8 u9 u10 u11 u12 u13 u14 u15 u16 u17 u18 u19 u20 u21 u22 u23 u24 u25 u26 u27 u28 : Value, a' = { tmps := #[.pointer (some ⟨g, 0, none⟩), u1, u2, u3, .slice none 0 0, u5, u6, u7, u8, u9, u10, u11, u12, u13, u14, u15, u16, u17, u18, u19, u20, u21, u22, u23, u24, u25, u26, u27, u28], defers := [] }) ∨
  (lab = 1 ∧ ∃ (out : Value) (xs : List Psp.Req) (o' : Option Int), TInvR b x g o o1 n w w' out xs o' ∧ ∃ u2 u3 u7 u8 u9 u10 u11 u12 u13 u14 u15 u16 u17 u18 u19 u20 u21 u22 u23 u24 u25 u26 u27 u28 : Value, a' = { tmps := #[.pointer (some ⟨g, 0, none⟩), .func (.func 56) #[] #[], u2, u3, .slice none 0 0, out, .int .i64 (n : Int), u7, u8, u9, u10, u11, u12, u13, u14, u15, u16, u17, u18, u19, u20, u21, u22, u23, u24, u25, u26, u27, u28], defers := [] })

theorem TInvR.next {b : List UInt8} {x : Value} {g : Nat} {o o1 : Option Int} {n m c5 : Nat} {w w' w1 w2 : World} {A5 : Option Addr} {xs : List Psp.Req} {a : Int} {t : Psp.Req} {v' : Value} (h : TInvR b x g o o1 n w w' (.slice A5 m c5) xs (some a))
    (hm : xs.length = m) (hlt : m < n) (h3 : Psp.Is Psp.dR b (some a) t) (h4 : Rs 102 w1 g x (Psp.nxt Psp.dR b (some a))) (h5 : Fp (fun k => k = g) w' w1) (hg : g < w.heap.size) (hown1 : w1.ownsRow w.heap.size 31 6 (.slice A5 m c5) m (xs.flatMap rq))
    (hown2 : w2.ownsRow w.heap.size 31 6 v' (m + 1) (xs.flatMap rq ++ (rq t).toArray.toList)) (hg2 : w1.grownBy w2 (Value.slice A5 m c5).ownBlock) (hv2 : v'.ownBlock = (Value.slice A5 m c5).ownBlock ∨ v'.ownBlock = some (w1.heap.size + 1)) :
    TInvR b x g o o1 n w w2 v' (xs ++ [t]) (Psp.nxt Psp.dR b (some a)) := by
  have hz := h.fp.size
  have hz1 := h5.size
  have hgo : (Value.slice A5 m c5).ownBlock ≠ some g := fun he => by have := (hown1.lt g he).1; omega
  refine ⟨h.n256, by rw [List.length_append]; simp; omega, ?_, h.many.step (by omega) h3, h4.keep (hg2.block g (by omega) (fun he => hgo he.symm)), (h.fp.trans h5 fun k hk => Or.inl hk).grown hg2 fun k hk => Or.inr (hown1.lt k hk).1⟩
  rw [List.length_append, List.flatMap_append, hm]
  simpa using hown2

set_option maxRecDepth 100000 in
set_option maxHeartbeats 2000000 in
theorem rd_takenR (b : List UInt8) (x : Value) (g : Nat) (o : Option Int) (w : World) (hx : RdP w (fun k => k ≠ g) 1 x b.length (b.map bv)) (hR : Rs 102 w g x o) :
    Calls Try.prog 77 #[.pointer (some ⟨g, 0, none⟩), .func (.func 56) #[] #[]] w (TookL 102 Psp.dR RdR b x g o w) := by
  have HX := Lib.hid hx
  have HR := Lib.hid hR
  have hg := hR.lt
  clear hx hR
  go_enter Try.func77, Try.ntmps77
  go_wp2_with fail
  refine wp_scope_hops (fun lab a' w' => ∃ n : Nat, Psp.Is dN b o (n : Int) ∧ TJR b x g o (Psp.nxt dN b o) n w lab a' w') (fun lab a' _ => if lab = 0 then 0 else 300 - lenOf (a'.tmps.getD 5 undef)) ?_ ?_
  · rintro lab a' w' ⟨n, hn, ⟨rfl, hnone, hF, ⟨o', hrs⟩, u1, u2, u3, u5, u6, u7, u8, u9, u10, u11, u12, u13, u14, u15, u16, u17, u18, u19, u20, u21, u22, u23, u24, u25, u26, u27, u28, rfl⟩ | ⟨rfl, out, xs, o', hI, u2, u3, u7, u8, u9, u10, u11, u12, u13, u14, u15, u16, u17, u18, u19, u20, u21, u22, u23, u24, u25, u26, u27, u28, rfl⟩⟩
    · refine ⟨_, rfl, ?_⟩
      obtain ⟨a, bad, k0, k1, k2, z1, z2, _, _, _⟩ := hrs.cells
      have Hrs := Lib.hid hrs
      have HF := Lib.hid hF
      have Hno := Lib.hid hnone
      clear hrs hF hnone hn k0 k1 z1
      go_wp2_with fail
      go_ret
      obtain ⟨f1, f2⟩ := Hrs.out.fail
      obtain ⟨q1, q2⟩ := Psp.nxt_not Hno.out
      exact ⟨_, [], rfl, nil_R _ _, q2 _, by rw [q1]; exact f1, HF.out.trans f2 fun k hk => Or.inl hk⟩
    · refine ⟨_, rfl, ?_⟩
      obtain ⟨A5, c5, e5, _, _, _⟩ := own_slice hI.own
      subst e5
      obtain ⟨a, bad, k0, k1, k2, z1, z2, _, hs, hnn⟩ := hI.rs.cells
      have hle := hI.le
      have h256 := hI.n256
      have HI := Lib.hid hI
      have Hn := Lib.hid hn
      cases o' with
      | none =>
        have hbad := hnn rfl
        subst hbad
        have hdn : o.bind (Psp.dL Psp.dR b) = none := by
          rw [Psp.dL_of Hn.out (by omega), Int.toNat_natCast]
          exact HI.out.many.no rfl
        have Hdn := Lib.hid hdn
        clear hI hn hs hnn hdn k0 k1 z1
        go_wp2_with fail
        go_step3
        exact ⟨⟨n, Hn.out, .inl ⟨rfl, Hdn.out, HI.out.fp, ⟨_, HI.out.rs⟩, _, _, _, _, _, _, _, _, _, _, _, _, _, _, _, _, _, _, _, _, _, _, _, _, _, _, _, rfl⟩⟩, by simp [lenOf]; omega⟩
      | some p =>
        obtain ⟨hap, hbad⟩ := hs p rfl
        subst hap hbad
        clear hI hn hs hnn k0 k1 z1
        by_cases hk : xs.length = n
        · have hkb : ((xs.length : Int) == (n : Int)) = true := by simp; omega
          have hd := Psp.nxt_of ((Psp.dL_of (d := Psp.dR) Hn.out (by omega)).trans (by rw [Int.toNat_natCast]; exact HI.out.many.done hk))
          have Hd := Lib.hid hd
          obtain ⟨m, hm⟩ : ∃ m, xs.length = m := ⟨_, rfl⟩
          have hfin : RdR w' (fun k => w.heap.size ≤ k) (.slice A5 m c5) (xs) := by rw [← hm]; exact (RdP.of_own HI.out.own).mono fun b _ hb => hb.2
          have Hfin := Lib.hid hfin
          clear hfin
          have Hm := Lib.hid hm
          rw [hm] at hkb
          rw [hm]
          clear hd hk hm hle
          go_wp2_with fail
          go_ret
          exact ⟨_, _, rfl, Hfin.out, Hd.out.2, by rw [Hd.out.1]; exact HI.out.rs, HI.out.fp⟩
        · have hkb : ((xs.length : Int) == (n : Int)) = false := by simp; omega
          have hlt : xs.length < n := by omega
          have hz := HI.out.fp.size
          obtain ⟨m, hm⟩ : ∃ m, xs.length = m := ⟨_, rfl⟩
          have Hm := Lib.hid hm
          rw [hm] at hkb hlt HI
          rw [hm]
          clear hk hm hle
          go_wp2_with fail
          refine (rd_req b x g _ _ (HX.out.fp HI.out.fp (fun k hk => hk)) HI.out.rs).mono ?_
          rintro e w1 ⟨t, rfl, h3, h4, h5⟩
          have hz1 := h5.size
          have hown1 : w1.ownsRow w.heap.size 31 6 (.slice A5 m c5) m (xs.flatMap rq) := by have h := HI.out.own; rw [Hm.out] at h; exact own_keep h fun b hb => h5.block b (HI.out.own.lt b hb).2 (by have := (HI.out.own.lt b hb).1; omega)
          have Hown1 := Lib.hid hown1
          have H3 := Lib.hid h3
          have H4 := Lib.hid h4
          have H5 := Lib.hid h5
          clear hown1 h3 h4 h5
          go_wp2_with (first | (refine list_build1 rfl 22 (.tmp 23) rfl 31 (rq t) rfl Try.underlying22 (zeroR t) (by simp [rq]) (by simp [rq]) ?_) | (at_builtin; refine wpList_app1 reqE rfl _ _ rfl w.heap.size _ m _ rfl Hown1.out (rq t).toArray rfl rfl (by simp [rq, iv, Value.oneCell']) (by omega) (by decide) (by omega) ?_; intro v' w2 hown2 hg2 hb2 hv2; have HN := Lib.hid (TInvR.next HI.out Hm.out hlt H3.out H4.out H5.out hg Hown1.out hown2 hg2 hv2); clear hown2 hg2 hb2 hv2; obtain ⟨A6, c6, e6, _, _, _⟩ := own_slice HN.out.own; have E6 := Lib.hid e6; clear e6))
          go_step3
          refine ⟨⟨n, Hn.out, .inr ⟨rfl, _, _, _, HN.out, _, _, _, _, _, _, _, _, _, _, _, _, _, _, _, _, _, _, _, _, _, _, _, _, rfl⟩⟩, ?_⟩
          show 300 - lenOf _ < 300 - _
          rw [show lenOf _ = m + 1 from by rw [E6.out]; simp [lenOf, Hm.out]]
          show 300 - (m + 1) < 300 - m
          omega
  · intro H
    have HH := Lib.hid H
    clear H
    go_wp2_with fail
    refine (rd_number b x g o _ (fun k => k ≠ g) HX.out HR.out).mono ?_
    rintro e w1 ⟨n0, rfl, h1, h2, h3, h4, h5⟩
    obtain ⟨n, rfl⟩ : ∃ n : Nat, n0 = (n : Int) := ⟨n0.toNat, by omega⟩
    have H3 := Lib.hid h3
    have H4 := Lib.hid h4
    have H5 := Lib.hid h5
    clear h3 h4 h5
    by_cases h256 : 256 < n
    · have d1 : decide (256 < (n : Int)) = true := by simp; omega
      go_wp2_with fail
      go_step3
      exact ⟨n, H3.out, .inl ⟨rfl, Psp.dL_big H3.out (by omega), H5.out, ⟨_, H4.out⟩, _, _, _, _, _, _, _, _, _, _, _, _, _, _, _, _, _, _, _, _, _, _, _, _, _, _, _, rfl⟩⟩
    · have d1 : decide (256 < (n : Int)) = false := by simp; omega
      have hst : TInvR b x g o (Psp.nxt dN b o) n w w1 (.slice none 0 0) [] (Psp.nxt dN b o) := ⟨by omega, by simp, World.ownsRow_nil _ _ _ _, Psp.Many.start, H4.out, H5.out⟩
      have Hst := Lib.hid hst
      clear hst
      go_wp2_with fail
      go_step3
      simp only [Exit.then]
      rename_i hK
      refine hK _ _ (HH.out 1 _ _ ⟨n, H3.out, .inr ⟨rfl, _, _, _, Hst.out, _, _, _, _, _, _, _, _, _, _, _, _, _, _, _, _, _, _, _, _, _, _, _, _, rfl⟩⟩ _ rfl)

end Go.Proofs.Ytadaejpodjhkdaa
