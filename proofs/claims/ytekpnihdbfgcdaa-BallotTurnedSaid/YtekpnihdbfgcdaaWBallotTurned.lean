/- The walk of BallotTurned. -/
import Derived.Test.YtekpnihdbfgcdaaRow
import Derived.Test.YtekpnihdbfgcdaaMeet
import Derived.Test.YtekpnihdbfgcdaaSame
import Derived.Test.YtekpnihdbfgcdaaWakes4
import Derived.BigRegion
import Derived.RegionTactic
namespace Psp
/-- The set s has just the nodes among xs. -/
def SetOf (s : List Bool) (xs : List Int) : Prop := s.length = 13 ∧ ∀ j : Nat, j < 13 → (s.getD j false = true ↔ (j : Int) ∈ xs)
theorem SetOf.start : SetOf (List.replicate 13 false) [] := ⟨rfl, fun j hj => by rw [List.getD_eq_getElem?_getD, List.getElem?_replicate, if_pos hj]; simp⟩
theorem SetOf.put {s : List Bool} {xs ys : List Int} {n : Int} (h : SetOf s xs) (hy : ∀ z, z ∈ ys ↔ z ∈ xs ∨ z = n) : SetOf (Psp.put s n) ys := by
  refine ⟨by rw [put_len, h.1], fun j hj => ?_⟩
  rw [hy]
  have hs := h.1
  have h2 := h.2 j hj
  unfold Psp.put
  by_cases hp : putB s n = true
  · rw [if_pos hp]
    simp only [putB, Bool.and_eq_true, decide_eq_true_eq] at hp
    obtain ⟨h0, h1, _⟩ := hp
    rw [List.getD_eq_getElem?_getD, List.getElem?_set]
    by_cases hjn : n.toNat = j
    · rw [if_pos hjn, if_pos (by omega)]
      have : (j : Int) = n := by omega
      simp [this]
    · rw [if_neg hjn, ← List.getD_eq_getElem?_getD, h2]
      constructor
      · exact Or.inl
      · rintro (h | h)
        · exact h
        · omega
  · rw [if_neg hp, h2]
    constructor
    · exact Or.inl
    · rintro (h3 | h3)
      · exact h3
      · subst h3
        have : putB s (j : Int) = !s.getD j false := by
          unfold putB
          rw [decide_eq_true (by omega : (0 : Int) ≤ j), decide_eq_true (by omega : (j : Int) ≤ 12)]; simp
        rw [this] at hp
        exact h2.1 (by simpa using hp)
theorem SetOf.same {s t : List Bool} {xs ys : List Int} (h : SetOf s xs) (g : SetOf t ys) (e : ∀ z, z ∈ xs ↔ z ∈ ys) : s = t := by
  refine List.ext_getElem (by rw [h.1, g.1]) fun j h1 h2 => ?_
  have hj : j < 13 := by rw [← h.1]; exact h1
  have a := h.2 j hj
  have b := g.2 j hj
  rw [List.getD_eq_getElem?_getD, List.getElem?_eq_getElem h1] at a
  rw [List.getD_eq_getElem?_getD, List.getElem?_eq_getElem h2] at b
  rw [e, ← b] at a
  exact Bool.eq_iff_iff.2 (by simpa using a)
theorem mem_take_succ {l : List Int} {k : Nat} (h : k < l.length) (z : Int) : z ∈ l.take (k + 1) ↔ z ∈ l.take k ∨ z = l[k] := by
  rw [List.take_succ_eq_append_getElem h, List.mem_append, List.mem_singleton]
theorem mem_drop_cons {l : List Int} {k : Nat} (h : k < l.length) (z : Int) : z ∈ l.drop k ↔ z ∈ l.drop (k + 1) ∨ z = l[k] := by
  rw [List.drop_eq_getElem_cons h, List.mem_cons, or_comm]
end Psp
namespace Go.Proofs.Ytekpnihdbfgcdaa.ballotTurned
open Go.RowKit
set_option linter.unusedVariables false

structure Two (w0 wr : World) (sa sb : List Bool) : Prop where
  ba : Bools wr w0.heap.size 31 sa
  bb : Bools wr (w0.heap.size + 1) 31 sb
  bel : Below w0.heap.size w0 wr
theorem Two.start (w : World) : Two w ((w.alloc (.cells (Array.replicate 13 (.bool false)) 31)).alloc (.cells (Array.replicate 13 (.bool false)) 31)) (List.replicate 13 false) (List.replicate 13 false) := by
  refine ⟨?_, ?_, ((Below.refl _ _).alloc (Nat.le_refl _) _).alloc (by simp) _⟩
  · exact (Bools.new w _).keep (heap_alloc_old _ _ (by simp))
  · have := Bools.new (w.alloc (.cells (Array.replicate 13 (.bool false)) 31)) 31
    simpa using this

def votes (ns : List Int) : List (Int × Int) := ns.map fun m => (m, 1)
theorem votes_fst (ns : List Int) : (votes ns).map (·.1) = ns := by
  unfold votes; rw [List.map_map]; simp [Function.comp_def]
theorem votes_len (ns : List Int) : (votes ns).length = ns.length := by simp [votes]
theorem votes_wf {ns : List Int} (h : ∀ m ∈ ns, 0 ≤ m ∧ m < 13) : ∀ x ∈ votes ns, isI64 x.1 ∧ isI64 x.2 := by
  intro x hx
  obtain ⟨m, hm, rfl⟩ := List.mem_map.1 hx
  have := h m hm
  unfold isI64; simp; omega

/-- append of one element, which has just been laid in a block of its own; the operation stands under a guard that lets it by. -/
theorem wpList_app1w {P : Program} {t e : TypeId} {size bytes : Nat} (E : Elem P t e size bytes) {w : World} {ops : Array Oper} {rest : List Oper} {o : Oper} {a : Act} {Q : Exit → Act → World → Prop} (hw : Region.wanted o (yielded ops a.tmps) = true) (s x : Operand)
    (ho : o.op = .call { callee := .builtin .append, args := #[s, x], argTypes := #[t, t] })
    (base : Nat) (v : Value) (n : Nat) (xs : List Value) (hs : a.eval s = v) (hown : w.ownsRow base e size v n xs)
    (cs : Array Value) (hx : a.eval x = .slice (some ⟨w.heap.size, 0, none⟩) 1 1) (hcs : cs.size = size) (h1 : ∀ u ∈ cs.toList, u.oneCell' = true)
    (hn : n ≤ 2147483648) (hbytes : bytes ≤ 65535) (hbase : base ≤ w.heap.size)
    (h : ∀ v' w', w'.ownsRow base e size v' (n + 1) (xs ++ cs.toList) → w.grownBy w' v.ownBlock → Below base w w' → (v'.ownBlock = v.ownBlock ∨ v'.ownBlock = some (w.heap.size + 1)) → wpList P ops Q rest (a.put o.dst v') w') :
    wpList P ops Q (o :: rest) a (w.alloc (.cells cs e)) := by
  have hb : (n + 1) * bytes ≤ 140737488355328 := by
    have h1 : (n + 1) * bytes ≤ 2147483649 * 65535 := Nat.mul_le_mul (by omega) hbytes
    omega
  refine BigFrame.wpList_want hw fun K hK => wp_app E s x ho base v n xs hs (hown.alloc _) (w.heap.size + 1) _ 1 cs.toList hx (Rd.lit w cs e size hcs) h1 (by unfold maxLen; omega) hb (by simp; omega) fun v' w' h2 h3 h4 => hK _ _ ?_
  have h5 : w.grownBy w' v.ownBlock := (World.grownBy_alloc w _ _).trans h3
  refine h v' w' h2 h5 ?_ (by simpa using h4)
  exact (Below.refl base w).grown h5 hbase (fun k hk => (hown.lt k hk).1)

theorem flat_set (a b : Int) : ∀ (l : List (Int × Int)) (i : Nat), i < l.length → ((l.flatMap vv).set (i * 2) (iv a)).set (i * 2 + 1) (iv b) = (l.set i (a, b)).flatMap vv
  | [], i, h => by simp at h
  | x :: l, 0, _ => by simp [vv]
  | x :: l, i + 1, h => by
    have := flat_set a b l i (by simpa using h)
    rw [show (i + 1) * 2 = i * 2 + 2 by omega, List.set_cons_succ, List.flatMap_cons, List.flatMap_cons, ← this]
    simp [vv]
theorem votes_set (ns : List Int) (i : Nat) (m : Int) : (votes ns).set i (m, 1) = votes (ns.set i m) := by
  unfold votes; rw [List.map_set]
theorem Rd.drop1 {w : World} {B n c : Nat} {A : Option Addr} {xs : List Value} (h : Rd w B 2 (.slice A n c) n xs) (hn : 2 ≤ n) : Rd w B 2 (.slice (A.map (·.add 2)) (n - 1) (c - 1)) (n - 1) (xs.drop 2) := by
  obtain ⟨h1, A', c', e, h2, h3, h4⟩ := h
  injection e with e1 e2 e3
  subst e1 e3
  obtain ⟨b, o, rfl, hb, hl⟩ := h4 (by omega)
  exact ⟨by rw [List.length_drop, h1]; omega, _, _, rfl, by omega, by omega, fun _ => ⟨b, o + 2, rfl, hb, hl.drop 2⟩⟩
theorem drop_votes {ns : List Int} (h : 0 < ns.length) : ((votes ns).flatMap vv).drop 2 = (votes (ns.drop 1)).flatMap vv := by
  cases ns with
  | nil => simp at h
  | cons x l => simp [votes, vv]
theorem snoc_cells (ns : List Int) (m : Int) : (votes ns).flatMap vv ++ [iv m, iv 0] = (votes ns ++ [(m, 0)]).flatMap vv := by simp [vv]
theorem snoc_fst (ns : List Int) (m : Int) : List.map (fun v : Int × Int => v.1) (votes ns ++ [(m, 0)]) = ns ++ [m] := by
  rw [List.map_append, votes_fst]; rfl
theorem not_rising_len {l : List Int} {f : Int} (f1 : 1 ≤ f) (f2 : f ≤ 4) (h : (l.length : Int) ≠ 2 * f + 1) : Psp.rising l f = false := by
  have e1 : Psp.quorum f = 2 * f + 1 := by unfold Psp.quorum; rw [if_pos ⟨f1, f2⟩]
  unfold Psp.rising
  rw [e1, decide_eq_false h]; simp
theorem not_rising_up {l : List Int} {f : Int} (h : Psp.upTo (Psp.nodes f) (-1) l = false) : Psp.rising l f = false := by
  unfold Psp.rising
  rw [h]; simp

set_option maxRecDepth 100000 in
set_option maxHeartbeats 2000000 in
theorem walk (a0 : Int) (v1 : Value) (l1 : List Int) (a2 : Int) (w : World) (b0 : isI64 a0) (hr1 : Rd w w.heap.size 1 v1 l1.length (l1.flatMap fun n => [iv n])) (hl1 : ∀ n ∈ l1, isI64 n) (b2 : isI64 a2) :
    Calls Try.prog 14 #[.int .i64 a0, v1, .int .i64 a2] w fun e w' => e = .returned (.bool true) ∧ Below w.heap.size w w' := by
  rw [flat_one] at hr1
  obtain ⟨c0, d0⟩ := b0
  obtain ⟨c2, d2⟩ := b2
  have x0 := Psp.within_lo a0 4
  have x1 := Psp.within_hi a0 4 (by omega)
  obtain ⟨x, hx⟩ : ∃ x, Psp.within a0 4 = x := ⟨_, rfl⟩
  rw [hx] at x0 x1
  obtain ⟨f, hf⟩ : ∃ f, 1 + x = f := ⟨_, rfl⟩
  have f1 : 1 ≤ f := by omega
  have f2 : f ≤ 4 := by omega
  have Hr1 := Lib.hid hr1
  have Hst := Lib.hid (Two.start w)
  obtain ⟨hrl1, A1, cp1, rfl, hc11, hc12, hcell1⟩ := hr1
  obtain ⟨len1, hlen1⟩ : ∃ len, l1.length = len := ⟨_, rfl⟩
  rw [hlen1] at hcell1 hc11 ⊢
  unfold maxLen at hc12
  have Hlen1 := Lib.hid hlen1
  have Hl1 := Lib.hid hl1
  have Hcell1 := Lib.hid hcell1
  obtain ⟨N, hN⟩ : ∃ N, min len1 40 = N := ⟨_, rfl⟩
  have n1 : N ≤ len1 := by omega
  have n2 : N ≤ 40 := by omega
  have HN := Lib.hid hN
  clear hlen1 hl1 hrl1 hcell1 hN
  go_enter Try.func14, Try.ntmps14
  go_upto_block 0 with (first | (go_at_call 20; refine (within_any _ _ _ (by omega) (by omega) (by omega) (by omega)).mono ?_; rintro e w' ⟨rfl, rfl⟩))
  go_cut [9] from 17 (fun i wx => ∃ sa, Psp.SetOf sa (l1.take N) ∧ Two w wx sa (List.replicate 13 false))
  case first =>
    go_wp2_with fail
    go_loopw [9] (fun i wr => ∃ (k : Nat) (sa : List Bool), i = .int .i64 (k : Int) ∧ k ≤ N ∧ Psp.SetOf sa (l1.take k) ∧ Two w wr sa (List.replicate 13 false)) (fun i _ => 40 - (intOf i).toNat)
    case atStart => exact ⟨0, _, rfl, Nat.zero_le _, Psp.SetOf.start, Hst.out⟩
    case round =>
      obtain ⟨k, sa, rfl, hk, hS, hT⟩ := hrel
      have hsz := hT.bel.size
      have HT := Lib.hid hT
      have HS := Lib.hid hS
      clear hT hS
      by_cases hlt : k < N
      · have hlt1 : k < len1 := by omega
        have h40 : k < 40 := by omega
        obtain ⟨b, o, hAe, hb, hlies⟩ := Hcell1.out (by omega)
        subst hAe
        have hx0 : k < l1.length := by have := Hlen1.out; omega
        have hcy := ((hlies.keep (HT.out.bel.block b hb)).at_ (j := k) (by simpa using hx0))
        have hmt := Psp.mem_take_succ hx0
        obtain ⟨y, hy⟩ : ∃ x, l1[k] = x := ⟨_, rfl⟩
        obtain ⟨hy1, hy2⟩ := Hl1.out y (by rw [← hy]; exact List.getElem_mem hx0)
        simp only [List.getElem_map, hy, iv] at hcy
        rw [hy] at hmt
        have Hmt := Lib.hid hmt
        clear hlies hy hmt
        go_wp2_with (go_at_call 32; refine (put_any sa _ _ _ (by omega) (by omega) HS.out.1 HT.out.ba).mono ?_; rintro e w2 ⟨rfl, hb2, ho2⟩)
        go_roundw
        case rel => exact ⟨k + 1, Psp.put sa y, by go_num, by omega, HS.out.put Hmt.out, hb2, HT.out.bb.only ho2 (by omega), HT.out.bel.trans (ho2.below (Nat.le_refl _))⟩
        case measure => simp [intOf]; omega
      · obtain rfl : k = N := by omega
        by_cases hlt1 : k < len1
        · have h40 : ¬ k < 40 := by have := HN.out; omega
          go_wp2_with fail
          go_meet
          exact ⟨_, HS.out, HT.out⟩
        · go_wp2_with fail
          go_meet
          exact ⟨_, HS.out, HT.out⟩
  case rest =>
  obtain ⟨sa, hS, hT⟩ := hcut
  have HSa := Lib.hid hS
  have HT0 := Lib.hid hT
  have hsz0 := hT.bel.size
  clear hT hS
  go_upto_region 7 with (fail)
  go_cut [10] from 32 (fun i wx => i = .int .i64 ((N : Int) - 1) ∧ Two w wx sa (List.replicate 13 false))
  case first =>
    go_wp2_with fail
    all_goals (go_meet; refine ⟨?_, HT0.out⟩; first | (obtain rfl : N = len1 := (by have := HN.out; omega); rfl) | (obtain rfl : N = 40 := (by have := HN.out; omega); rfl))
  case rest =>
  obtain ⟨rfl, hT⟩ := hcut
  have HT1 := Lib.hid hT
  clear hT
  go_wp2_with fail
  go_loopw [10] (fun i wr => ∃ (k : Nat) (sb : List Bool), i = .int .i64 ((k : Int) - 1) ∧ k ≤ N ∧ Psp.SetOf sb ((l1.take N).drop k) ∧ Two w wr sa sb) (fun i _ => (intOf i + 1).toNat)
  case atStart => exact ⟨N, _, rfl, Nat.le_refl _, by rw [List.drop_eq_nil_of_le (by rw [List.length_take]; omega)]; exact Psp.SetOf.start, HT1.out⟩
  case round =>
    obtain ⟨k, sb, rfl, hk, hS, hT⟩ := hrel
    have hsz := hT.bel.size
    have HT := Lib.hid hT
    have HS := Lib.hid hS
    clear hT hS
    by_cases hlt : 1 ≤ k
    · obtain ⟨p, rfl⟩ : ∃ p, k = p + 1 := ⟨k - 1, by omega⟩
      obtain ⟨b, o, hAe, hb, hlies⟩ := Hcell1.out (by omega)
      subst hAe
      have hx0 : p < l1.length := by have := Hlen1.out; omega
      have hcy := ((hlies.keep (HT.out.bel.block b hb)).at_ (j := p) (by simpa using hx0))
      have hx1 : p < (l1.take N).length := by rw [List.length_take]; omega
      have hmt := Psp.mem_drop_cons hx1
      rw [List.getElem_take] at hmt
      obtain ⟨y, hy⟩ : ∃ x, l1[p] = x := ⟨_, rfl⟩
      obtain ⟨hy1, hy2⟩ := Hl1.out y (by rw [← hy]; exact List.getElem_mem hx0)
      simp only [List.getElem_map, hy, iv] at hcy
      rw [hy] at hmt
      have Hmt := Lib.hid hmt
      clear hlies hy hmt hx1
      rw [show (((p + 1 : Nat) : Int) - 1) = (p : Int) by omega]
      go_wp2_with (go_at_call 32; refine (put_any sb _ _ _ (by omega) (by omega) HS.out.1 HT.out.bb).mono ?_; rintro e w2 ⟨rfl, hb2, ho2⟩)
      go_roundw
      case rel => exact ⟨p, Psp.put sb y, rfl, by omega, HS.out.put Hmt.out, HT.out.ba.only ho2 (by omega), hb2, HT.out.bel.trans (ho2.below (by omega))⟩
      case measure => simp [intOf]
    · obtain rfl : k = 0 := by omega
      have hss := HSa.out.same HS.out (fun z => by rw [List.drop_zero])
      subst hss
      have hla := HS.out.1
      have HLa := Lib.hid hla
      clear hla
      obtain ⟨M, hM⟩ : ∃ M, Psp.members sa 0 = M := ⟨_, rfl⟩
      have HM := Lib.hid hM
      clear hM
      go_wp2_with fail
      refine (all_any sa _ _ HLa.out HT.out.ba).mono ?_
      rintro e w3 ⟨va, rfl, hown3, hbel3⟩
      rw [HM.out] at hown3
      have Ha3 := Lib.hid (Rd.of_own hown3)
      have Hb3 := Lib.hid (HT.out.bb.below hbel3 HT.out.bb.lt)
      have Hbel3 := Lib.hid (HT.out.bel.trans (hbel3.mono hsz))
      clear hown3 hbel3
      go_wp2_with fail
      refine (all_any sa _ _ HLa.out Hb3.out).mono ?_
      rintro e w4 ⟨vb, rfl, hown4, hbel4⟩
      rw [HM.out] at hown4
      have Hb4 := Lib.hid (Rd.of_own hown4)
      have Ha4 := Lib.hid ((Ha3.out.below hbel4).more hbel4.size)
      have Hbel4 := Lib.hid (Hbel3.out.trans (hbel4.mono Hbel3.out.size))
      clear hown4 hbel4
      go_wp2_with fail
      refine (same_ints _ _ _ _ M M _ Ha4.out Hb4.out).mono ?_
      rintro e w5 ⟨rfl, q5, rfl⟩
      rw [show decide (M = M) = true from decide_eq_true rfl]
      have HR5 := Lib.hid (((Hr1.out.below Hbel4.out).more Hbel4.out.size))
      have Hbel5 := Lib.hid (below_drewN Hbel4.out q5)
      obtain ⟨w6, hw6⟩ : ∃ w6, w4.drewN q5 = w6 := ⟨_, rfl⟩
      have HR6 : Hid (Rd w6 w6.heap.size 1 (Value.slice A1 l1.length cp1) l1.length (List.map iv l1)) := by rw [← hw6]; exact HR5.out
      have Hbel6 : Hid (Below w.heap.size w w6) := by rw [← hw6]; exact Hbel5.out
      rw [hw6]
      clear HR5 Hbel5 hw6 Ha4 Hb4
      have HR7 : Hid (Rd w6 w6.heap.size 1 (Value.slice A1 len1 cp1) l1.length (List.map iv l1)) := by rw [← Hlen1.out]; exact HR6.out
      go_wp2_with fail
      refine (row_any f _ l1 _ f1 f2 HR7.out Hl1.out).mono ?_
      rintro e w7 ⟨vx, ns, rfl, hown7, hris7, hbel7⟩
      obtain ⟨q1, s1, bd1⟩ := Psp.rising_parts f1 f2 hris7
      have Hris := Lib.hid hris7
      have S1 := Lib.hid s1
      have Wf1 := Lib.hid (votes_wf (ns := ns) fun m hm => by have := bd1 m hm; omega)
      have Hx7 : Hid (Rd w7 w7.heap.size 2 vx ns.length ((votes ns).flatMap vv)) := Lib.hid (Rd.of_own hown7)
      have Hbel7 := Lib.hid (Hbel6.out.trans (hbel7.mono Hbel6.out.size))
      obtain ⟨n, hn⟩ : ∃ n, ns.length = n := ⟨_, rfl⟩
      rw [hn] at q1
      have Hn := Lib.hid hn
      have Q1 := Lib.hid q1
      have n3 : 3 ≤ n := by omega
      have n9 : n ≤ 9 := by omega
      rw [hn] at Hx7
      clear hown7 hris7 hbel7 s1 bd1 hn q1
      obtain ⟨hxl, Ax, cx, rfl, hcx1, hcx2, hxc⟩ := Hx7.out
      unfold maxLen at hcx2
      have Hxc := Lib.hid hxc
      clear hxl hxc
      have y0 := Psp.within_lo a2 ((n : Int) - 1)
      have y1 := Psp.within_hi a2 ((n : Int) - 1) (by omega)
      obtain ⟨i0, hi0⟩ : ∃ x, Psp.within a2 ((n : Int) - 1) = x := ⟨_, rfl⟩
      rw [hi0] at y0 y1
      obtain ⟨i, rfl⟩ := Int.eq_ofNat_of_zero_le y0
      have Hi0 := Lib.hid hi0
      clear hi0
      go_wp2_with (go_at_call 20; refine (within_any _ _ _ (by omega) (by omega) (by omega) (by omega)).mono ?_; rintro e w' ⟨rfl, rfl⟩; rw [Hi0.out])
      refine (copy_votes _ n _ _ Hx7.out (by intro u hu; obtain ⟨p, _, hp⟩ := List.mem_flatMap.1 hu; simp [vv, iv] at hp; rcases hp with rfl | rfl <;> rfl) (by omega)).mono ?_
      rintro e w8 ⟨vy, rfl, hown8, hbel8⟩
      have Hb78 := Lib.hid hbel8
      have Hx8 := Lib.hid ((Hx7.out.below hbel8).more hbel8.size)
      have Hbel8 := Lib.hid (Hbel7.out.trans (hbel8.mono Hbel7.out.size))
      have hs78 := hbel8.size
      have hs07 := Hbel7.out.size
      obtain ⟨Ay, cy, rfl, hcy1, hcy2, hyy⟩ := own_slice hown8
      obtain ⟨gy, rfl, hgy1, hgy2, hyl⟩ := hyy (by omega)
      obtain ⟨P, hP⟩ : ∃ P, ns[i]? = some P := ⟨ns[i]'(by have := Hn.out; omega), List.getElem?_eq_getElem _⟩
      obtain ⟨Q, hQ⟩ : ∃ Q, ns[i + 1]? = some Q := ⟨ns[i + 1]'(by have := Hn.out; omega), List.getElem?_eq_getElem _⟩
      have hvi : (votes ns)[i]? = some (P, 1) := by unfold votes; rw [List.getElem?_map, hP]; rfl
      have hvj : (votes ns)[i + 1]? = some (Q, 1) := by unfold votes; rw [List.getElem?_map, hQ]; rfl
      have k1 := hown8.cellAt (i * 2) (by omega)
      have k2 := hown8.cellAt (i * 2 + 1) (by omega)
      have k3 := hown8.cellAt ((i + 1) * 2) (by omega)
      have k4 := hown8.cellAt ((i + 1) * 2 + 1) (by omega)
      have fz := hown8.frozenAt
      have e1 := flat_get (f := vv) (k := 2) (fun _ => rfl) (votes ns) i 0 (by omega)
      have e2 := flat_get (f := vv) (k := 2) (fun _ => rfl) (votes ns) i 1 (by omega)
      have e3 := flat_get (f := vv) (k := 2) (fun _ => rfl) (votes ns) (i + 1) 0 (by omega)
      have e4 := flat_get (f := vv) (k := 2) (fun _ => rfl) (votes ns) (i + 1) 1 (by omega)
      rw [hvi] at e1 e2
      rw [hvj] at e3 e4
      rw [Nat.add_zero] at e1 e3
      rw [e1] at k1
      rw [e2] at k2
      rw [e3] at k3
      rw [e4] at k4
      have z1 := fz (i * 2)
      have z2 := fz (i * 2 + 1)
      have z3 := fz ((i + 1) * 2)
      have z4 := fz ((i + 1) * 2 + 1)
      have hP' := Lib.hid hP
      have hQ' := Lib.hid hQ
      have Hown8 := Lib.hid hown8
      simp only [vv, iv, Option.bind_some, List.getElem?_cons_zero, List.getElem?_cons_succ] at k1 k2 k3 k4
      clear e1 e2 e3 e4 fz hvi hvj hP hQ hyy hyl hown8 hbel8
      go_upto_region 16 with (fail)
      go_region
      obtain ⟨w9, hw9⟩ : ∃ w9, ((((w8.setCell ⟨gy, i * 2, none⟩ (Value.int IntKind.i64 Q)).setCell ⟨gy, i * 2 + 1, none⟩ (Value.int IntKind.i64 1)).setCell ⟨gy, (i + 1) * 2, none⟩ (Value.int IntKind.i64 P)).setCell ⟨gy, (i + 1) * 2 + 1, none⟩ (Value.int IntKind.i64 1)).drew = w9 := ⟨_, rfl⟩
      rw [hw9]
      have hown9 : w9.ownsRow w7.heap.size 51 2 (.slice (some ⟨gy, 0, none⟩) n cy) n ((votes ((ns.set i Q).set (i + 1) P)).flatMap vv) := by
        rw [← hw9]
        have h5 := ((((Hown8.out.stored (i * 2) (.int .i64 Q)).1.stored (i * 2 + 1) (.int .i64 1)).1.stored ((i + 1) * 2) (.int .i64 P)).1.stored ((i + 1) * 2 + 1) (.int .i64 1)).1
        have e1 := flat_set Q 1 (votes ns) i (by rw [votes_len, Hn.out]; omega)
        have e2 := flat_set P 1 (votes (ns.set i Q)) (i + 1) (by rw [votes_len, List.length_set, Hn.out]; omega)
        rw [votes_set] at e1 e2
        rw [← e2, ← e1]
        exact h5
      have hbel9 : Below w8.heap.size w8 w9 ∨ True := Or.inr trivial
      have hb79 : Below w7.heap.size w7 w9 := by
        rw [← hw9]
        exact ((((Hb78.out.setCell hgy1 _).setCell hgy1 _).setCell hgy1 _).setCell hgy1 _).drew
      have Hx9 := Lib.hid ((Hx7.out.below hb79).more hb79.size)
      have Hbel9 := Lib.hid (Hbel7.out.trans (hb79.mono hs07))
      have hny : (votes ((ns.set i Q).set (i + 1) P)).length = n := by rw [votes_len, List.length_set, List.length_set, Hn.out]
      have hy9 := Rd.of_own hown9
      rw [← hny] at hy9
      have Hy9 := Lib.hid hy9
      have Hny := Lib.hid hny
      have hT9 : Psp.rising ((ns.set i Q).set (i + 1) P) f = false := not_rising_up (Psp.turned_not ns (-1) i P Q S1.out hP'.out hQ'.out)
      have HT9 := Lib.hid hT9
      have hD9 : Psp.rising (ns.drop 1) f = false := not_rising_len f1 f2 (by rw [List.length_drop, Hn.out]; have := Q1.out; omega)
      have HD9 := Lib.hid hD9
      have hS9 : Psp.rising (ns ++ [3 * f + 1]) f = false := not_rising_len f1 f2 (by rw [List.length_append, Hn.out]; have := Q1.out; simp; omega)
      have HS9 := Lib.hid hS9
      have hWy : ∀ x ∈ votes ((ns.set i Q).set (i + 1) P), isI64 x.1 ∧ isI64 x.2 := by
        intro x hx
        obtain ⟨m, hm, rfl⟩ := List.mem_map.1 hx
        have hin : ∀ z, z ∈ ns → isI64 z := fun z hz => (Wf1.out (z, 1) (List.mem_map.2 ⟨z, hz, rfl⟩)).1
        refine ⟨?_, by unfold isI64; simp⟩
        rcases List.mem_or_eq_of_mem_set hm with hm | rfl
        · rcases List.mem_or_eq_of_mem_set hm with hm | rfl
          · exact hin _ hm
          · exact hin _ (List.mem_of_getElem? hQ'.out)
        · exact hin _ (List.mem_of_getElem? hP'.out)
      have HWy := Lib.hid hWy
      have HRis := Hris
      have hnv := votes_len ns
      rw [Hn.out] at hnv
      have Hnv := Lib.hid hnv
      clear hw9 hown9 hbel9 hb79 hny hy9 hT9 hD9 hS9 hWy k1 k2 k3 k4 z1 z2 z3 z4 hnv
      have HX9 : Hid (Rd w9 w9.heap.size 2 (.slice Ax n cx) (votes ns).length ((votes ns).flatMap vv)) := by rw [Hnv.out]; exact Hx9.out
      go_wp2_with fail
      refine (rising_any (votes ns) _ f _ HX9.out Wf1.out).mono ?_
      rintro e w10 ⟨rfl, hb10⟩
      rw [votes_fst, HRis.out]
      have HX10 := Lib.hid ((Hx9.out.below hb10).more hb10.size)
      have HY10 := Lib.hid ((Hy9.out.below hb10).more hb10.size)
      have Hbel10 := Lib.hid (Hbel9.out.trans (hb10.mono Hbel9.out.size))
      clear hb10
      rw [Hny.out] at HY10
      have HY10' : Hid (Rd w10 w10.heap.size 2 (.slice (some ⟨gy, 0, none⟩) n cy) (votes ((ns.set i Q).set (i + 1) P)).length ((votes ((ns.set i Q).set (i + 1) P)).flatMap vv)) := by rw [Hny.out]; exact HY10.out
      go_wp2_with fail
      refine (rising_any (votes ((ns.set i Q).set (i + 1) P)) _ f _ HY10'.out HWy.out).mono ?_
      rintro e w11 ⟨rfl, hb11⟩
      rw [votes_fst, HT9.out]
      have HX11 := Lib.hid ((HX10.out.below hb11).more hb11.size)
      have Hbel11 := Lib.hid (Hbel10.out.trans (hb11.mono Hbel10.out.size))
      clear hb11
      have hcx3 : ¬ cx = 1 := by omega
      have hcx4 : (1 : Int) ≤ n := by omega
      have hcx5 : (n : Int) ≤ cx := by omega
      obtain ⟨bx, ox, hAe, hbx, hlx⟩ := Hxc.out (by omega)
      subst hAe
      clear hlx
      have HX12 := Lib.hid (Rd.drop1 HX11.out (by omega))
      go_wp2_with fail
      have hn1 : (votes (ns.drop 1)).length = n - 1 := by rw [votes_len, List.length_drop, Hn.out]
      have HX13 : Hid (Rd w11 w11.heap.size 2 (.slice (some ⟨bx, ox + 2, none⟩) (n - 1) (cx - 1)) (votes (ns.drop 1)).length ((votes (ns.drop 1)).flatMap vv)) := by
        rw [hn1, ← drop_votes (by rw [Hn.out]; omega)]
        exact HX12.out
      have HWd : Hid (∀ x ∈ votes (ns.drop 1), isI64 x.1 ∧ isI64 x.2) := Lib.hid fun x hx => by
        obtain ⟨m, hm, rfl⟩ := List.mem_map.1 hx
        exact Wf1.out (m, 1) (List.mem_map.2 ⟨m, List.mem_of_mem_drop hm, rfl⟩)
      clear HX12 hn1
      refine (rising_any (votes (ns.drop 1)) _ f _ HX13.out HWd.out).mono ?_
      rintro e w12 ⟨rfl, hb12⟩
      rw [votes_fst, HD9.out]
      have HX14 := Lib.hid ((HX11.out.below hb12).more hb12.size)
      have Hbel12 := Lib.hid (Hbel11.out.trans (hb12.mono Hbel11.out.size))
      clear hb12
      go_wp2_with fail
      refine (copy_votes _ n _ _ HX14.out (by intro u hu; obtain ⟨p, _, hp⟩ := List.mem_flatMap.1 hu; simp [vv, iv] at hp; rcases hp with rfl | rfl <;> rfl) (by omega)).mono ?_
      rintro e w13 ⟨vz, rfl, hown13, hbel13⟩
      have hs13 := hbel13.size
      have Hbel13 := Lib.hid (Hbel12.out.trans (hbel13.mono Hbel12.out.size))
      clear hbel13
      go_wp2_with (refine wpList_app1w votesE3 rfl (.tmp 93) (.tmp 98) rfl w12.heap.size _ _ _ rfl hown13 #[.int .i64 (3 * f + 1), .int .i64 0] rfl rfl (by simp [Value.oneCell']) (by omega) (by omega) hs13 ?_; intro v' w' hown' hg' hbel' _)
      have hz := Rd.of_own hown'
      have hzc : (votes ns).flatMap vv ++ (#[Value.int .i64 (3 * f + 1), .int .i64 0] : Array Value).toList = (votes ns ++ [(3 * f + 1, 0)]).flatMap vv := snoc_cells ns (3 * f + 1)
      rw [hzc] at hz
      have hzl : (votes ns ++ [(3 * f + 1, 0)]).length = n + 1 := by rw [List.length_append, Hnv.out]; rfl
      rw [← hzl] at hz
      have Hz := Lib.hid hz
      have HWz : Hid (∀ x ∈ votes ns ++ [(3 * f + 1, 0)], isI64 x.1 ∧ isI64 x.2) := Lib.hid fun x hx => by
        rcases List.mem_append.1 hx with hx | hx
        · exact Wf1.out x hx
        · simp at hx; subst hx; unfold isI64; simp; omega
      have Hbel14 := Lib.hid (Hbel13.out.trans (hbel'.mono (Hbel12.out.size)))
      clear hz hzc hzl hown' hg' hbel' hown13
      refine (rising_any (votes ns ++ [(3 * f + 1, 0)]) _ f _ Hz.out HWz.out).mono ?_
      rintro e w15 ⟨rfl, hb15⟩
      rw [snoc_fst, HS9.out]
      have Hbel15 := Lib.hid (Hbel14.out.trans (hb15.mono Hbel14.out.size))
      clear hb15
      go_wp2_with (go_at_call 23; refine (wakes4 _).mono ?_; rintro e w' ⟨rfl, rfl⟩)
      go_ret
      exact ⟨rfl, Hbel15.out⟩
end Go.Proofs.Ytekpnihdbfgcdaa.ballotTurned
