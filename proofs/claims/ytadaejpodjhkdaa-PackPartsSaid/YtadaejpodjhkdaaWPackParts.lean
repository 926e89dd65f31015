/- The walk of PackParts. -/
import Derived.Test.YtadaejpodjhkdaaPz
namespace Go.Proofs.Ytadaejpodjhkdaa.packParts
open Go.RowKit
set_option linter.unusedVariables false

/-- More parts than are played. -/
def heavyP (l : List Psp.Part) : Bool := decide (12 < l.length) || l.any fun p => decide (30 < p.o.length) || heavyC p.c

set_option maxRecDepth 100000 in
set_option maxHeartbeats 1000000 in
theorem heavy_parts (x : Value) (l : List Psp.Part) (w : World) (P : Nat → Prop) (hx : RdA w P x l) :
    Calls Try.prog 41 #[.agg #[.int .i64 0, .int .i64 0, .int .i64 0, .int .i64 0, .int .i64 0, .int .i64 0, .slice none 0 0, .slice none 0 0, .slice none 0 0, x]] w fun e w' => e = .returned (.bool (heavyP l)) ∧ Below w.heap.size w w' := by
  obtain ⟨L, hL, hx, hxL⟩ := hx
  obtain ⟨n, hn⟩ : ∃ n, L.length = n := ⟨_, rfl⟩
  rw [hn] at hx
  have hln : l.length = n := by rw [← hL, List.length_map]; exact hn
  obtain ⟨hxl, A, c, rfl, hx1, hx2, hxc⟩ := hx.parts
  have Hxc := Lib.hid hxc
  have Hn := Lib.hid hn
  have Hln := Lib.hid hln
  have HL := Lib.hid hL
  have HxL := Lib.hid hxL
  have hnil : RdC (w.alloc (.cells #[.int .i64 0, .int .i64 0, .int .i64 0, .int .i64 0, .int .i64 0, .int .i64 0, .slice none 0 0, .slice none 0 0, .slice none 0 0, .slice A n c] 76)) (fun _ => True) (.slice none 0 0) [] := nil_C _ _
  have Hnil := Lib.hid hnil
  clear hxl hxc hn hx hln hL hxL hnil
  have hc0 : heavyC [] = false := rfl
  have Hc0 := Lib.hid hc0
  clear hc0
  by_cases h12 : 12 < n
  · have hv : heavyP l = true := by unfold heavyP; rw [Hln.out, decide_eq_true h12]; rfl
    have Hv := Lib.hid hv
    clear hv
    have d1 : decide (12 < (n : Int)) = true := by simp; omega
    go_enter Try.func41, Try.ntmps41
    go_wp2_with (go_at_call 17; refine (heavyC_any _ [] _ _ Hnil.out).mono ?_; rintro e w1 ⟨rfl, rfl⟩; rw [Hc0.out])
    go_ret
    exact ⟨ret_bool Hv.out.symm, alloc_below _ _⟩
  · have d1 : decide (12 < (n : Int)) = false := by simp; omega
    go_enter Try.func41, Try.ntmps41
    go_wp2_with (go_at_call 17; refine (heavyC_any _ [] _ _ Hnil.out).mono ?_; rintro e w1 ⟨rfl, rfl⟩; rw [Hc0.out])
    go_loop [3] (fun i => ∃ k : Nat, i = .int .i64 (k : Int) ∧ k ≤ n ∧ Hid ((l.take k).any (fun p => decide (30 < p.o.length) || heavyC p.c) = false)) (fun i => n - (intOf i).toNat)
    case atStart => exact ⟨0, rfl, Nat.zero_le _, Lib.hid rfl⟩
    case round =>
      obtain ⟨k, rfl, hk, Hany⟩ := hrel
      by_cases hlt : k < n
      · obtain ⟨b, o, hA1, hP1, hb1, h1⟩ := Hxc.out (by omega)
        subst hA1
        have hkL : k < L.length := by have := Hn.out; omega
        have hkl : k < l.length := by have := Hln.out; omega
        have r1 := range_keep (range_elem (f := pv) (k := 4) (fun _ => rfl) h1 hkL) ((alloc_below w (.cells #[.int .i64 0, .int .i64 0, .int .i64 0, .int .i64 0, .int .i64 0, .int .i64 0, .slice none 0 0, .slice none 0 0, .slice none 0 0, .slice (some ⟨b, o, none⟩) n c] 76)).block b hb1)
        have hok := HxL.out _ (List.getElem_mem hkL)
        have e1 : l[k] = L[k].p := by simp only [← HL.out, List.getElem_map]
        have hst : (l.take (k + 1)).any (fun p => decide (30 < p.o.length) || heavyC p.c) = ((l.take k).any (fun p => decide (30 < p.o.length) || heavyC p.c) || (decide (30 < l[k].o.length) || heavyC l[k].c)) := by
          rw [List.take_succ_eq_append_getElem hkl, List.any_append]; simp
        have hmem : (decide (30 < l[k].o.length) || heavyC l[k].c) = true → heavyP l = true := fun h => by
          unfold heavyP
          rw [Bool.or_eq_true]
          exact Or.inr (List.any_eq_true.2 ⟨l[k], List.getElem_mem hkl, h⟩)
        rw [e1] at hst hmem
        obtain ⟨t, ht⟩ : ∃ r, L[k] = r := ⟨_, rfl⟩
        rw [ht] at r1 hok hst hmem
        have y1 := r1 1 _ rfl
        have y2 := r1 2 _ rfl
        obtain ⟨no, hno⟩ : ∃ m, t.p.o.length = m := ⟨_, rfl⟩
        obtain ⟨_, A3, c3, e3, _, c3b, _⟩ := hok.1.parts
        rw [e3, hno] at y1
        rw [hno] at hst hmem
        have hcw := hok.2.keeps (Keeps.below (alloc_below w (.cells #[.int .i64 0, .int .i64 0, .int .i64 0, .int .i64 0, .int .i64 0, .int .i64 0, .slice none 0 0, .slice none 0 0, .slice none 0 0, .slice (some ⟨b, o, none⟩) n c] 76)))
        have Hcw := Lib.hid hcw
        have Hst := Lib.hid hst
        have Hmem := Lib.hid hmem
        clear hok e1 e3 ht hno h1 hkL hkl r1 hst hmem hcw
        by_cases q1 : 30 < no
        · have d2 : decide (30 < (no : Int)) = true := by simp; omega
          go_wp2_with fail
          go_ret
          exact ⟨ret_bool (Hmem.out (by rw [decide_eq_true q1]; rfl)).symm, alloc_below _ _⟩
        · have d2 : decide (30 < (no : Int)) = false := by simp; omega
          cases hh : heavyC t.p.c with
          | true =>
            have Hh := Lib.hid hh
            clear hh
            go_wp2_with (go_at_call 17; refine (heavyC_any _ _ _ _ Hcw.out).mono ?_; rintro e w1 ⟨rfl, rfl⟩; rw [Hh.out])
            go_ret
            exact ⟨ret_bool (Hmem.out (by rw [Hh.out]; simp)).symm, alloc_below _ _⟩
          | false =>
            have Hh := Lib.hid hh
            clear hh
            go_wp2_with (go_at_call 17; refine (heavyC_any _ _ _ _ Hcw.out).mono ?_; rintro e w1 ⟨rfl, rfl⟩; rw [Hh.out])
            go_round
            case rel => exact ⟨k + 1, by go_num, by omega, Lib.hid (by rw [Hst.out, Hany.out, decide_eq_false q1, Hh.out]; rfl)⟩
            case measure => simp [intOf]; omega
      · have hv : heavyP l = false := by
          have h1 := Hany.out
          rw [List.take_of_length_le (by rw [Hln.out]; omega)] at h1
          unfold heavyP
          rw [Hln.out, decide_eq_false h12, h1]; rfl
        have Hv := Lib.hid hv
        clear hv
        go_wp2_with fail
        go_ret
        exact ⟨ret_bool Hv.out.symm, alloc_below _ _⟩

theorem flat_bound {α : Type} {e : α → List UInt8} {ok : α → Bool} {k : Nat} (h : ∀ x, ok x = true → (e x).length ≤ k) : ∀ l : List α, l.all ok = true → (l.flatMap e).length ≤ l.length * k
  | [], _ => by simp
  | x :: l, hl => by
    rw [List.all_cons, Bool.and_eq_true] at hl
    have h1 := h x hl.1
    have h2 := flat_bound h l hl.2
    rw [List.flatMap_cons, List.length_append, List.length_cons, Nat.succ_mul]
    omega
theorem encL_bound {α : Type} {e : α → List UInt8} {ok : α → Bool} {k : Nat} (h : ∀ x, ok x = true → (e x).length ≤ k) {l : List α} (hl : Psp.okL ok l = true) : (Psp.encL e l).length ≤ 6 + 256 * k := by
  unfold Psp.okL at hl
  rw [Bool.and_eq_true, decide_eq_true_eq] at hl
  have h1 := flat_bound h l hl.2
  have h2 : l.length * k ≤ 256 * k := Nat.mul_le_mul_right _ hl.1
  have h3 := (Psp.encN_len ((Psp.okN_iff (l.length : Int)).2 ⟨by omega, by omega⟩)).2
  unfold Psp.encL
  rw [List.length_append]
  omega
theorem encR_bound (r : Psp.Req) (h : Psp.okR r = true) : (Psp.encR r).length ≤ 36 := by
  unfold Psp.okR at h
  simp only [Bool.and_eq_true] at h
  have h1 := (Psp.encN_len h.1).2
  have h2 := (Psp.encN_len h.2.1).2
  have h3 := (Psp.encN_len h.2.2.1).2
  have h4 := (Psp.encS_len r.y).2
  have h5 := (Psp.encS_len r.v).2
  have h6 := (Psp.encN_len h.2.2.2.2.2).2
  unfold Psp.encR
  simp only [List.length_append]
  omega
theorem encV_bound (r : Psp.Vote) (h : Psp.okV r = true) : (Psp.encV r).length ≤ 12 := by
  unfold Psp.okV at h
  simp only [Bool.and_eq_true] at h
  have h1 := (Psp.encN_len h.1).2
  have h2 := (Psp.encN_len h.2).2
  unfold Psp.encV
  simp only [List.length_append]
  omega
theorem encC_bound (r : Psp.Cert) (h : Psp.okC r = true) : (Psp.encC r).length ≤ 12318 := by
  unfold Psp.okC at h
  simp only [Bool.and_eq_true] at h
  have h1 := (Psp.encN_len h.1).2
  have h2 := (Psp.encN_len h.2.1).2
  have h3 := (Psp.encN_len h.2.2.1).2
  have h4 := encL_bound encR_bound h.2.2.2.1
  have h5 := encL_bound encV_bound h.2.2.2.2
  unfold Psp.encC
  simp only [List.length_append]
  omega
theorem encP_bound (r : Psp.Part) (h : Psp.okP r = true) : (Psp.encP r).length ≤ 3156504 := by
  unfold Psp.okP at h
  simp only [Bool.and_eq_true] at h
  have h1 := (Psp.encN_len h.1).2
  have h4 := encL_bound encV_bound h.2.1
  have h5 := encL_bound encC_bound h.2.2.1
  have h2 := (Psp.encN_len h.2.2.2).2
  unfold Psp.encP
  simp only [List.length_append]
  omega

set_option maxRecDepth 100000 in
set_option maxHeartbeats 2000000 in
theorem walk (v : Value) (l : List Psp.Part) (w : World) (hl : RdA w (fun b => b < w.heap.size) v l) (wl : ∀ c ∈ l, wfPart c) :
    Calls Try.prog 10 #[v] w fun e w' => e = .returned (.bool true) ∧ Below w.heap.size w w' := by
  have Hl := Lib.hid hl
  obtain ⟨A0, n0, c0, e0⟩ : ∃ A n c, v = .slice A n c := by obtain ⟨L, _, ⟨_, A, c, e, _⟩, _⟩ := hl; exact ⟨A, _, c, e⟩
  subst e0
  clear hl wl
  cases hh : heavyP l with
  | true =>
    have Hh := Lib.hid hh
    clear hh
    go_enter Try.func10, Try.ntmps10
    go_wp2_with fail
    refine (heavy_parts _ l _ _ Hl.out).mono ?_
    rintro e w1 ⟨rfl, hb1⟩
    rw [Hh.out]
    have HB1 := Lib.hid hb1
    clear hb1
    go_wp2_with (go_at_call 12; refine (wakes02 _).mono ?_; rintro e w' ⟨rfl, hb⟩; have Hb := Lib.hid hb; clear hb)
    go_ret
    exact ⟨rfl, Below.then HB1.out Hb.out HB1.out.size⟩
  | false =>
    have Hh := Lib.hid hh
    clear hh
    obtain ⟨bl, hbl⟩ : ∃ b, res (Psp.encL Psp.encP l) (Psp.okL Psp.okP l) = b := ⟨_, rfl⟩
    obtain ⟨ol, hol⟩ : ∃ b, Psp.okL Psp.okP l = b := ⟨_, rfl⟩
    have Hbl := Lib.hid hbl
    have Hol := Lib.hid hol
    clear hbl hol
    go_enter Try.func10, Try.ntmps10
    go_wp2_with fail
    refine (heavy_parts _ l _ _ Hl.out).mono ?_
    rintro e w0 ⟨rfl, hb0⟩
    rw [Hh.out]
    have HB0 := Lib.hid hb0
    clear hb0
    go_wp2_with fail
    refine (pk_parts l _ _ (Hl.out.keeps (Keeps.on HB0.out))).mono ?_
    intro e w1 h
    obtain ⟨A1, c1, he, ho1, hb1⟩ := h.open_
    rw [Hbl.out] at he ho1
    rw [Hol.out] at he
    subst he
    have hz1 := hb1.size
    have H1 := Lib.hid ho1
    have HB1 := Lib.hid (Below.then HB0.out hb1 HB0.out.size)
    clear h ho1 hb1
    go_wp2_with fail
    refine (rf_parts l _ _ (Hl.out.keeps (Keeps.on HB1.out))).mono ?_
    intro e w2 h
    obtain ⟨A2, c2, rfl, ho, hb⟩ := Bytes.rd h Hbl.out Hol.out
    have hz2 := hb.size
    have H12 := Lib.hid (own_below H1.out hb)
    have H2 := Lib.hid ho
    have HB2 := Lib.hid (Below.then HB1.out hb HB1.out.size)
    clear h ho hb
    go_wp2_with fail
    refine (same02_eq _ _ _ _ bl bl ol w2 rfl (Rd.of_own H12.out) H2.out.to_rd).mono ?_
    rintro e w3 ⟨rfl, q1, rfl⟩
    have H13 : Hid ((w2.drewN q1).ownsRow w0.heap.size 5 1 (.slice A1 bl.length c1) bl.length (bl.map bv)) := Lib.hid H12.out
    have HB3 := Lib.hid (below_drewN HB2.out q1)
    cases ol with
    | false =>
      go_wp2_with (go_at_call 12; refine (wakes02 _).mono ?_; rintro e w' ⟨rfl, hb⟩; have Hb := Lib.hid hb; clear hb)
      go_ret
      exact ⟨rfl, Below.then HB3.out Hb.out HB3.out.size⟩
    | true =>
      have hbe : bl = Psp.encL Psp.encP l := by rw [← Hbl.out, Hol.out]; rfl
      have hlen := encL_bound encP_bound Hol.out
      rw [← hbe] at hlen
      have hd : Psp.dL Psp.dP (bl ++ [1, 2]) 0 = some (l, (bl.length : Int)) := by
        rw [hbe]; exact (Psp.codec_L Psp.codec_P).back Hol.out [1, 2]
      have Hd := Lib.hid hd
      have hz3 : w0.heap.size ≤ (w2.drewN q1).heap.size := Nat.le_trans hz1 hz2
      have hle : Rd ((w2.drewN q1).alloc (.cells #[.int .u8 1, .int .u8 2] 5)) ((w2.drewN q1).alloc (.cells #[.int .u8 1, .int .u8 2] 5)).heap.size 1 (.slice (some ⟨(w2.drewN q1).heap.size, 0, none⟩) 2 2) 2 [.int .u8 1, .int .u8 2] := (Rd.lits (w2.drewN q1) #[.int .u8 1, .int .u8 2] 5 1 2 rfl (by unfold maxLen; omega)).more (by simp)
      have Hle := Lib.hid hle
      have H14 := Lib.hid (H13.out.alloc (.cells #[.int .u8 1, .int .u8 2] 5))
      clear hbe hd hle
      have hz03 := HB0.out.size
      go_wp2_with (at_builtin; refine wpList_app bytesE rfl _ _ rfl w0.heap.size _ bl.length (bl.map bv) rfl H14.out _ _ 2 [.int .u8 1, .int .u8 2] rfl Hle.out (by simp [Value.oneCell']) (by unfold maxLen; omega) (by omega) (by simp; omega) ?_; intro v' w4 h3 hg3 hb3; have hb4 := (Below.then HB3.out (alloc_below _ (.cells #[.int .u8 1, .int .u8 2] 5)) HB3.out.size).grown hg3 (by simp; omega) (fun k hk => Nat.le_trans hz03 (own_lt H14.out k hk)); have HB4 := Lib.hid hb4; have hr4 : RdP w4 (fun k => k < w4.heap.size) 1 v' (bl ++ [1, 2]).length ((bl ++ [1, 2]).map bv) := (by simpa [bv] using (Rd.of_own h3).to_p (Nat.le_refl _)); have Hr4 := Lib.hid hr4; clear h3 hg3 hb3 hb4 hr4)
      refine (takeP (bl ++ [1, 2]) v' 0 w4 Hr4.out ⟨by omega, by omega⟩).mono ?_
      intro e w5 h
      obtain ⟨h1, _, hb5⟩ := h
      obtain ⟨v5, he, hL5⟩ := h1 l _ Hd.out
      subst he
      have HB5 := Lib.hid (Below.then HB4.out hb5 HB4.out.size)
      have HL5 := Lib.hid hL5
      clear h1 hL5 hb5
      go_wp2_with fail
      refine (parts_same _ _ l l _ _ _ HL5.out (Hl.out.keeps (Keeps.on HB5.out))).mono ?_
      rintro e w6 ⟨rfl, hb6⟩
      rw [decide_eq_true rfl]
      have HB6 := Lib.hid (Below.then HB5.out hb6 HB5.out.size)
      clear hb6
      go_wp2_with (go_at_call 12; refine (wakes02 _).mono ?_; rintro e w' ⟨rfl, hb⟩; have Hb := Lib.hid hb; clear hb)
      go_ret
      exact ⟨rfl, Below.then HB6.out Hb.out HB6.out.size⟩
end Go.Proofs.Ytadaejpodjhkdaa.packParts
