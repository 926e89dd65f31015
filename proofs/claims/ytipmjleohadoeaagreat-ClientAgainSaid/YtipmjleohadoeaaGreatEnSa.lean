/- Envelopes of both sides. Printed by gen_en.py. -/
import Derived.Test.YtipmjleohadoeaaGreatBxSa
import Derived.Test.YtipmjleohadoeaaGreatGaSa
namespace Go.Proofs.YtipmjleohadoeaaGreat
open Go.RowKit
set_option linter.unusedVariables false

/-- May an envelope be? -/
def okE (s : Int) (body : List UInt8) : Bool := Psp.okN s && decide ((Psp.encN s).length + body.length ≤ 65536)

set_option maxRecDepth 100000 in
set_option maxHeartbeats 1000000 in
theorem env_any (s : Int) (body : List UInt8) (x : Value) (w : World) (hx : RdP w (fun b => b < w.heap.size) 1 x body.length (body.map bv)) (h40 : body.length ≤ 1099511627776) :
    Calls Tryz.prog 81 #[.int .i64 s, x] w (Bytes (Psp.encN s ++ body) (okE s body) w) := by
  obtain ⟨_, A, c, rfl, hc1, hc2, _⟩ := hx.parts
  have HX := Lib.hid hx
  clear hx
  go_enter Tryz.func81, Tryz.ntmps81
  go_wp2_with fail
  refine (num_any s w).mono ?_
  intro e w1 h
  obtain ⟨ob, hob⟩ : ∃ ob, ob = Psp.okN s := ⟨_, rfl⟩
  obtain ⟨A1, c1, rfl, hown, hb⟩ := h.open_
  have HB := Lib.hid hb
  clear h hb
  rw [← hob] at hown ⊢
  cases ob with
  | false =>
    have hok : okE s body = false := by unfold okE; rw [← hob]; rfl
    have Hok := Lib.hid hok
    clear hok hob
    rw [res_no] at *
    go_wp2_with fail
    go_ret2
    exact ⟨_, ret_pair _ Hok.out, by rw [Hok.out]; exact World.ownsRow_nil _ _ _ _, HB.out⟩
  | true =>
    rw [res_yes] at *
    have hl := (Psp.encN_len hob.symm)
    obtain ⟨l1, l2⟩ := hl
    have hz : w.heap.size ≤ w1.heap.size := HB.out.size
    have hr1 := (HX.out.keeps (Keeps.on HB.out)).to_rd
    by_cases hbig : (Psp.encN s).length + body.length ≤ 65536
    · have hok : okE s body = true := by unfold okE; rw [← hob, decide_eq_true hbig]; rfl
      have Hok := Lib.hid hok
      have d1 : decide (((Psp.encN s).length : Int) + (body.length : Int) > 65536) = false := by simp; omega
      have hbd : ∀ u ∈ body.map bv, u.oneCell' = true := by intro u hu; obtain ⟨b, _, rfl⟩ := List.mem_map.1 hu; rfl
      have Hbd := Lib.hid hbd
      clear hok hob hbd
      go_wp2_with (at_builtin; refine wpList_app bytesE rfl _ _ rfl w.heap.size _ _ _ rfl hown _ _ body.length (body.map bv) rfl hr1 Hbd.out (by unfold maxLen; omega) (by omega) hz ?_; intro v' w3 h3 hg3 hb3; obtain ⟨A4, c4, rfl, _, _, _⟩ := own_slice h3; have HO := Lib.hid h3; have HG := Lib.hid ((((Fp.of_below HB.out (fun _ => False)).grown hg3 fun j hj => Or.inr (own_lt hown j hj)).to_below (B := w.heap.size) (Nat.le_refl _) fun j _ h => h.elim)); clear h3 hg3 hb3)
      go_ret2
      exact ⟨_, ret_pair _ Hok.out, by rw [Hok.out]; simpa [List.length_append, List.map_append] using HO.out, HG.out⟩
    · have hok : okE s body = false := by unfold okE; rw [decide_eq_false hbig, Bool.and_false]
      have Hok := Lib.hid hok
      have d1 : decide (((Psp.encN s).length : Int) + (body.length : Int) > 65536) = true := by simp; omega
      have hbm : body.length ≤ 9223372036854775807 := by omega
      clear hok hob
      go_wp2_with fail
      go_ret2
      exact ⟨_, ret_pair _ Hok.out, by rw [Hok.out]; exact World.ownsRow_nil _ _ _ _, HB.out⟩

set_option maxRecDepth 100000 in
set_option maxHeartbeats 1000000 in
theorem renv_any (s : Int) (body : List UInt8) (x : Value) (w : World) (hx : RdP w (fun b => b < w.heap.size) 1 x body.length (body.map bv)) (h40 : body.length ≤ 1099511627776) :
    Calls Tryz.prog 42 #[.int .i64 s, x] w (Bytes (Psp.encN s ++ body) (okE s body) w) := by
  obtain ⟨_, A, c, rfl, hc1, hc2, _⟩ := hx.parts
  have HX := Lib.hid hx
  clear hx
  go_enter Tryz.func42, Tryz.ntmps42
  go_wp2_with fail
  refine (rnum_any s w).mono ?_
  intro e w1 h
  obtain ⟨ob, hob⟩ : ∃ ob, ob = Psp.okN s := ⟨_, rfl⟩
  obtain ⟨A1, c1, rfl, hown, hb⟩ := h.open_
  have HB := Lib.hid hb
  clear h hb
  rw [← hob] at hown ⊢
  cases ob with
  | false =>
    have hok : okE s body = false := by unfold okE; rw [← hob]; rfl
    have Hok := Lib.hid hok
    clear hok hob
    rw [res_no] at *
    go_wp2_with fail
    go_ret2
    exact ⟨_, ret_pair _ Hok.out, by rw [Hok.out]; exact World.ownsRow_nil _ _ _ _, HB.out⟩
  | true =>
    rw [res_yes] at *
    have hl := (Psp.encN_len hob.symm)
    obtain ⟨l1, l2⟩ := hl
    have hz : w.heap.size ≤ w1.heap.size := HB.out.size
    have hr1 := (HX.out.keeps (Keeps.on HB.out)).to_rd
    by_cases hbig : (Psp.encN s).length + body.length ≤ 65536
    · have hok : okE s body = true := by unfold okE; rw [← hob, decide_eq_true hbig]; rfl
      have Hok := Lib.hid hok
      have d1 : decide (((Psp.encN s).length : Int) + (body.length : Int) > 65536) = false := by simp; omega
      have hbd : ∀ u ∈ body.map bv, u.oneCell' = true := by intro u hu; obtain ⟨b, _, rfl⟩ := List.mem_map.1 hu; rfl
      have Hbd := Lib.hid hbd
      clear hok hob hbd
      go_wp2_with (at_builtin; refine wpList_app bytesE rfl _ _ rfl w.heap.size _ _ _ rfl hown _ _ body.length (body.map bv) rfl hr1 Hbd.out (by unfold maxLen; omega) (by omega) hz ?_; intro v' w3 h3 hg3 hb3; obtain ⟨A4, c4, rfl, _, _, _⟩ := own_slice h3; have HO := Lib.hid h3; have HG := Lib.hid ((((Fp.of_below HB.out (fun _ => False)).grown hg3 fun j hj => Or.inr (own_lt hown j hj)).to_below (B := w.heap.size) (Nat.le_refl _) fun j _ h => h.elim)); clear h3 hg3 hb3)
      go_ret2
      exact ⟨_, ret_pair _ Hok.out, by rw [Hok.out]; simpa [List.length_append, List.map_append] using HO.out, HG.out⟩
    · have hok : okE s body = false := by unfold okE; rw [decide_eq_false hbig, Bool.and_false]
      have Hok := Lib.hid hok
      have d1 : decide (((Psp.encN s).length : Int) + (body.length : Int) > 65536) = true := by simp; omega
      have hbm : body.length ≤ 9223372036854775807 := by omega
      clear hok hob
      go_wp2_with fail
      go_ret2
      exact ⟨_, ret_pair _ Hok.out, by rw [Hok.out]; exact World.ownsRow_nil _ _ _ _, HB.out⟩
end Go.Proofs.YtipmjleohadoeaaGreat
