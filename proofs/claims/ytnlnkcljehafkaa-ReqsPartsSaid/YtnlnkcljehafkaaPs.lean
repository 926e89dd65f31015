/- The reference: Req, Batch, Votes, Certs, Parts. Printed by gen_top.py. -/
import Derived.Test.YtnlnkcljehafkaaPr
namespace Go.Proofs.Ytnlnkcljehafkaa
open Go.RowKit
set_option linter.unusedVariables false

theorem done_p_bad (S : Nat → Prop) (g : Nat) (out : List UInt8) (w : World) (hW : Wr 83 w S g out true) :
    Calls Try.prog 51 #[.pointer (some ⟨g, 0, none⟩)] w fun e w' => e = .returned (.tuple #[.slice none 0 0, .bool false]) ∧ w = w' := by
  obtain ⟨A, c, hc1, hc2, k0, k1, z0, z1, hown, hS⟩ := hW.cells
  clear hW hown hS
  go_enter Try.func51, Try.ntmps51
  go_wp2_with fail
  go_ret2
  exact ⟨rfl, rfl⟩
theorem done_p_good (S : Nat → Prop) (g : Nat) (out : List UInt8) (w : World) (hW : Wr 83 w S g out false) :
    Calls Try.prog 51 #[.pointer (some ⟨g, 0, none⟩)] w fun e w' => (∃ v, e = .returned (.tuple #[v, .bool true]) ∧ w.ownsRow 0 5 1 v out.length (out.map bv) ∧ ∀ k, v.ownBlock = some k → S k) ∧ w = w' := by
  obtain ⟨A, c, hc1, hc2, k0, k1, z0, z1, hown, hS⟩ := hW.cells
  have Hown := Lib.hid hown
  have HS := Lib.hid hS
  clear hW hown hS
  go_enter Try.func51, Try.ntmps51
  go_wp2_with fail
  go_ret2
  exact ⟨⟨_, rfl, Hown.out, fun k hk => (HS.out k hk).1⟩, rfl⟩

set_option maxRecDepth 100000 in
theorem rf_req (c t k y v s : Int) (w : World) :
    Calls Try.prog 36 #[.agg #[.int .i64 c, .int .i64 t, .int .i64 k, .int .i64 y, .int .i64 v, .int .i64 s]] w (Bytes (Psp.encR ⟨c, t, k, y, v, s⟩) (Psp.okR ⟨c, t, k, y, v, s⟩) w) := by
  have hnew : Wr 83 ((w.alloc (.cells #[.int .i64 c, .int .i64 t, .int .i64 k, .int .i64 y, .int .i64 v, .int .i64 s] 26)).alloc (.cells #[.slice none 0 0, .bool false] 83)) (fun k => k = w.heap.size + 1) (w.heap.size + 1) [] false := Wr.new (w.alloc (.cells #[.int .i64 c, .int .i64 t, .int .i64 k, .int .i64 y, .int .i64 v, .int .i64 s] 26)) _ _ (by simp)
  have Hnew := Lib.hid hnew
  have hbl : Below w.heap.size w ((w.alloc (.cells #[.int .i64 c, .int .i64 t, .int .i64 k, .int .i64 y, .int .i64 v, .int .i64 s] 26)).alloc (.cells #[.slice none 0 0, .bool false] 83)) := ((alloc_below w _).trans ((alloc_below _ _).mono (by simp)))
  have Hbl := Lib.hid hbl
  clear hnew hbl
  go_enter Try.func36, Try.ntmps36
  go_wp2_with fail
  refine (pen_req c t k y v s _ _ [] false _ Hnew.out (by simp)).mono ?_
  intro en w2 hc
  obtain ⟨rfl, S2, o2, b2, h2⟩ := (WrS.start Hnew.out).step hc
  have h3 := h2.of (List.nil_append _) (Bool.true_and _)
  have hbel : Below w.heap.size w w2 := Hbl.out.trans (h3.fp.to_below (B := w.heap.size) Hbl.out.size (fun k _ hk => by rw [hk]; omega))
  have hsub : ∀ k, S2 k → w.heap.size ≤ k := fun k hk => by
    rcases h3.sub k hk with h | h
    · rw [h]; omega
    · have := Hbl.out.size; omega
  have Hbel := Lib.hid hbel
  have Hsub := Lib.hid hsub
  have H3 := Lib.hid h3
  clear h2 h3 hc hbel hsub
  cases hk : (Psp.okR ⟨c, t, k, y, v, s⟩) with
  | true =>
    have hb : b2 = false := by rw [H3.out.wrote.isbad, hk]; rfl
    subst hb
    have Hk := Lib.hid hk
    clear hk
    go_wp2_with fail
    refine (done_p_good S2 _ o2 _ H3.out.wr).mono ?_
    rintro en w3 ⟨⟨v, rfl, hown, hS⟩, rfl⟩
    have ho := H3.out.wrote.isout rfl
    rw [List.nil_append] at ho
    rw [ho] at hown
    have Hown := Lib.hid (own_base hown fun b hb => Hsub.out b (hS b hb))
    clear hown hS ho
    go_wp2_with fail
    go_ret2
    exact ⟨v, ret_pair v Hk.out, by simpa [Hk.out] using Hown.out, Hbel.out⟩
  | false =>
    have hb : b2 = true := by rw [H3.out.wrote.isbad, hk]; rfl
    subst hb
    have Hk := Lib.hid hk
    clear hk
    go_wp2_with fail
    refine (done_p_bad S2 _ o2 _ H3.out.wr).mono ?_
    rintro en w3 ⟨rfl, rfl⟩
    go_wp2_with fail
    go_ret2
    exact ⟨.slice none 0 0, ret_pair _ Hk.out, by simpa [Hk.out] using World.ownsRow_nil _ _ _ _, Hbel.out⟩

end Go.Proofs.Ytnlnkcljehafkaa
