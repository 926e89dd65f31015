/- Package pack: Req, Batch, Votes, Certs, Parts. Printed by gen_top.py. -/
import Derived.Test.YtnlnkcljehafkaaPl
namespace Go.Proofs.Ytnlnkcljehafkaa
open Go.RowKit
set_option linter.unusedVariables false

/-- What a call that writes a thing returns: its bytes, or that there are none. -/
def Bytes (e : List UInt8) (ok : Bool) (w : World) (en : Ending) (w' : World) : Prop :=
  ∃ v, en = .returned (.tuple #[v, .bool ok]) ∧ w'.ownsRow w.heap.size 5 1 v (if ok then e else []).length ((if ok then e else []).map bv) ∧ Below w.heap.size w w'
theorem ret_pair {a b : Bool} (v : Value) (h : a = b) : Ending.returned (.tuple #[v, .bool b]) = .returned (.tuple #[v, .bool a]) := by rw [h]
theorem own_base {w : World} {base base' : Nat} {e : TypeId} {k n : Nat} {v : Value} {xs : List Value} (h : w.ownsRow base e k v n xs) (hb : ∀ b, v.ownBlock = some b → base' ≤ b) : w.ownsRow base' e k v n xs := by
  refine ⟨h.1, ?_⟩
  rcases h.2 with hn | ⟨b, cap, cur, rfl, _, hh, r⟩
  · exact .inl hn
  · exact .inr ⟨b, cap, cur, rfl, hb b rfl, hh, r⟩
theorem Wr.new (w : World) (T : TypeId) (g : Nat) (hg : w.heap.size = g) : Wr T (w.alloc (.cells #[.slice none 0 0, .bool false] T)) (fun k => k = g) g [] false := by
  subst hg
  exact ⟨⟨_, heap_alloc_new w _, World.ownsRow_nil _ _ _ _, fun k hk => by simp [Value.ownBlock] at hk⟩, rfl, fun k hk => by subst hk; simp⟩
theorem RdP.notnew {w : World} {B k n : Nat} {v : Value} {xs : List Value} (h : Rd w B k v n xs) (hB : B ≤ w.heap.size) (o : Obj) : RdP (w.alloc o) (fun b => ¬ b = w.heap.size) k v n xs :=
  ((h.to_p hB).mono fun b hb h1 he => by omega).below (alloc_below _ _)
theorem Keeps.newb (w : World) (o : Obj) : Keeps (fun b => b < w.heap.size) (fun b => ¬ b = w.heap.size) w (w.alloc o) := ⟨by simp, fun b hb hlt => ⟨(alloc_below w o).block b hlt, by omega⟩⟩

theorem done_w_bad (S : Nat → Prop) (g : Nat) (out : List UInt8) (w : World) (hW : Wr 88 w S g out true) :
    Calls Try.prog 54 #[.pointer (some ⟨g, 0, none⟩)] w fun e w' => e = .returned (.tuple #[.slice none 0 0, .bool false]) ∧ w = w' := by
  obtain ⟨A, c, hc1, hc2, k0, k1, z0, z1, hown, hS⟩ := hW.cells
  clear hW hown hS
  go_enter Try.func54, Try.ntmps54
  go_wp2_with fail
  go_ret2
  exact ⟨rfl, rfl⟩
theorem done_w_good (S : Nat → Prop) (g : Nat) (out : List UInt8) (w : World) (hW : Wr 88 w S g out false) :
    Calls Try.prog 54 #[.pointer (some ⟨g, 0, none⟩)] w fun e w' => (∃ v, e = .returned (.tuple #[v, .bool true]) ∧ w.ownsRow 0 5 1 v out.length (out.map bv) ∧ ∀ k, v.ownBlock = some k → S k) ∧ w = w' := by
  obtain ⟨A, c, hc1, hc2, k0, k1, z0, z1, hown, hS⟩ := hW.cells
  have Hown := Lib.hid hown
  have HS := Lib.hid hS
  clear hW hown hS
  go_enter Try.func54, Try.ntmps54
  go_wp2_with fail
  go_ret2
  exact ⟨⟨_, rfl, Hown.out, fun k hk => (HS.out k hk).1⟩, rfl⟩

set_option maxRecDepth 100000 in
theorem pk_req (c t k y v s : Int) (w : World) :
    Calls Try.prog 39 #[.agg #[.int .i64 c, .int .i64 t, .int .i64 k, .int .i64 y, .int .i64 v, .int .i64 s]] w (Bytes (Psp.encR ⟨c, t, k, y, v, s⟩) (Psp.okR ⟨c, t, k, y, v, s⟩) w) := by
  have hnew : Wr 88 ((w.alloc (.cells #[.int .i64 c, .int .i64 t, .int .i64 k, .int .i64 y, .int .i64 v, .int .i64 s] 26)).alloc (.cells #[.slice none 0 0, .bool false] 88)) (fun k => k = w.heap.size + 1) (w.heap.size + 1) [] false := Wr.new (w.alloc (.cells #[.int .i64 c, .int .i64 t, .int .i64 k, .int .i64 y, .int .i64 v, .int .i64 s] 26)) _ _ (by simp)
  have Hnew := Lib.hid hnew
  have hbl : Below w.heap.size w ((w.alloc (.cells #[.int .i64 c, .int .i64 t, .int .i64 k, .int .i64 y, .int .i64 v, .int .i64 s] 26)).alloc (.cells #[.slice none 0 0, .bool false] 88)) := ((alloc_below w _).trans ((alloc_below _ _).mono (by simp)))
  have Hbl := Lib.hid hbl
  clear hnew hbl
  go_enter Try.func39, Try.ntmps39
  go_wp2_with fail
  refine (req_wr c t k y v s _ _ [] false _ Hnew.out (by simp)).mono ?_
  intro en w2 hc
  obtain ⟨rfl, S2, o2, b2, h2⟩ := (WrS.start Hnew.out).step hc
  have h3 := h2.of (List.nil_append _) (Bool.true_and _)
  have hbel : Below w.heap.size w w2 := Hbl.out.trans (h3.fp.to_below (B := w.heap.size) Hbl.out.size (fun k _ hk => by rw [hk]; omega))
  have hsub : ∀ k, S2 k → w.heap.size ≤ k := fun k hk => by
    rcases h3.sub k hk with h | h
    · rw [h]; omega
    · have := Hbl.out.size; omega
  have Hbel := Lib.hid hbel
  have Hsub := Lib.hid hsub
  have H3 := Lib.hid h3
  clear h2 h3 hc hbel hsub
  cases hk : (Psp.okR ⟨c, t, k, y, v, s⟩) with
  | true =>
    have hb : b2 = false := by rw [H3.out.wrote.isbad, hk]; rfl
    subst hb
    have Hk := Lib.hid hk
    clear hk
    go_wp2_with fail
    refine (done_w_good S2 _ o2 _ H3.out.wr).mono ?_
    rintro en w3 ⟨⟨v, rfl, hown, hS⟩, rfl⟩
    have ho := H3.out.wrote.isout rfl
    rw [List.nil_append] at ho
    rw [ho] at hown
    have Hown := Lib.hid (own_base hown fun b hb => Hsub.out b (hS b hb))
    clear hown hS ho
    go_wp2_with fail
    go_ret2
    exact ⟨v, ret_pair v Hk.out, by simpa [Hk.out] using Hown.out, Hbel.out⟩
  | false =>
    have hb : b2 = true := by rw [H3.out.wrote.isbad, hk]; rfl
    subst hb
    have Hk := Lib.hid hk
    clear hk
    go_wp2_with fail
    refine (done_w_bad S2 _ o2 _ H3.out.wr).mono ?_
    rintro en w3 ⟨rfl, rfl⟩
    go_wp2_with fail
    go_ret2
    exact ⟨.slice none 0 0, ret_pair _ Hk.out, by simpa [Hk.out] using World.ownsRow_nil _ _ _ _, Hbel.out⟩

end Go.Proofs.Ytnlnkcljehafkaa
