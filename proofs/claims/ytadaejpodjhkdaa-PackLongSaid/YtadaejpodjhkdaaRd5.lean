/- Package pack: what is taken out of bytes at a place. Printed by gen_rd5.py. -/
import Derived.Test.YtadaejpodjhkdaaRd4
import Derived.RegionTactic
import Derived.ChangeAlike
namespace Go.Proofs.Ytadaejpodjhkdaa
open Go.RowKit
set_option linter.unusedVariables false

theorem Rs.new {w : World} (T : TypeId) (x : Value) {a : Int} (ha : isI64 a) : Rs T (w.alloc (.cells #[x, .int .i64 a, .bool false] T)) w.heap.size x (some a) :=
  ⟨a, false, heap_alloc_new w _, ha, (fun c hc => ⟨by injection hc, rfl⟩), (fun h => by cases h)⟩
/-- What a call that takes a list at a place returns. -/
def Taken {α : Type} (d : Psp.Dec (List α)) (RD : World → (Nat → Prop) → Value → List α → Prop) (b : List UInt8) (a : Int) (w : World) (e : Ending) (w' : World) : Prop :=
  (∀ l a', d b a = some (l, a') → ∃ v, e = .returned (.tuple #[v, .int .i64 a', .bool true]) ∧ RD w' (fun k => w.heap.size ≤ k) v l) ∧
  (d b a = none → e = .returned (.tuple #[.slice none 0 0, .int .i64 0, .bool false])) ∧ Below w.heap.size w w'
/-- What a call that takes a request at a place returns. -/
def TakenR (b : List UInt8) (a : Int) (w : World) (e : Ending) (w' : World) : Prop :=
  (∀ r a', Psp.dR b a = some (r, a') → e = .returned (.tuple #[.agg (rq r).toArray, .int .i64 a', .bool true])) ∧
  (Psp.dR b a = none → e = .returned (.tuple #[.agg #[.int .i64 0, .int .i64 0, .int .i64 0, .int .i64 0, .int .i64 0, .int .i64 0], .int .i64 0, .bool false])) ∧ Below w.heap.size w w'

set_option maxRecDepth 100000 in
set_option maxHeartbeats 1000000 in
theorem wholeR (b : List UInt8) (x : Value) (a : Int) (w : World) (hx : RdP w (fun k => k < w.heap.size) 1 x b.length (b.map bv)) (ha : isI64 a) :
    Calls Try.prog 58 #[x, .int .i64 a, .func (.func 56) #[] #[]] w (Taken (Psp.dL Psp.dR) RdR b a w) := by
  have hx1 : RdP (w.alloc (.cells #[x, .int .i64 a, .bool false] 102)) (fun k => k ≠ w.heap.size) 1 x b.length (b.map bv) := hx.keeps (Keeps.newb _ _)
  have hr0 : Rs 102 (w.alloc (.cells #[x, .int .i64 a, .bool false] 102)) w.heap.size x (some a) := Rs.new _ x ha
  obtain ⟨_, A, c, rfl, _, _, _⟩ := hx.parts
  have HX := Lib.hid hx1
  have HR := Lib.hid hr0
  clear hx hx1 hr0
  go_enter Try.func58, Try.ntmps58
  go_wp2_with fail
  refine (rd_takenR b _ w.heap.size (some a) _ HX.out HR.out).mono ?_
  rintro e w1 ⟨v, l, rfl, hL, h3, h4, h5⟩
  have hz := h5.size
  have hbel : Below w.heap.size w w1 := (alloc_below w _).trans (h5.to_below (by simp) fun k _ hk => by omega)
  have hL2 : RdR w1 (fun k => w.heap.size ≤ k) v l := hL.keeps (Keeps.mono fun k _ hk => by simp at hk; omega)
  obtain ⟨p, bad, k0, k1, k2, z1, z2, _, hs, hn⟩ := h4.cells
  have HL := Lib.hid hL2
  have Hbel := Lib.hid hbel
  have H3 := Lib.hid h3
  cases hd : Psp.dL Psp.dR b a with
  | none =>
    rw [Psp.nxt_no hd] at hn
    have hbad := hn rfl
    subst hbad
    have Hd := Lib.hid hd
    clear hd hL hL2 h3 h4 h5 hbel hs hn k0 k1 z1 z2
    go_wp2_with fail
    go_ret3
    exact ⟨fun l a' h => (by rw [Hd.out] at h; cases h), fun _ => rfl, Hbel.out⟩
  | some q =>
    obtain ⟨l', a'⟩ := q
    rw [Psp.nxt_yes hd] at hs
    obtain ⟨hpa, hbad⟩ := hs a' rfl
    subst hpa hbad
    have hll : l = l' := H3.out (l', p) (by simp [hd])
    subst hll
    have Hd := Lib.hid hd
    have K1 := later_cell k1
    clear hd hL hL2 h3 h4 h5 hbel hs hn k0 z1 z2
    go_wp2_with fail
    refine wp_region_later (by kernel_rfl) (by kernel_rfl) ?_
    repeat (go_big_quiet_step (fail))
    refine wpQuiet_nil ?_
    intro w3 hw'
    have hb3 := later_out hw'
    clear hw'
    have Hb3 := Lib.hid hb3
    clear hb3
    go_wp2_with fail
    go_ret3
    exact ⟨fun l a' h => (by rw [Hd.out] at h; injection h with h; injection h with h1 h2; subst h1 h2; exact ⟨v, rfl, HL.out.keeps (Keeps.below Hb3.out)⟩), fun h => (by rw [Hd.out] at h; cases h), Below.then Hbel.out Hb3.out Hbel.out.size⟩

set_option maxRecDepth 100000 in
theorem takeR (b : List UInt8) (x : Value) (a : Int) (w : World) (hx : RdP w (fun k => k < w.heap.size) 1 x b.length (b.map bv)) (ha : isI64 a) :
    Calls Try.prog 28 #[x, .int .i64 a] w (Taken (Psp.dL Psp.dR) RdR b a w) := by
  have HX := Lib.hid hx
  have Ha := Lib.hid ha
  clear hx ha
  go_enter Try.func28, Try.ntmps28
  go_wp2_with fail
  refine (wholeR b x a w HX.out Ha.out).mono ?_
  intro e w1 h
  obtain ⟨h1, h2, h3⟩ := h
  have H1 := Lib.hid h1
  have H2 := Lib.hid h2
  have H3 := Lib.hid h3
  clear h1 h2 h3
  cases hd : Psp.dL Psp.dR b a with
  | none =>
    have he := H2.out hd
    subst he
    have Hd := Lib.hid hd
    clear hd
    go_wp2_with fail
    go_ret3
    exact ⟨fun l a' h => (by rw [Hd.out] at h; cases h), fun _ => rfl, H3.out⟩
  | some q =>
    obtain ⟨l, a'⟩ := q
    obtain ⟨v, he, hL⟩ := H1.out l a' hd
    subst he
    have Hd := Lib.hid hd
    have HL := Lib.hid hL
    clear hd hL
    go_wp2_with fail
    go_ret3
    exact ⟨fun l2 a2 h => (by rw [Hd.out] at h; injection h with h; injection h with h1 h2; subst h1 h2; exact ⟨v, rfl, HL.out⟩), fun h => (by rw [Hd.out] at h; cases h), H3.out⟩

set_option maxRecDepth 100000 in
set_option maxHeartbeats 1000000 in
theorem wholeV (b : List UInt8) (x : Value) (a : Int) (w : World) (hx : RdP w (fun k => k < w.heap.size) 1 x b.length (b.map bv)) (ha : isI64 a) :
    Calls Try.prog 52 #[x, .int .i64 a, .func (.func 53) #[] #[]] w (Taken (Psp.dL Psp.dV) RdV b a w) := by
  have hx1 : RdP (w.alloc (.cells #[x, .int .i64 a, .bool false] 102)) (fun k => k ≠ w.heap.size) 1 x b.length (b.map bv) := hx.keeps (Keeps.newb _ _)
  have hr0 : Rs 102 (w.alloc (.cells #[x, .int .i64 a, .bool false] 102)) w.heap.size x (some a) := Rs.new _ x ha
  obtain ⟨_, A, c, rfl, _, _, _⟩ := hx.parts
  have HX := Lib.hid hx1
  have HR := Lib.hid hr0
  clear hx hx1 hr0
  go_enter Try.func52, Try.ntmps52
  go_wp2_with fail
  refine (rd_takenV b _ w.heap.size (some a) _ HX.out HR.out).mono ?_
  rintro e w1 ⟨v, l, rfl, hL, h3, h4, h5⟩
  have hz := h5.size
  have hbel : Below w.heap.size w w1 := (alloc_below w _).trans (h5.to_below (by simp) fun k _ hk => by omega)
  have hL2 : RdV w1 (fun k => w.heap.size ≤ k) v l := hL.keeps (Keeps.mono fun k _ hk => by simp at hk; omega)
  obtain ⟨p, bad, k0, k1, k2, z1, z2, _, hs, hn⟩ := h4.cells
  have HL := Lib.hid hL2
  have Hbel := Lib.hid hbel
  have H3 := Lib.hid h3
  cases hd : Psp.dL Psp.dV b a with
  | none =>
    rw [Psp.nxt_no hd] at hn
    have hbad := hn rfl
    subst hbad
    have Hd := Lib.hid hd
    clear hd hL hL2 h3 h4 h5 hbel hs hn k0 k1 z1 z2
    go_wp2_with fail
    go_ret3
    exact ⟨fun l a' h => (by rw [Hd.out] at h; cases h), fun _ => rfl, Hbel.out⟩
  | some q =>
    obtain ⟨l', a'⟩ := q
    rw [Psp.nxt_yes hd] at hs
    obtain ⟨hpa, hbad⟩ := hs a' rfl
    subst hpa hbad
    have hll : l = l' := H3.out (l', p) (by simp [hd])
    subst hll
    have Hd := Lib.hid hd
    have K1 := later_cell k1
    clear hd hL hL2 h3 h4 h5 hbel hs hn k0 z1 z2
    go_wp2_with fail
    refine wp_region_later (by kernel_rfl) (by kernel_rfl) ?_
    repeat (go_big_quiet_step (fail))
    refine wpQuiet_nil ?_
    intro w3 hw'
    have hb3 := later_out hw'
    clear hw'
    have Hb3 := Lib.hid hb3
    clear hb3
    go_wp2_with fail
    go_ret3
    exact ⟨fun l a' h => (by rw [Hd.out] at h; injection h with h; injection h with h1 h2; subst h1 h2; exact ⟨v, rfl, HL.out.keeps (Keeps.below Hb3.out)⟩), fun h => (by rw [Hd.out] at h; cases h), Below.then Hbel.out Hb3.out Hbel.out.size⟩

set_option maxRecDepth 100000 in
theorem takeV (b : List UInt8) (x : Value) (a : Int) (w : World) (hx : RdP w (fun k => k < w.heap.size) 1 x b.length (b.map bv)) (ha : isI64 a) :
    Calls Try.prog 23 #[x, .int .i64 a] w (Taken (Psp.dL Psp.dV) RdV b a w) := by
  have HX := Lib.hid hx
  have Ha := Lib.hid ha
  clear hx ha
  go_enter Try.func23, Try.ntmps23
  go_wp2_with fail
  refine (wholeV b x a w HX.out Ha.out).mono ?_
  intro e w1 h
  obtain ⟨h1, h2, h3⟩ := h
  have H1 := Lib.hid h1
  have H2 := Lib.hid h2
  have H3 := Lib.hid h3
  clear h1 h2 h3
  cases hd : Psp.dL Psp.dV b a with
  | none =>
    have he := H2.out hd
    subst he
    have Hd := Lib.hid hd
    clear hd
    go_wp2_with fail
    go_ret3
    exact ⟨fun l a' h => (by rw [Hd.out] at h; cases h), fun _ => rfl, H3.out⟩
  | some q =>
    obtain ⟨l, a'⟩ := q
    obtain ⟨v, he, hL⟩ := H1.out l a' hd
    subst he
    have Hd := Lib.hid hd
    have HL := Lib.hid hL
    clear hd hL
    go_wp2_with fail
    go_ret3
    exact ⟨fun l2 a2 h => (by rw [Hd.out] at h; injection h with h; injection h with h1 h2; subst h1 h2; exact ⟨v, rfl, HL.out⟩), fun h => (by rw [Hd.out] at h; cases h), H3.out⟩

set_option maxRecDepth 100000 in
set_option maxHeartbeats 1000000 in
theorem wholeC (b : List UInt8) (x : Value) (a : Int) (w : World) (hx : RdP w (fun k => k < w.heap.size) 1 x b.length (b.map bv)) (ha : isI64 a) :
    Calls Try.prog 59 #[x, .int .i64 a, .func (.func 60) #[] #[]] w (Taken (Psp.dL Psp.dC) RdC b a w) := by
  have hx1 : RdP (w.alloc (.cells #[x, .int .i64 a, .bool false] 102)) (fun k => k ≠ w.heap.size) 1 x b.length (b.map bv) := hx.keeps (Keeps.newb _ _)
  have hr0 : Rs 102 (w.alloc (.cells #[x, .int .i64 a, .bool false] 102)) w.heap.size x (some a) := Rs.new _ x ha
  obtain ⟨_, A, c, rfl, _, _, _⟩ := hx.parts
  have HX := Lib.hid hx1
  have HR := Lib.hid hr0
  clear hx hx1 hr0
  go_enter Try.func59, Try.ntmps59
  go_wp2_with fail
  refine (rd_takenC b _ w.heap.size (some a) _ HX.out HR.out).mono ?_
  rintro e w1 ⟨v, l, rfl, hL, h3, h4, h5⟩
  have hz := h5.size
  have hbel : Below w.heap.size w w1 := (alloc_below w _).trans (h5.to_below (by simp) fun k _ hk => by omega)
  have hL2 : RdC w1 (fun k => w.heap.size ≤ k) v l := hL.keeps (Keeps.mono fun k _ hk => by simp at hk; omega)
  obtain ⟨p, bad, k0, k1, k2, z1, z2, _, hs, hn⟩ := h4.cells
  have HL := Lib.hid hL2
  have Hbel := Lib.hid hbel
  have H3 := Lib.hid h3
  cases hd : Psp.dL Psp.dC b a with
  | none =>
    rw [Psp.nxt_no hd] at hn
    have hbad := hn rfl
    subst hbad
    have Hd := Lib.hid hd
    clear hd hL hL2 h3 h4 h5 hbel hs hn k0 k1 z1 z2
    go_wp2_with fail
    go_ret3
    exact ⟨fun l a' h => (by rw [Hd.out] at h; cases h), fun _ => rfl, Hbel.out⟩
  | some q =>
    obtain ⟨l', a'⟩ := q
    rw [Psp.nxt_yes hd] at hs
    obtain ⟨hpa, hbad⟩ := hs a' rfl
    subst hpa hbad
    have hll : l = l' := H3.out (l', p) (by simp [hd])
    subst hll
    have Hd := Lib.hid hd
    have K1 := later_cell k1
    clear hd hL hL2 h3 h4 h5 hbel hs hn k0 z1 z2
    go_wp2_with fail
    refine wp_region_later (by kernel_rfl) (by kernel_rfl) ?_
    repeat (go_big_quiet_step (fail))
    refine wpQuiet_nil ?_
    intro w3 hw'
    have hb3 := later_out hw'
    clear hw'
    have Hb3 := Lib.hid hb3
    clear hb3
    go_wp2_with fail
    go_ret3
    exact ⟨fun l a' h => (by rw [Hd.out] at h; injection h with h; injection h with h1 h2; subst h1 h2; exact ⟨v, rfl, HL.out.keeps (Keeps.below Hb3.out)⟩), fun h => (by rw [Hd.out] at h; cases h), Below.then Hbel.out Hb3.out Hbel.out.size⟩

set_option maxRecDepth 100000 in
theorem takeC (b : List UInt8) (x : Value) (a : Int) (w : World) (hx : RdP w (fun k => k < w.heap.size) 1 x b.length (b.map bv)) (ha : isI64 a) :
    Calls Try.prog 32 #[x, .int .i64 a] w (Taken (Psp.dL Psp.dC) RdC b a w) := by
  have HX := Lib.hid hx
  have Ha := Lib.hid ha
  clear hx ha
  go_enter Try.func32, Try.ntmps32
  go_wp2_with fail
  refine (wholeC b x a w HX.out Ha.out).mono ?_
  intro e w1 h
  obtain ⟨h1, h2, h3⟩ := h
  have H1 := Lib.hid h1
  have H2 := Lib.hid h2
  have H3 := Lib.hid h3
  clear h1 h2 h3
  cases hd : Psp.dL Psp.dC b a with
  | none =>
    have he := H2.out hd
    subst he
    have Hd := Lib.hid hd
    clear hd
    go_wp2_with fail
    go_ret3
    exact ⟨fun l a' h => (by rw [Hd.out] at h; cases h), fun _ => rfl, H3.out⟩
  | some q =>
    obtain ⟨l, a'⟩ := q
    obtain ⟨v, he, hL⟩ := H1.out l a' hd
    subst he
    have Hd := Lib.hid hd
    have HL := Lib.hid hL
    clear hd hL
    go_wp2_with fail
    go_ret3
    exact ⟨fun l2 a2 h => (by rw [Hd.out] at h; injection h with h; injection h with h1 h2; subst h1 h2; exact ⟨v, rfl, HL.out⟩), fun h => (by rw [Hd.out] at h; cases h), H3.out⟩

set_option maxRecDepth 100000 in
set_option maxHeartbeats 1000000 in
theorem wholeP (b : List UInt8) (x : Value) (a : Int) (w : World) (hx : RdP w (fun k => k < w.heap.size) 1 x b.length (b.map bv)) (ha : isI64 a) :
    Calls Try.prog 61 #[x, .int .i64 a, .func (.func 62) #[] #[]] w (Taken (Psp.dL Psp.dP) RdA b a w) := by
  have hx1 : RdP (w.alloc (.cells #[x, .int .i64 a, .bool false] 102)) (fun k => k ≠ w.heap.size) 1 x b.length (b.map bv) := hx.keeps (Keeps.newb _ _)
  have hr0 : Rs 102 (w.alloc (.cells #[x, .int .i64 a, .bool false] 102)) w.heap.size x (some a) := Rs.new _ x ha
  obtain ⟨_, A, c, rfl, _, _, _⟩ := hx.parts
  have HX := Lib.hid hx1
  have HR := Lib.hid hr0
  clear hx hx1 hr0
  go_enter Try.func61, Try.ntmps61
  go_wp2_with fail
  refine (rd_takenP b _ w.heap.size (some a) _ HX.out HR.out).mono ?_
  rintro e w1 ⟨v, l, rfl, hL, h3, h4, h5⟩
  have hz := h5.size
  have hbel : Below w.heap.size w w1 := (alloc_below w _).trans (h5.to_below (by simp) fun k _ hk => by omega)
  have hL2 : RdA w1 (fun k => w.heap.size ≤ k) v l := hL.keeps (Keeps.mono fun k _ hk => by simp at hk; omega)
  obtain ⟨p, bad, k0, k1, k2, z1, z2, _, hs, hn⟩ := h4.cells
  have HL := Lib.hid hL2
  have Hbel := Lib.hid hbel
  have H3 := Lib.hid h3
  cases hd : Psp.dL Psp.dP b a with
  | none =>
    rw [Psp.nxt_no hd] at hn
    have hbad := hn rfl
    subst hbad
    have Hd := Lib.hid hd
    clear hd hL hL2 h3 h4 h5 hbel hs hn k0 k1 z1 z2
    go_wp2_with fail
    go_ret3
    exact ⟨fun l a' h => (by rw [Hd.out] at h; cases h), fun _ => rfl, Hbel.out⟩
  | some q =>
    obtain ⟨l', a'⟩ := q
    rw [Psp.nxt_yes hd] at hs
    obtain ⟨hpa, hbad⟩ := hs a' rfl
    subst hpa hbad
    have hll : l = l' := H3.out (l', p) (by simp [hd])
    subst hll
    have Hd := Lib.hid hd
    have K1 := later_cell k1
    clear hd hL hL2 h3 h4 h5 hbel hs hn k0 z1 z2
    go_wp2_with fail
    refine wp_region_later (by kernel_rfl) (by kernel_rfl) ?_
    repeat (go_big_quiet_step (fail))
    refine wpQuiet_nil ?_
    intro w3 hw'
    have hb3 := later_out hw'
    clear hw'
    have Hb3 := Lib.hid hb3
    clear hb3
    go_wp2_with fail
    go_ret3
    exact ⟨fun l a' h => (by rw [Hd.out] at h; injection h with h; injection h with h1 h2; subst h1 h2; exact ⟨v, rfl, HL.out.keeps (Keeps.below Hb3.out)⟩), fun h => (by rw [Hd.out] at h; cases h), Below.then Hbel.out Hb3.out Hbel.out.size⟩

set_option maxRecDepth 100000 in
theorem takeP (b : List UInt8) (x : Value) (a : Int) (w : World) (hx : RdP w (fun k => k < w.heap.size) 1 x b.length (b.map bv)) (ha : isI64 a) :
    Calls Try.prog 34 #[x, .int .i64 a] w (Taken (Psp.dL Psp.dP) RdA b a w) := by
  have HX := Lib.hid hx
  have Ha := Lib.hid ha
  clear hx ha
  go_enter Try.func34, Try.ntmps34
  go_wp2_with fail
  refine (wholeP b x a w HX.out Ha.out).mono ?_
  intro e w1 h
  obtain ⟨h1, h2, h3⟩ := h
  have H1 := Lib.hid h1
  have H2 := Lib.hid h2
  have H3 := Lib.hid h3
  clear h1 h2 h3
  cases hd : Psp.dL Psp.dP b a with
  | none =>
    have he := H2.out hd
    subst he
    have Hd := Lib.hid hd
    clear hd
    go_wp2_with fail
    go_ret3
    exact ⟨fun l a' h => (by rw [Hd.out] at h; cases h), fun _ => rfl, H3.out⟩
  | some q =>
    obtain ⟨l, a'⟩ := q
    obtain ⟨v, he, hL⟩ := H1.out l a' hd
    subst he
    have Hd := Lib.hid hd
    have HL := Lib.hid hL
    clear hd hL
    go_wp2_with fail
    go_ret3
    exact ⟨fun l2 a2 h => (by rw [Hd.out] at h; injection h with h; injection h with h1 h2; subst h1 h2; exact ⟨v, rfl, HL.out⟩), fun h => (by rw [Hd.out] at h; cases h), H3.out⟩

theorem row_store {W : World} {g : Nat} {zs : Array Value} {T : TypeId} (h : W.heap[g]? = some (.cells zs T (0, 0))) (l : List Value) (hl : l.length = zs.size) : (W.setCells g 0 l).heap[g]? = some (.cells l.toArray T (0, 0)) ∧ ∀ b, b ≠ g → (W.setCells g 0 l).heap[b]? = W.heap[b]? := by
  have key : ∀ (vs : List Value) (k : Nat) (W : World) (pre : List Value), W.heap[g]? = some (.cells (pre ++ zs.toList.drop k).toArray T (0, 0)) → pre.length = k → k + vs.length = zs.size → (W.setCells g k vs).heap[g]? = some (.cells (pre ++ vs).toArray T (0, 0)) := by
    intro vs
    induction vs with
    | nil =>
      intro k W pre h1 h2 h3
      rw [List.drop_eq_nil_of_le (by simp at h3 ⊢; omega)] at h1
      exact h1
    | cons v vs ih =>
      intro k W pre h1 h2 h3
      have h4 : (W.setCell ⟨g, k, none⟩ v).heap[g]? = some (.cells ((pre ++ [v]) ++ zs.toList.drop (k + 1)).toArray T (0, 0)) := by
        rw [heap_setCell_same W _ k _ _ v h1]
        congr 2
        have hk : k < zs.toList.length := by simp at h3 ⊢; omega
        rw [List.drop_eq_getElem_cons hk]
        apply Array.ext'
        simp [h2]
      have := ih (k + 1) _ (pre ++ [v]) h4 (by simp [h2]) (by simp at h3 ⊢; omega)
      simpa [World.setCells] using this
  have oth : ∀ (vs : List Value) (k : Nat) (W : World) (b : Nat), b ≠ g → (W.setCells g k vs).heap[b]? = W.heap[b]? := by
    intro vs
    induction vs with
    | nil => intro k W b _; rfl
    | cons v vs ih =>
      intro k W b hb
      exact (ih (k + 1) _ b hb).trans (Below.heap_setCell W ⟨g, k, none⟩ _ b hb)
  exact ⟨by simpa using key l 0 W [] (by simpa using h) rfl (by simpa using hl), fun b hb => oth l 0 W b hb⟩
theorem row_there {W : World} {g : Nat} {zs : Array Value} {T : TypeId} (h : W.heap[g]? = some (.cells zs T (0, 0))) : W.there g 0 zs.size := fun j hj => by
  refine ⟨?_, frozen_of_row W _ (0 + j) _ _ h⟩
  rw [Nat.zero_add, cell_of_row W _ j _ _ _ h]
  simp [hj]
theorem below_setCells {B : Nat} {a w : World} (h : Below B a w) (g : Nat) (hg : B ≤ g) (l : List Value) : Below B a (w.setCells g 0 l) := by
  have h1 : Fp (fun k => k = g) w (w.setCells g 0 l) := (Fp.refl (fun k => k = g) w).setCells (Or.inl rfl) l
  have hs := h1.size
  refine ⟨h1.os.trans h.os, h1.tape.trans h.tape, h1.output.trans h.output, by have := h.size; omega, fun k hk => ?_⟩
  by_cases hlt : k < w.heap.size
  · exact (h1.block k hlt (by omega)).trans (h.block k hk)
  · have := h.block k hk
    rw [Array.getElem?_eq_none (by omega)] at this
    rw [← this, Array.getElem?_eq_none]
    rw [setCells_size]; omega
theorem results_cell_row2 {P : Program} {fn : Func} {p u v : Tmp} {ty : TypeId} (h : fn.results = #[.cell p ty, .tmp u, .tmp v]) (tmps : Array Value) (w : World) (g : Nat) (t : TypeId) (cs : Array Value) (fr : Nat × Nat) (d : TypeDesc)
    (hp : tmps.getD p undef = .pointer (some ⟨g, 0, none⟩)) (hg : w.heap[g]? = some (.cells cs t fr))
    (hu : P.underlying ty = some d) (hd : (match d with | .struct _ | .array _ _ => true | _ => false) = true) (hi : (P.info? ty).map (·.size) = some cs.size) :
    (results fn tmps).run P w = .ok (.tuple #[.agg cs, tmps.getD u undef, tmps.getD v undef]) w := by
  have hp' : tmps[p]?.getD undef = .pointer (some ⟨g, 0, none⟩) := by simpa using hp
  simp [results, h, hp', asAddr, run_loadVar_row w g t ty cs fr d hg hu hd hi]

set_option maxRecDepth 100000 in
set_option maxHeartbeats 1000000 in
theorem takeReq (b : List UInt8) (x : Value) (a : Int) (w : World) (hx : RdP w (fun k => k < w.heap.size) 1 x b.length (b.map bv)) (ha : isI64 a) :
    Calls Try.prog 26 #[x, .int .i64 a] w (TakenR b a w) := by
  have hx1 : RdP ((w.alloc (.cells #[.int .i64 0, .int .i64 0, .int .i64 0, .int .i64 0, .int .i64 0, .int .i64 0] 31)).alloc (.cells #[x, .int .i64 a, .bool false] 102)) (fun k => k ≠ w.heap.size + 1) 1 x b.length (b.map bv) := (hx.below (alloc_below w _)).keeps ⟨by simp, fun k hk _ => ⟨(alloc_below _ _).block k (by simp; omega), by omega⟩⟩
  have hr0 : Rs 102 ((w.alloc (.cells #[.int .i64 0, .int .i64 0, .int .i64 0, .int .i64 0, .int .i64 0, .int .i64 0] 31)).alloc (.cells #[x, .int .i64 a, .bool false] 102)) (w.heap.size + 1) x (some a) := by simpa using Rs.new (w := w.alloc (.cells #[.int .i64 0, .int .i64 0, .int .i64 0, .int .i64 0, .int .i64 0, .int .i64 0] 31)) 102 x ha
  have hrr : ((w.alloc (.cells #[.int .i64 0, .int .i64 0, .int .i64 0, .int .i64 0, .int .i64 0, .int .i64 0] 31)).alloc (.cells #[x, .int .i64 a, .bool false] 102)).heap[w.heap.size]? = some (.cells #[.int .i64 0, .int .i64 0, .int .i64 0, .int .i64 0, .int .i64 0, .int .i64 0] 31 (0, 0)) := ((alloc_below _ _).block w.heap.size (by simp)).trans (heap_alloc_new w _)
  have hb0 : Below w.heap.size w ((w.alloc (.cells #[.int .i64 0, .int .i64 0, .int .i64 0, .int .i64 0, .int .i64 0, .int .i64 0] 31)).alloc (.cells #[x, .int .i64 a, .bool false] 102)) := (alloc_below w _).trans ((alloc_below _ _).mono (by simp))
  obtain ⟨_, A, c, rfl, _, _, _⟩ := hx.parts
  have HX := Lib.hid hx1
  have HR := Lib.hid hr0
  have Hrr := Lib.hid hrr
  have Hb0 := Lib.hid hb0
  clear hx hx1 hr0 hrr hb0
  go_enter Try.func26, Try.ntmps26
  go_wp2_with fail
  refine (rd_req b _ (w.heap.size + 1) (some a) _ HX.out HR.out).mono ?_
  rintro e w1 ⟨r, rfl, h3, h4, h5⟩
  have hz := h5.size
  have hrb := (h5.block w.heap.size (by simp; omega) (by omega)).trans Hrr.out
  have hb1 : Below w.heap.size w w1 := Hb0.out.trans (h5.to_below (B := w.heap.size) (by simp; omega) (fun k _ hk => by omega))
  have hth := row_there hrb
  obtain ⟨s1, s2⟩ := row_store hrb [.int .i64 r.c, .int .i64 r.t, .int .i64 r.k, .int .i64 r.y, .int .i64 r.v, .int .i64 r.s] rfl
  have hr2 := h4.keep (s2 (w.heap.size + 1) (by omega))
  have hb2 := below_setCells hb1 w.heap.size (Nat.le_refl _) [.int .i64 r.c, .int .i64 r.t, .int .i64 r.k, .int .i64 r.y, .int .i64 r.v, .int .i64 r.s]
  obtain ⟨p, bad, k0, k1, k2, z1, z2, _, hs, hn⟩ := hr2.cells
  have Hth := Lib.hid hth
  have S1 := Lib.hid s1
  have Hb2 := Lib.hid hb2
  have H3 := Lib.hid h3
  obtain ⟨W2, hW2⟩ : ∃ W2, w1.setCells w.heap.size 0 [.int .i64 r.c, .int .i64 r.t, .int .i64 r.k, .int .i64 r.y, .int .i64 r.v, .int .i64 r.s] = W2 := ⟨_, rfl⟩
  have HW2 := Lib.hid hW2
  cases hd : Psp.dR b a with
  | none =>
    rw [Psp.nxt_no hd] at hn
    have hbad := hn rfl
    subst hbad
    have Hd := Lib.hid hd
    rw [hW2] at k2 S1 Hb2
    clear hd h3 h4 h5 hs hn k0 k1 z1 z2 hrb hb1 hth s1 s2 hr2 hb2 hW2
    have hth2 := row_there S1.out
    have Hth2 := Lib.hid hth2
    obtain ⟨t1, t2⟩ := row_store S1.out [.int .i64 0, .int .i64 0, .int .i64 0, .int .i64 0, .int .i64 0, .int .i64 0] rfl
    have T1 := Lib.hid t1
    clear hth2 t1 t2
    go_wp2_with (first | (refine wpList_store_mid rfl 31 (.tmp 4) (.tmp 13) rfl w.heap.size 0 #[.int .i64 r.c, .int .i64 r.t, .int .i64 r.k, .int .i64 r.y, .int .i64 r.v, .int .i64 r.s] rfl rfl Hth.out sizeR (by simp [Value.oneCell']) ?_; rw [show w1.setCells w.heap.size 0 (#[.int .i64 r.c, .int .i64 r.t, .int .i64 r.k, .int .i64 r.y, .int .i64 r.v, .int .i64 r.s] : Array Value).toList = W2 from HW2.out]) | (refine wpList_store_mid rfl 31 (.tmp 4) (.tmp 18) rfl w.heap.size 0 #[.int .i64 0, .int .i64 0, .int .i64 0, .int .i64 0, .int .i64 0, .int .i64 0] rfl rfl Hth2.out sizeR (by simp [Value.oneCell']) ?_))
    refine bodyPost_ret (v := .tuple #[.agg #[.int .i64 0, .int .i64 0, .int .i64 0, .int .i64 0, .int .i64 0, .int .i64 0], .int .i64 0, .bool false]) ?_ rfl ?_
    · exact results_cell_row2 Try.results26 _ _ w.heap.size _ _ _ _ rfl T1.out Try.underlying31 rfl sizeR
    · exact ⟨fun r a' h => (by rw [Hd.out] at h; cases h), fun _ => rfl, below_setCells Hb2.out w.heap.size (Nat.le_refl _) _⟩
  | some q =>
    obtain ⟨r', a'⟩ := q
    rw [Psp.nxt_yes hd] at hs
    obtain ⟨hpa, hbad⟩ := hs a' rfl
    subst hpa hbad
    have hll : r = r' := H3.out (r', p) (by simp [hd])
    subst hll
    have Hd := Lib.hid hd
    rw [hW2] at k1 k2 S1 Hb2
    have hx : ∀ j u, (rq r)[j]? = some u → W2.cell? ⟨w.heap.size, j, none⟩ = some u := fun j u hu => by
      rw [cell_of_row W2 _ j _ _ _ S1.out]; simpa [rq, iv] using hu
    have x0 := hx 0 _ rfl
    have x1 := hx 1 _ rfl
    have x2 := hx 2 _ rfl
    have x3 := hx 3 _ rfl
    have x4 := hx 4 _ rfl
    have x5 := hx 5 _ rfl
    simp only [iv] at x0 x1 x2 x3 x4 x5
    clear hd h3 h4 h5 hs hn k0 z1 z2 hrb hb1 hth s1 s2 hr2 hb2 hW2 hx
    obtain ⟨t1, t2⟩ := row_store S1.out [.int .i64 r.c, .int .i64 r.t, .int .i64 r.k, .int .i64 r.y, .int .i64 r.v, .int .i64 r.s] rfl
    have es : W2.setCells w.heap.size 0 [.int .i64 r.c, .int .i64 r.t, .int .i64 r.k, .int .i64 r.y, .int .i64 r.v, .int .i64 r.s] = ((((((W2.setCell ⟨w.heap.size, 0, none⟩ (.int .i64 r.c)).setCell ⟨w.heap.size, 1, none⟩ (.int .i64 r.t)).setCell ⟨w.heap.size, 2, none⟩ (.int .i64 r.k)).setCell ⟨w.heap.size, 3, none⟩ (.int .i64 r.y)).setCell ⟨w.heap.size, 4, none⟩ (.int .i64 r.v)).setCell ⟨w.heap.size, 5, none⟩ (.int .i64 r.s)) := by simp only [World.setCells, Nat.zero_add, Nat.reduceAdd]
    have hb4 := below_setCells Hb2.out w.heap.size (Nat.le_refl _) [.int .i64 r.c, .int .i64 r.t, .int .i64 r.k, .int .i64 r.y, .int .i64 r.v, .int .i64 r.s]
    rw [es] at t1 hb4
    have hb4 := hb4.drew
    obtain ⟨W4, hW4⟩ : ∃ W4, ((((((W2.setCell ⟨w.heap.size, 0, none⟩ (.int .i64 r.c)).setCell ⟨w.heap.size, 1, none⟩ (.int .i64 r.t)).setCell ⟨w.heap.size, 2, none⟩ (.int .i64 r.k)).setCell ⟨w.heap.size, 3, none⟩ (.int .i64 r.y)).setCell ⟨w.heap.size, 4, none⟩ (.int .i64 r.v)).setCell ⟨w.heap.size, 5, none⟩ (.int .i64 r.s)) = W4 := ⟨_, rfl⟩
    rw [hW4] at t1 hb4
    have T1 : Hid (W4.drew.heap[w.heap.size]? = some (.cells #[.int .i64 r.c, .int .i64 r.t, .int .i64 r.k, .int .i64 r.y, .int .i64 r.v, .int .i64 r.s] 31 (0, 0))) := Lib.hid t1
    have HW4 := Lib.hid hW4
    have Hb4 := Lib.hid hb4
    clear t1 t2 hb4 es hW4
    go_wp2_with (refine wpList_store_mid rfl 31 (.tmp 4) (.tmp 13) rfl w.heap.size 0 #[.int .i64 r.c, .int .i64 r.t, .int .i64 r.k, .int .i64 r.y, .int .i64 r.v, .int .i64 r.s] rfl rfl Hth.out sizeR (by simp [Value.oneCell']) ?_; rw [show w1.setCells w.heap.size 0 (#[.int .i64 r.c, .int .i64 r.t, .int .i64 r.k, .int .i64 r.y, .int .i64 r.v, .int .i64 r.s] : Array Value).toList = W2 from HW2.out])
    have f0 := frozen_of_row W2 w.heap.size 0 _ _ S1.out
    have f1 := frozen_of_row W2 w.heap.size 1 _ _ S1.out
    have f2 := frozen_of_row W2 w.heap.size 2 _ _ S1.out
    have f3 := frozen_of_row W2 w.heap.size 3 _ _ S1.out
    have f4 := frozen_of_row W2 w.heap.size 4 _ _ S1.out
    have f5 := frozen_of_row W2 w.heap.size 5 _ _ S1.out
    go_region
    rw [HW4.out]
    go_wp2_with fail
    refine bodyPost_ret (v := .tuple #[.agg #[.int .i64 r.c, .int .i64 r.t, .int .i64 r.k, .int .i64 r.y, .int .i64 r.v, .int .i64 r.s], .int .i64 p, .bool true]) ?_ rfl ?_
    · exact results_cell_row2 Try.results26 _ _ w.heap.size _ _ _ _ rfl T1.out Try.underlying31 rfl sizeR
    · exact ⟨fun r2 a2 h => (by rw [Hd.out] at h; injection h with h; injection h with h1 h2; subst h1 h2; rfl), fun h => (by rw [Hd.out] at h; cases h), Hb4.out⟩

end Go.Proofs.Ytadaejpodjhkdaa
