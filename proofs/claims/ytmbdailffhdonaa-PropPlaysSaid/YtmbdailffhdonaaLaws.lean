/- Laws at the operation 'append', for the walk: one new element behind a slice that the call owns; a whole slice behind it. No function in sight. -/
import Derived.Test.YtmbdailffhdonaaMem
namespace Go.Proofs.Ytmbdailffhdonaa
open Go.RowKit
set_option linter.unusedVariables false

/-- t is the type of slices of e, whose values have 'size' cells and 'bytes' bytes. -/
structure Elem (P : Program) (t e : TypeId) (size bytes : Nat) : Prop where
  under : P.underlying t = some (.slice e)
  info : (P.info? e).map (fun i => (i.zero.map (·.cells.size), i.size, i.bytes)) = some (some size, size, bytes)
  pos : 0 < size

theorem Elem.parts {P : Program} {t e : TypeId} {size bytes : Nat} (E : Elem P t e size bytes) :
    ∃ i z, P.info? e = some i ∧ i.zero = some z ∧ i.size = size ∧ i.bytes = bytes ∧ z.cells.size = size := by
  have h := E.info
  cases hi : P.info? e with
  | none => rw [hi] at h; simp at h
  | some i =>
    rw [hi] at h
    simp only [Option.map_some, Option.some.injEq, Prod.mk.injEq] at h
    obtain ⟨h1, h2, h3⟩ := h
    cases hz : i.zero with
    | none => rw [hz] at h1; simp at h1
    | some z => rw [hz] at h1; exact ⟨i, z, rfl, hz, h2, h3, by simpa using h1⟩

section
variable {P : Program} {t e : TypeId} {size bytes : Nat}

/-- append of a slice that is read, whatever it is, behind a slice that the call owns. -/
theorem run_app (E : Elem P t e size bytes) (w : World) (base : Nat) (ty : TypeId) (v : Value) (n : Nat) (xs : List Value) (hown : w.ownsRow base e size v n xs)
    (B : Nat) (y : Value) (m : Nat) (news : List Value) (hr : Rd w B size y m news) (h1 : ∀ u ∈ news, u.oneCell' = true)
    (h63 : n + m ≤ maxLen) (hbytes : (n + m) * bytes ≤ 140737488355328) (hbase : base ≤ w.heap.size) :
    ∃ v' w', (Builtin.append_ #[t, t] ty #[v, y]).run P w = .ok v' w' ∧ w'.ownsRow base e size v' (n + m) (xs ++ news) ∧ w.grownBy w' v.ownBlock ∧
      (v'.ownBlock = v.ownBlock ∨ v'.ownBlock = some w.heap.size) := by
  obtain ⟨i, z, hi, hz, hs, hb, hzs⟩ := E.parts
  have ht := E.under
  obtain ⟨hl, A, c, rfl, hc, hm, hcell⟩ := hr
  cases A with
  | none =>
    have hm0 : m = 0 := by
      rcases Nat.eq_zero_or_pos m with h | h
      · exact h
      · obtain ⟨_, _, h', _⟩ := hcell h
        cases h'
    subst hm0
    have hn : news = [] := List.eq_nil_of_length_eq_zero (by simpa using hl)
    subst hn
    refine ⟨v, w, ?_, by simpa using hown, World.grownBy.refl w _, .inl rfl⟩
    rcases hown.2 with ⟨rfl, rfl⟩ | ⟨g, cap, cur, rfl, _, _, hnc, _⟩
    · simp [Builtin.append_, run_underlying ht, sizeOf, typeInfo, hi, Builtin.lenOf, Builtin.firstCells]
    · simp [Builtin.append_, run_underlying ht, sizeOf, typeInfo, hi, Builtin.lenOf, Builtin.firstCells, hnc, storeCells]
  | some ad =>
    have hcells : ∀ j u, news[j]? = some u → w.cell? (ad.add j) = some u := by
      intro j u hu
      rcases Nat.eq_zero_or_pos m with h0 | h0
      · subst h0
        have hn : news = [] := List.eq_nil_of_length_eq_zero (by simpa using hl)
        subst hn
        simp at hu
      · obtain ⟨b, o, h, _, hcl⟩ := hcell h0
        injection h with h
        subst h
        have := hcl j u hu
        unfold Addr.add
        split
        · rename_i hj; subst hj; simpa using this
        · exact this
    obtain ⟨v', w', h2, h3, h4, _, h5⟩ := run_append_own_at (P := P) w base t ty e i z size bytes ht hi hz hs hb hzs E.pos v n xs hown ad m c news hl hcells h1 h63 hbytes hbase
    exact ⟨v', w', h2, h3, h4, h5⟩

theorem wp_app (E : Elem P t e size bytes) {w : World} {o : Oper} {a : Act} {K : Act → World → Prop} {Q : Exit → Act → World → Prop} (s x : Operand)
    (ho : o.op = .call { callee := .builtin .append, args := #[s, x], argTypes := #[t, t] })
    (base : Nat) (v : Value) (n : Nat) (xs : List Value) (hs : a.eval s = v) (hown : w.ownsRow base e size v n xs)
    (B : Nat) (y : Value) (m : Nat) (news : List Value) (hx : a.eval x = y) (hr : Rd w B size y m news) (h1 : ∀ u ∈ news, u.oneCell' = true)
    (h63 : n + m ≤ maxLen) (hbytes : (n + m) * bytes ≤ 140737488355328) (hbase : base ≤ w.heap.size)
    (h : ∀ v' w', w'.ownsRow base e size v' (n + m) (xs ++ news) → w.grownBy w' v.ownBlock → (v'.ownBlock = v.ownBlock ∨ v'.ownBlock = some w.heap.size) → K (a.put o.dst v') w') : o.wp P a w K Q := by
  obtain ⟨v', w', hrun, h2, h3, h4⟩ := run_app (P := P) E w base o.type v n xs hown B y m news hr h1 h63 hbytes hbase
  unfold Oper.wp execOp
  simp only [ho, resolve, invoke, builtin, Sem.run_bind, Sem.run_pure, Result.andThen_ok, List.map_toArray, List.map_cons, List.map_nil, hs, hx, hrun]
  exact h v' w' h2 h3 h4

theorem wpList_app (E : Elem P t e size bytes) {w : World} {ops : Array Oper} {rest : List Oper} {o : Oper} {a : Act} {Q : Exit → Act → World → Prop} (hgd : o.guard = none) (s x : Operand)
    (ho : o.op = .call { callee := .builtin .append, args := #[s, x], argTypes := #[t, t] })
    (base : Nat) (v : Value) (n : Nat) (xs : List Value) (hs : a.eval s = v) (hown : w.ownsRow base e size v n xs)
    (B : Nat) (y : Value) (m : Nat) (news : List Value) (hx : a.eval x = y) (hr : Rd w B size y m news) (h1 : ∀ u ∈ news, u.oneCell' = true)
    (h63 : n + m ≤ maxLen) (hbytes : (n + m) * bytes ≤ 140737488355328) (hbase : base ≤ w.heap.size)
    (h : ∀ v' w', w'.ownsRow base e size v' (n + m) (xs ++ news) → w.grownBy w' v.ownBlock → (v'.ownBlock = v.ownBlock ∨ v'.ownBlock = some w.heap.size) → wpList P ops Q rest (a.put o.dst v') w') :
    wpList P ops Q (o :: rest) a w :=
  wpList_plain hgd fun _ hK => wp_app E s x ho base v n xs hs hown B y m news hx hr h1 h63 hbytes hbase fun v' w' h2 h3 h4 => hK _ _ (h v' w' h2 h3 h4)

/-- A new block of one element reads as that element. -/
theorem Rd.lit (w : World) (cs : Array Value) (e k : Nat) (hk : cs.size = k) : Rd (w.alloc (.cells cs e)) (w.heap.size + 1) k (.slice (some ⟨w.heap.size, 0, none⟩) 1 1) 1 cs.toList := by
  refine ⟨by simpa using hk, _, 1, rfl, Nat.le_refl _, by simp [maxLen], fun _ => ⟨w.heap.size, 0, rfl, by omega, fun j u hu => ?_⟩⟩
  rw [Nat.zero_add, cell_of_row _ w.heap.size j cs e (0, 0) (heap_alloc_new w _)]
  simpa using hu

/-- append of one element, which has just been laid in a block of its own. -/
theorem wpList_app1 (E : Elem P t e size bytes) {w : World} {ops : Array Oper} {rest : List Oper} {o : Oper} {a : Act} {Q : Exit → Act → World → Prop} (hgd : o.guard = none) (s x : Operand)
    (ho : o.op = .call { callee := .builtin .append, args := #[s, x], argTypes := #[t, t] })
    (base : Nat) (v : Value) (n : Nat) (xs : List Value) (hs : a.eval s = v) (hown : w.ownsRow base e size v n xs)
    (cs : Array Value) (hx : a.eval x = .slice (some ⟨w.heap.size, 0, none⟩) 1 1) (hcs : cs.size = size) (h1 : ∀ u ∈ cs.toList, u.oneCell' = true)
    (hn : n ≤ 2147483648) (hbytes : bytes ≤ 65535) (hbase : base ≤ w.heap.size)
    (h : ∀ v' w', w'.ownsRow base e size v' (n + 1) (xs ++ cs.toList) → w.grownBy w' v.ownBlock → Below base w w' → (v'.ownBlock = v.ownBlock ∨ v'.ownBlock = some (w.heap.size + 1)) → wpList P ops Q rest (a.put o.dst v') w') :
    wpList P ops Q (o :: rest) a (w.alloc (.cells cs e)) := by
  have hb : (n + 1) * bytes ≤ 140737488355328 := by
    have h1 : (n + 1) * bytes ≤ 2147483649 * 65535 := Nat.mul_le_mul (by omega) hbytes
    omega
  refine wpList_app E hgd s x ho base v n xs hs (hown.alloc _) (w.heap.size + 1) _ 1 cs.toList hx (Rd.lit w cs e size hcs) h1 (by unfold maxLen; omega) hb (by simp; omega) ?_
  intro v' w' h2 h3 h4
  have h5 : w.grownBy w' v.ownBlock := (World.grownBy_alloc w _ _).trans h3
  refine h v' w' h2 h5 ?_ (by simpa using h4)
  exact (Below.refl base w).grown h5 hbase (fun k hk => (hown.lt k hk).1)
end

/-! ### A scope with several labels -/
/-- As Q; by a goto to a label: J. -/
def hop (J : Nat → Act → World → Prop) (Q : Exit → Act → World → Prop) : Exit → Act → World → Prop
  | .goto l, a, w => J l a w
  | e, a, w => Q e a w

section
variable {J : Nat → Act → World → Prop} {Q : Exit → Act → World → Prop} {a : Act} {w : World}
@[go_sem] theorem hop_normal : hop J Q .normal a w = Q .normal a w := rfl
@[go_sem] theorem hop_exit (i : Nat) : hop J Q (.exit i) a w = Q (.exit i) a w := rfl
@[go_sem] theorem hop_ret : hop J Q .ret a w = Q .ret a w := rfl
@[go_sem] theorem hop_panic (c : List PanicEntry) : hop J Q (.panic c) a w = Q (.panic c) a w := rfl
@[go_sem] theorem hop_goto (l : Nat) : hop J Q (.goto l) a w = J l a w := rfl

theorem wp_scope_hops_first {P : Program} {c : Code} (J : Nat → Act → World → Prop) (μ : Nat → Act → World → Nat)
    (first : c.wp P (hop J Q) a w)
    (pass : ∀ l a w, J l a w → ∃ rest, findLabel c l = some (.seq .skip rest) ∧ rest.wp P (hop (fun l' a' w' => J l' a' w' ∧ μ l' a' w' < μ l a w) Q) a w) : (Code.scope c).wp P Q a w := by
  intro b k cs
  have key : ∀ n l a w, μ l a w = n → J l a w → ∃ rest e a' w', findLabel c l = some rest ∧ Q e a' w' ∧ Arrives P (lone (b.at a (.code rest :: .inScope c :: k)) cs w) b k cs e a' w' := by
    intro n
    induction n using Nat.strongRecOn with
    | _ n ih =>
      intro l a w hn hJ
      obtain ⟨rest, hf, hw⟩ := pass l a w hJ
      obtain ⟨e, a₁, w₁, hq, harr0⟩ := hw b (.inScope c :: k) cs
      have harr : Arrives P (lone (b.at a (.code (.seq .skip rest) :: .inScope c :: k)) cs w) b (.inScope c :: k) cs e a₁ w₁ := .of_steps (.head step_seq (.one step_skip)) harr0
      refine ⟨.seq .skip rest, ?_⟩
      cases e with
      | normal => exact ⟨.normal, a₁, w₁, hf, hq, Steps.trans harr (.one step_inScope)⟩
      | exit id => exact ⟨.exit id, a₁, w₁, hf, hq, fun k' hk => harr k' (by simp [exitTo, hk])⟩
      | goto l' =>
        obtain ⟨hJ', hlt⟩ := hq
        obtain ⟨rest', e₂, a₂, w₂, hf', hq₂, harr₂⟩ := ih _ (by omega) l' a₁ w₁ rfl hJ'
        exact ⟨e₂, a₂, w₂, hf, hq₂, .of_steps (harr _ (by simp [gotoIn, hf'])) harr₂⟩
      | ret => exact ⟨_, a₁, w₁, hf, hq, harr⟩
      | panic ch => exact ⟨_, a₁, w₁, hf, hq, harr⟩
      | outgrown => exact ⟨_, a₁, w₁, hf, hq, harr⟩
  obtain ⟨e, a₁, w₁, hq, harr⟩ := first b (.inScope c :: k) cs
  cases e with
  | normal => exact ⟨.normal, a₁, w₁, hq, .head step_scope (Steps.trans harr (.one step_inScope))⟩
  | exit id => exact ⟨.exit id, a₁, w₁, hq, fun k' hk => .head step_scope (harr k' (by simp [exitTo, hk]))⟩
  | goto l' =>
    obtain ⟨rest, e₂, a₂, w₂, hf, hq₂, harr₂⟩ := key _ l' a₁ w₁ rfl hq
    exact ⟨e₂, a₂, w₂, hq₂, .of_steps (.head step_scope (harr _ (by simp [gotoIn, hf]))) harr₂⟩
  | ret => exact ⟨_, a₁, w₁, hq, .of_steps (.one step_scope) harr⟩
  | panic ch => exact ⟨_, a₁, w₁, hq, .of_steps (.one step_scope) harr⟩
  | outgrown => exact ⟨_, a₁, w₁, hq, .of_steps (.one step_scope) harr⟩

/-- The same; where the first way comes to a label by itself, it may go on as if it had jumped there. -/
theorem wp_scope_hops {P : Program} {c : Code} (J : Nat → Act → World → Prop) (μ : Nat → Act → World → Nat)
    (pass : ∀ l a w, J l a w → ∃ rest, findLabel c l = some (.seq .skip rest) ∧ rest.wp P (hop (fun l' a' w' => J l' a' w' ∧ μ l' a' w' < μ l a w) Q) a w)
    (first : (∀ l a w, J l a w → ∀ rest, findLabel c l = some (.seq .skip rest) → rest.wp P (hop J Q) a w) → c.wp P (hop J Q) a w) : (Code.scope c).wp P Q a w := by
  refine wp_scope_hops_first J μ (first ?_) pass
  intro l a w hJ rest hr
  obtain ⟨rest', hr', hw⟩ := pass l a w hJ
  rw [hr] at hr'
  injection hr' with hr'
  injection hr' with _ hr'
  subst hr'
  refine Code.wp_mono ?_ hw
  intro e a' w' hq
  cases e with
  | goto l' => exact hq.1
  | normal => exact hq
  | exit id => exact hq
  | ret => exact hq
  | panic ch => exact hq
  | outgrown => exact hq
end

end Go.Proofs.Ytmbdailffhdonaa
