/- psephoskeep.Copy, CopyCerts: what is copied reads as it did, in new memory. Printed by gen_cpy.py. -/
import Derived.Test.YtadpkjgjciodnaaGreatPhaseVi
import Derived.Test.YtadpkjgjciodnaaGreatJ14Vi
import Derived.Test.YtadpkjgjciodnaaGreatGfVi
namespace Go.Proofs.YtadpkjgjciodnaaGreat
open Go.RowKit
set_option linter.unusedVariables false
set_option linter.unusedSimpArgs false

theorem obj_below {W W' : World} {g : Nat} {o : Obj} {B : Nat} (h : W.heap[g]? = some o) (hb : Below B W W') (hB : W.heap.size ≤ B) : W'.heap[g]? = some o :=
  (hb.block g (Nat.lt_of_lt_of_le (Array.getElem?_eq_some_iff.1 h).1 hB)).trans h


theorem reqs_one (l : List Psp.Req) : ∀ u ∈ l.flatMap rq, u.oneCell' = true := fun u hu => by
  obtain ⟨r, _, hr⟩ := List.mem_flatMap.1 hu
  exact rq_one r u hr
theorem votes_one (l : List Psp.Vote) : ∀ u ∈ l.flatMap vt, u.oneCell' = true := fun u hu => by
  obtain ⟨r, _, hr⟩ := List.mem_flatMap.1 hu
  simp only [vt, List.mem_cons, List.not_mem_nil, or_false] at hr
  rcases hr with rfl | rfl <;> rfl
end Go.Proofs.YtadpkjgjciodnaaGreat
