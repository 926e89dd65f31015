/- Two notaries that have sealed the same: begin, Two.Seal, Two.Msg. -/
import Derived.Test.YtljfoajhobambaaSlSp
import Derived.Test.YtljfoajhobambaaBxSp
import Derived.Test.YtljfoajhobambaaGdSp
import Derived.Test.YtljfoajhobambaaGgSp
import Derived.Test.YtljfoajhobambaaMxSp
import Derived.Test.YtljfoajhobambaaPhSSp
namespace Go.Proofs.Ytljfoajhobambaa
open Go.RowKit
set_option linter.unusedVariables false
set_option linter.unusedSimpArgs false

/-- Two notaries: blocks g, bm of the one; h and S of the other; K has been sealed. -/
structure Tw (W : World) (S : Nat → Prop) (g bm h : Nat) (K : List Key) : Prop where
  nt : Nt W g bm K
  nr : Ntr W S h K
  sep : ¬ S g ∧ ¬ S bm
  lt : ∀ b, S b → b < W.heap.size
  sh : S h
theorem Tw.below {W W' : World} {S : Nat → Prop} {g bm h : Nat} {K : List Key} (t : Tw W S g bm h K) (hb : Below W.heap.size W W') : Tw W' S g bm h K :=
  ⟨t.nt.below hb, t.nr.below hb, t.sep, fun b hS => Nat.lt_of_lt_of_le (t.lt b hS) hb.size, t.sh⟩

theorem Tw.fp {W W' : World} {S T : Nat → Prop} {g bm h : Nat} {K : List Key} (t : Tw W S g bm h K) (hf : Fp T W W') (h1 : ¬ T g) (h2 : ¬ T bm) (h3 : ∀ b, S b → ¬ T b) : Tw W' S g bm h K :=
  ⟨t.nt.fp hf h1 h2, t.nr.fp hf h3, t.sep, fun b hS => Nat.lt_of_lt_of_le (t.lt b hS) hf.size, t.sh⟩
end Go.Proofs.Ytljfoajhobambaa
