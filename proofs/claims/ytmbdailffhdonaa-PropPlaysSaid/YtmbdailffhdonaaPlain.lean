/- Plain functions on integers that the small functions of chapters 1 and 4 compute. No program in sight. -/
namespace Psp

/-- Any number as one from 0 to n - 1. -/
def within (v n : Int) : Int := if n < 1 then 0 else v % n

theorem within_lo (v n : Int) : 0 ≤ within v n := by
  unfold within
  split
  · omega
  · exact Int.emod_nonneg _ (by omega)

theorem within_hi (v n : Int) (h : 1 ≤ n) : within v n < n := by
  unfold within
  rw [if_neg (by omega)]
  exact Int.emod_lt_of_pos _ (by omega)

theorem within_self {v n : Int} (h0 : 0 ≤ v) (h : v < n) : within v n = v := by
  unfold within
  rw [if_neg (by omega)]
  exact Int.emod_eq_of_lt h0 h

def may (f : Int) : Bool := decide (1 ≤ f) && decide (f ≤ 4)
def nodes (f : Int) : Int := if 1 ≤ f ∧ f ≤ 4 then 3 * f + 1 else 0
def quorum (f : Int) : Int := if 1 ≤ f ∧ f ≤ 4 then 2 * f + 1 else 0
def weak (f : Int) : Int := if 1 ≤ f ∧ f ≤ 4 then f + 1 else 0
def primary (f view inst : Int) : Int :=
  if 1 ≤ f ∧ f ≤ 4 ∧ 0 ≤ view ∧ view ≤ 12 ∧ 0 ≤ inst ∧ inst ≤ f then (view + inst) % (3 * f + 1) else -1

theorem may_iff (f : Int) : may f = true ↔ 1 ≤ f ∧ f ≤ 4 := by simp [may]
theorem nodes_bd (f : Int) : 0 ≤ nodes f ∧ nodes f ≤ 13 := by unfold nodes; split <;> omega
theorem quorum_bd (f : Int) : 0 ≤ quorum f ∧ quorum f ≤ 9 := by unfold quorum; split <;> omega
theorem weak_bd (f : Int) : 0 ≤ weak f ∧ weak f ≤ 5 := by unfold weak; split <;> omega
theorem primary_bd (f view inst : Int) : -1 ≤ primary f view inst ∧ primary f view inst ≤ 12 := by
  unfold primary
  split
  · have h1 := Int.emod_nonneg (view + inst) (b := 3 * f + 1) (by omega)
    have h2 := Int.emod_lt_of_pos (view + inst) (b := 3 * f + 1) (by omega)
    omega
  · omega

def zig (n : Int) : Int := if n < -549755813888 ∨ 549755813888 ≤ n then 0 else if n < 0 then -2 * n - 1 else 2 * n
def zag (n : Int) : Int := if n < 0 ∨ 1099511627776 ≤ n then 0 else if n % 2 = 1 then -((n + 1) / 2) else n / 2

theorem zig_bd (n : Int) : 0 ≤ zig n ∧ zig n < 1099511627776 := by unfold zig; split <;> (try split) <;> omega
theorem zag_bd (n : Int) : -549755813888 ≤ zag n ∧ zag n < 549755813888 := by unfold zag; split <;> (try split) <;> omega
theorem zag_zig {n : Int} (h0 : -549755813888 ≤ n) (h : n < 549755813888) : zag (zig n) = n := by
  unfold zig
  rw [if_neg (by omega)]
  split <;> unfold zag <;> rw [if_neg (by omega)] <;> split <;> omega
theorem zig_zag {n : Int} (h0 : 0 ≤ n) (h : n < 1099511627776) : zig (zag n) = n := by
  unfold zag
  rw [if_neg (by omega)]
  split <;> unfold zig <;> rw [if_neg (by omega)] <;> split <;> omega

end Psp
