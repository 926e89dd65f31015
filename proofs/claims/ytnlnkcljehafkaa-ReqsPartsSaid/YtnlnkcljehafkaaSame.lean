/- The walks of psephoskeep.Same, psephoskeep.Copy. -/
import Derived.Test.YtnlnkcljehafkaaProg
import Derived.Test.YtnlnkcljehafkaaLaws
import Derived.WalkKit
import Derived.WalkSpells
import Derived.BigQuiet
import Derived.Deep.QuietTactic
namespace Go.Proofs.Ytnlnkcljehafkaa
open Go.RowKit
set_option linter.unusedVariables false

theorem bv_inj {a b : UInt8} (h : bv a = bv b) : a = b := by
  unfold bv at h
  injection h with _ h
  exact UInt8.toNat_inj.1 (by omega)

theorem take_step_eq {α : Type} [DecidableEq α] {l r : List α} {k : Nat} {d : α} (hl : k < l.length) (hr : k < r.length) (h : l.take k = r.take k) (e : l.getD k d = r.getD k d) : l.take (k + 1) = r.take (k + 1) := by
  rw [List.take_succ_eq_append_getElem hl, List.take_succ_eq_append_getElem hr, h]
  congr 2
  simpa [List.getD_eq_getElem?_getD, List.getElem?_eq_getElem hl, List.getElem?_eq_getElem hr] using e











end Go.Proofs.Ytnlnkcljehafkaa
