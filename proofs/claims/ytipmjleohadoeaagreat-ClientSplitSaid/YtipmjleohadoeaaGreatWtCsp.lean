/- What Within returns, by its numbers' ranges. -/
import Derived.Test.YtipmjleohadoeaaGreatGaCsp
import Derived.Test.YtipmjleohadoeaaGreatGbCsp
namespace Go.Proofs.YtipmjleohadoeaaGreat
open Go.RowKit
theorem within_i (v n : Int) (w : World) (hv : isI64 v) (hn : isI64 n) :
    Calls Tryz.prog 8 #[.int .i64 v, .int .i64 n] w fun e w' => e = .returned (.int .i64 (Psp.within v n)) ∧ w = w' := within_any v n w hv.1 hv.2 hn.1 hn.2
end Go.Proofs.YtipmjleohadoeaaGreat
