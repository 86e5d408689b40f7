/-
  The law NavNone walked, its last debt paid. No condition.
-/
import Derived.Test.YtkgdcglnkodgnaaLnone
import Derived.Test.YtkgdcglnkodgnaaNavAw
import Derived.Test.YtkgdcglnkodgnaaOpenP
namespace Go.Proofs.Ytkgdcglnkodgnaa
open Go.RowKit
theorem navNone12' (a b i : Int) (w : World) :
    Calls Try.prog 12 #[.agg #[.int .i64 a, .int .i64 b], .int .i64 i] w fun e w' => e = .returned (.bool true) ∧ Below w.heap.size w w' := navNone12 awake42 a b i w
end Go.Proofs.Ytkgdcglnkodgnaa
