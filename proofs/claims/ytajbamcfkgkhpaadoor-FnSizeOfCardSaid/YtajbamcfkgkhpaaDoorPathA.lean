/-
  Walks on search paths: lists of ints.
-/
import Derived.Test.YtajbamcfkgkhpaaDoorNamesA
import Derived.Test.YtajbamcfkgkhpaaDoorMem
import Derived.Test.YtajbamcfkgkhpaaDoorPlainB
namespace Go.Proofs.YtajbamcfkgkhpaaDoor
open Go Go.RowKit Imp

theorem ret_int {a b : Int} (h : a = b) : Ending.returned (.int .i64 a) = .returned (.int .i64 b) := by rw [h]

end Go.Proofs.YtajbamcfkgkhpaaDoor
