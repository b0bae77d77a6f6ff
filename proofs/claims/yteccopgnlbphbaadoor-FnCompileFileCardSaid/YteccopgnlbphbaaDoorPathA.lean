/-
  Walks on search paths: lists of ints.
-/
import Derived.Test.YteccopgnlbphbaaDoorNamesA
import Derived.Test.YteccopgnlbphbaaDoorMem
import Derived.Test.YteccopgnlbphbaaDoorPlainB
namespace Go.Proofs.YteccopgnlbphbaaDoor
open Go Go.RowKit Imp

theorem ret_int {a b : Int} (h : a = b) : Ending.returned (.int .i64 a) = .returned (.int .i64 b) := by rw [h]

end Go.Proofs.YteccopgnlbphbaaDoor
