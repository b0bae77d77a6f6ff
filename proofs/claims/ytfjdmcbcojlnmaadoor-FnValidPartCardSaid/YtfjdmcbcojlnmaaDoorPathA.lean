/-
  Walks on search paths: lists of ints.
-/
import Derived.Test.YtfjdmcbcojlnmaaDoorNamesA
import Derived.Test.YtfjdmcbcojlnmaaDoorMem
import Derived.Test.YtfjdmcbcojlnmaaDoorPlainB
namespace Go.Proofs.YtfjdmcbcojlnmaaDoor
open Go Go.RowKit Imp

theorem ret_int {a b : Int} (h : a = b) : Ending.returned (.int .i64 a) = .returned (.int .i64 b) := by rw [h]

end Go.Proofs.YtfjdmcbcojlnmaaDoor
