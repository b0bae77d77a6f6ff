/-
  Walks on search paths: lists of ints.
-/
import Derived.Test.YtipklobcfmcebaaDoorNamesA
import Derived.Test.YtipklobcfmcebaaDoorMem
import Derived.Test.YtipklobcfmcebaaDoorPlainB
namespace Go.Proofs.YtipklobcfmcebaaDoor
open Go Go.RowKit Imp

theorem ret_int {a b : Int} (h : a = b) : Ending.returned (.int .i64 a) = .returned (.int .i64 b) := by rw [h]

end Go.Proofs.YtipklobcfmcebaaDoor
