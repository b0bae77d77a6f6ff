/-
  Walks on search paths: lists of ints.
-/
import Derived.Test.YtomndnlpogikdaaDoorNamesA
import Derived.Test.YtomndnlpogikdaaDoorMem
import Derived.Test.YtomndnlpogikdaaDoorPlainB
namespace Go.Proofs.YtomndnlpogikdaaDoor
open Go Go.RowKit Imp

theorem ret_int {a b : Int} (h : a = b) : Ending.returned (.int .i64 a) = .returned (.int .i64 b) := by rw [h]

end Go.Proofs.YtomndnlpogikdaaDoor
