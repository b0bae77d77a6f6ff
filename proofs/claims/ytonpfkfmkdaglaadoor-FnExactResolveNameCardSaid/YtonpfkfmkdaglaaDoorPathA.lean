/-
  Walks on search paths: lists of ints.
-/
import Derived.Test.YtonpfkfmkdaglaaDoorNamesA
import Derived.Test.YtonpfkfmkdaglaaDoorMem
import Derived.Test.YtonpfkfmkdaglaaDoorPlainB
namespace Go.Proofs.YtonpfkfmkdaglaaDoor
open Go Go.RowKit Imp

theorem ret_int {a b : Int} (h : a = b) : Ending.returned (.int .i64 a) = .returned (.int .i64 b) := by rw [h]

end Go.Proofs.YtonpfkfmkdaglaaDoor
