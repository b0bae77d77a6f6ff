/-
  Walks of the laws on drawn names: their last parts, parents and children.
-/
import Derived.Test.YtomndnlpogikdaaDoorDraw
import Derived.Test.YtomndnlpogikdaaDoorPlainD
import Derived.Test.YtomndnlpogikdaaDoorMark
namespace Go.Proofs.YtomndnlpogikdaaDoor
open Go Go.RowKit Imp
set_option linter.unusedVariables false

theorem beq_same (y : ByteArray) : (y.toList == y.toList) = true := beq_self_eq_true _
theorem bne_same (y : ByteArray) : (y.toList != y.toList) = false := by simp
theorem emp_of {y : ByteArray} {l : List UInt8} (h : bs y = l) : y.toList.isEmpty = l.isEmpty := by rw [isEmpty_toList, h]
theorem size_of {y : ByteArray} {l : List UInt8} (h : bs y = l) : y.size = l.length := by rw [← h, bs_length]
theorem emp_false {l : List UInt8} (h : l ≠ []) : l.isEmpty = false := by cases l with | nil => exact absurd rfl h | cons => rfl

end Go.Proofs.YtomndnlpogikdaaDoor
