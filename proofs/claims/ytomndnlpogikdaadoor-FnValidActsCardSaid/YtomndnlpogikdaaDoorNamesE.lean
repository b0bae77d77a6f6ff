/-
  Walks on names, further: relative names.
-/
import Derived.Test.YtomndnlpogikdaaDoorNamesD
namespace Go.Proofs.YtomndnlpogikdaaDoor
open Go Go.RowKit Imp
set_option linter.unusedVariables false

theorem fRelV_bad1 {p s : List UInt8} (h : vName p = false) : fRelV p s = (0, []) := by simp [fRelV, h]
theorem fRelV_bad2 {p s : List UInt8} (h : vName s = false) : fRelV p s = (0, []) := by simp [fRelV, h]
theorem fRelV_ok {p s : List UInt8} (h : vName p = true) (k : vName s = true) : fRelV p s = relP 3 1 p s := by simp [fRelV, h, k]
def relVal (p s : List UInt8) : Value := .tuple #[.int .i64 (fRelV p s).1, .string (mk (fRelV p s).2)]
theorem relVal_of {p s : List UInt8} {n : Nat} {l : List UInt8} (h : fRelV p s = (n, l)) {m : Int} {t : ByteArray} (hm : m = n) (ht : t = mk l) : Ending.returned (.tuple #[.int .i64 m, .string t]) = .returned (relVal p s) := by
  rw [relVal, h, hm, ht]

end Go.Proofs.YtomndnlpogikdaaDoor
