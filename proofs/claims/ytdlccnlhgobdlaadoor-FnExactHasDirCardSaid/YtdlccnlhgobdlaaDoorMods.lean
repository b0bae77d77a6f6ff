/-
  Walks: modules of files; the law that the two packages tell the same of them.
-/
import Derived.Test.YtdlccnlhgobdlaaDoorOpen
import Derived.Test.YtdlccnlhgobdlaaDoorTreeD
import Derived.Test.YtdlccnlhgobdlaaDoorTreeB
import Derived.Deep.RegionHeld3
namespace Imp
open Go
def nameP (f : Fil) : List UInt8 := if f.init then bs f.pkg else childP (bs f.pkg) (bs f.name)
def fMod (f : Fil) : List UInt8 := if okFil f then nameP f else []
theorem fMod_ok {f : Fil} (h : okFil f = true) : fMod f = nameP f := by unfold fMod; rw [if_pos h]
theorem fMod_bad {f : Fil} (h : okFil f = false) : fMod f = [] := by unfold fMod; rw [h]; rfl
theorem child_of_ok {f : Fil} (h : okFil f = true) (hi : f.init = false) : fChild (bs f.pkg) (bs f.name) = childP (bs f.pkg) (bs f.name) := by
  unfold okFil at h
  rw [hi] at h
  simp only [Bool.and_eq_true, Bool.false_eq_true, ↓reduceIte] at h
  unfold fChild
  rw [h.1.1.1.2, h.2.1, h.2.2]; rfl
end Imp
namespace Go.Proofs.YtdlccnlhgobdlaaDoor
open Go Go.RowKit Imp
set_option linter.unusedVariables false
set_option linter.unusedSimpArgs false

end Go.Proofs.YtdlccnlhgobdlaaDoor
