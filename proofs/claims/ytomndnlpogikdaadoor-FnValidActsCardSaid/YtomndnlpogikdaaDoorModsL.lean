/-
  Walk of the law on modules of drawn files.
-/
import Derived.Test.YtomndnlpogikdaaDoorDrawF
import Derived.Test.YtomndnlpogikdaaDoorLawsF
namespace Imp
open Go
theorem nameP_name {f : Fil} (h : okFil f = true) : vName (nameP f) = true := by
  unfold okFil at h
  simp only [Bool.and_eq_true] at h
  obtain ⟨⟨⟨⟨_, h2⟩, _⟩, _⟩, h5⟩ := h
  unfold nameP
  cases hi : f.init
  · rw [hi] at h5
    simp only [Bool.false_eq_true, ↓reduceIte, Bool.and_eq_true] at h5
    exact h5.2
  · rw [hi] at h5
    simp only [↓reduceIte, Bool.and_eq_true] at h5
    have he : (bs f.pkg).isEmpty = false := by rw [← isEmptyT]; simpa using h5.1
    unfold vPkg at h2
    rw [he, Bool.false_or] at h2
    exact h2
where isEmptyT {s : ByteArray} : s.toList.isEmpty = (bs s).isEmpty := by rw [Go.Proofs.YtomndnlpogikdaaDoor.isEmpty_toList]
theorem part_of_ok {f : Fil} (h : okFil f = true) (hi : f.init = false) : vPart (bs f.name) = true := by
  unfold okFil at h
  rw [hi] at h
  simp only [Bool.and_eq_true, Bool.false_eq_true, ↓reduceIte] at h
  exact h.2.1
end Imp
namespace Go.Proofs.YtomndnlpogikdaaDoor
open Go Go.RowKit Imp
set_option linter.unusedVariables false
set_option linter.unusedSimpArgs false

end Go.Proofs.YtomndnlpogikdaaDoor
