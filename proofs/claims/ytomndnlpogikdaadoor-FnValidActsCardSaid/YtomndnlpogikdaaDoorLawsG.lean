/-
  Walks: the package in common; the laws on names resolved, relative names and the package in common.
-/
import Derived.Test.YtomndnlpogikdaaDoorNamesF
import Derived.Test.YtomndnlpogikdaaDoorLawsF
namespace Go.Proofs.YtomndnlpogikdaaDoor
open Go Go.RowKit Imp
set_option linter.unusedVariables false

theorem fCommon_bad2 {a b : List UInt8} (h : vName b = false) : fCommon a b = [] := by
  unfold fCommon
  rw [filter_false (fun x _ => by rw [fUnder, h]; rfl)]; rfl
theorem fCommon_bad1 {a b : List UInt8} (h : vName a = false) : fCommon a b = [] := by
  unfold fCommon
  rw [fAbove, h]; rfl
theorem fAbove_small (s : List UInt8) : (fAbove s).length ≤ 3 ∧ ∀ n ∈ fAbove s, n.length ≤ 11 ∧ vName n = true := by
  unfold fAbove
  split
  · rename_i h
    refine ⟨by unfold aboveP; rw [List.length_map, List.length_range]; exact (vName_parts h).1, fun n hn => ?_⟩
    have := above_name h n hn
    exact ⟨vName_length this, this⟩
  · exact ⟨by simp, by simp⟩

end Go.Proofs.YtomndnlpogikdaaDoor
