/-
  Walks: lists of texts compared and searched, as the laws do it.
-/
import Derived.Test.YtomndnlpogikdaaDoorLawsD
import Derived.Test.YtomndnlpogikdaaDoorLawsG
import Derived.Test.YtomndnlpogikdaaDoorPlainF
import Derived.Test.YtomndnlpogikdaaDoorStrs
namespace Imp
open Go
theorem any_mem {x : List UInt8} {L : List (List UInt8)} : L.any (fun l => decide (l = x)) = decide (x ∈ L) := by
  by_cases h : x ∈ L
  · rw [decide_eq_true h, List.any_eq_true]; exact ⟨x, h, decide_eq_true rfl⟩
  · rw [decide_eq_false h, List.any_eq_false]; intro y hy; simp; intro e; subst e; exact h hy
theorem dots_le (l : List UInt8) : dots l ≤ l.length := List.countP_le_length ..
theorem fJoin_parts {l : List UInt8} (h : vName l = true) : fJoin (fParts l) = l := by
  have e : fParts l = spl l := by rw [fParts, h]; rfl
  obtain ⟨_, hp⟩ := vName_parts h
  unfold fJoin
  rw [e, jn_spl, h, List.all_eq_true.mpr hp]; rfl
end Imp
namespace Go.Proofs.YtomndnlpogikdaaDoor
open Go Go.RowKit Imp
set_option linter.unusedVariables false

end Go.Proofs.YtomndnlpogikdaaDoor
