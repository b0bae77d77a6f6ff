/-
  Walks of the laws whose answer is a slice of strings.
-/
import Derived.Test.YtomndnlpogikdaaDoorMark
namespace Go.Proofs.YtomndnlpogikdaaDoor
open Go Go.RowKit Imp
set_option linter.unusedVariables false

theorem fParts_length (l : List UInt8) : (fParts l).length ≤ 3 := by
  unfold fParts
  split
  · rename_i h
    unfold vName at h
    rw [Bool.and_eq_true] at h
    exact of_decide_eq_true h.2
  · simp

theorem slr_grown {α : Type} {w w' : World} {lo hi k : Nat} {enc : α → List Value} {v : Value} {L : List α} (h : SlR w lo hi k enc v L) {g : Option Nat} (hg : w.grownBy w' g) (hh : hi ≤ w.heap.size) (hb : ∀ b, g = some b → hi ≤ b) : SlR w' lo hi k enc v L :=
  h.keep (Same.of_grown hg hh (fun b e => .inr (hb b e)))

end Go.Proofs.YtomndnlpogikdaaDoor
