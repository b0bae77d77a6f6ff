/-
  Walks over files and trees: a tree's own copy.
-/
import Derived.Test.YtomndnlpogikdabDoorTreeD
namespace Imp
open Go Go.RowKit
theorem row1 {w : World} {g T : Nat} {a0 : Value} (h : w.heap[g]? = some (.cells #[a0] T (0, 0))) : w.cell? ⟨g, 0, none⟩ = some a0 ∧ w.frozen? ⟨g, 0, none⟩ = false :=
  ⟨by rw [cell_of_row w g _ _ _ _ h]; rfl, by simp [World.frozen?, h]⟩
theorem heap_set1 {W : World} {g T : Nat} {a0 b0 : Value} (h : W.heap[g]? = some (.cells #[a0] T (0, 0))) : (W.setCell ⟨g, 0, none⟩ b0).heap[g]? = some (.cells #[b0] T (0, 0)) := by
  simp [World.setCell, Array.getElem?_modify, h]
theorem OwnT.keep {w w' : World} {base tF tS : Nat} {v : Value} {M : List FR} (h : OwnT w base tF tS v M) (hs : ∀ b, base ≤ b → b < w.heap.size → w'.heap[b]? = w.heap[b]?) : OwnT w' base tF tS v M :=
  ⟨h.1.keep (fun b hb => hs b (h.1.block b hb).1 (h.1.block b hb).2), fun r hr => (h.2.1 r hr).keep (fun b hb => hs b ((h.2.1 r hr).block b hb).1 ((h.2.1 r hr).block b hb).2), h.2.2.1, h.2.2.2⟩
end Imp
namespace Go.Proofs.YtomndnlpogikdabDoor
open Go Go.RowKit Imp
set_option linter.unusedVariables false

end Go.Proofs.YtomndnlpogikdabDoor
