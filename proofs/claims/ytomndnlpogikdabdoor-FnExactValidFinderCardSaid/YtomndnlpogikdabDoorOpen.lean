/-
  Files and trees as arguments.
-/
import Derived.Test.YtomndnlpogikdabDoorTree
namespace Imp
open Go Go.RowKit Go.ChangeShapes Go.WideShapes Go.ChangeAt Go.Deep
section
variable {H : Type} {enc : TypeId × Value → H} {P : Program} {w : World} {base : Nat} {spare : Nat → Bool} {held : Bool}
theorem field_rows {α : Type} {e k : Nat} {cs : List Value} {off ft n : Nat} {o : Option (DataW H × List MemPlace)} (f : α → List Value) (Q : α → Prop) (hc : P.cellsOf ft = 1) (ht : P.underlying ft = some (.slice e)) (hk : P.cellsOf e = k) (hpos : 0 < k)
    (hrow : ∀ n cs' y, DataW.trod enc P w base spare held n e cs' = some y → ∃ z : α, cs' = f z ∧ Q z) (hs : o.isSome = true) (h : DataW.trod enc P w base spare held n ft ((cs.drop off).take (P.cellsOf ft)) = o) :
    ∃ v, cs[off]? = some v ∧ ∃ L : List α, SlR w 0 w.heap.size k f v L ∧ ∀ z ∈ L, Q z := by
  obtain ⟨y, rfl⟩ := Option.isSome_iff_exists.1 hs
  obtain ⟨v, e, L, h1, h2⟩ := open_rows f Q ht hk hpos hrow h
  rw [hc] at e
  exact ⟨v, take_one e, L, h1, h2⟩
end
theorem cells6 {w W : World} {b T : Nat} {a0 a1 a2 a3 a4 a5 : Value} (h : w.heap[b]? = some (.cells #[a0, a1, a2, a3, a4, a5] T (0, 0))) (hg : Below w.heap.size w W) :
    W.cell? ⟨b, 0, none⟩ = some a0 ∧ W.cell? ⟨b, 1, none⟩ = some a1 ∧ W.cell? ⟨b, 2, none⟩ = some a2 ∧ W.cell? ⟨b, 3, none⟩ = some a3 ∧ W.cell? ⟨b, 4, none⟩ = some a4 ∧ W.cell? ⟨b, 5, none⟩ = some a5 := by
  have h' := (hg.block b (lt_of_block h)).trans h
  exact ⟨by rw [cell_of_row W b 0 _ _ _ h']; rfl, by rw [cell_of_row W b 1 _ _ _ h']; rfl, by rw [cell_of_row W b 2 _ _ _ h']; rfl, by rw [cell_of_row W b 3 _ _ _ h']; rfl, by rw [cell_of_row W b 4 _ _ _ h']; rfl, by rw [cell_of_row W b 5 _ _ _ h']; rfl⟩
end Imp
namespace Go.Proofs.YtomndnlpogikdabDoor
open Go Go.RowKit Go.ChangeShapes Go.WideShapes Go.ChangeAt Go.Deep Imp
set_option linter.unusedVariables false
section
variable {H : Type} {enc : TypeId × Value → H} {W : World} {base : Nat} {v : Value} {d : DataW H} {p : List MemPlace}
end
end Go.Proofs.YtomndnlpogikdabDoor
