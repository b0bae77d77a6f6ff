/-
  Walks: a file of a tree edited, both packages. Printed by treee.py.
-/
import Derived.Test.YtepljjaienpepaaDoorTreeAZ
import Derived.Test.YtepljjaienpepaaDoorZ6
namespace Imp
open Go Go.RowKit
/-- Whether a tree can be edited so, and what it is then. -/
def okEdit (T : List Fil) (i : Int) (st : Int) (b : List Stm) : Bool := okTree T && (decide (0 ≤ i) && decide (i ≤ (T.length : Int) - 1)) && (decide (0 ≤ st) && decide (st ≤ 99)) && okBody b
def edited (T : List Fil) (i : Nat) (st : Int) (b : List Stm) : List Fil := T.take i ++ (T.drop i).head?.toList.map (fun f => editF f st b) ++ T.drop (i + 1)
theorem edited_at {A B : List Fil} {f : Fil} (st : Int) (b : List Stm) : edited (A ++ f :: B) A.length st b = A ++ editF f st b :: B := by
  unfold edited
  rw [List.take_left, List.drop_left, List.head?_cons, show A.length + 1 = (A ++ [f]).length by simp, show A ++ f :: B = (A ++ [f]) ++ B by simp, List.drop_left]
  simp
theorem split_map {M : List FR} {i : Nat} (h : i < M.length) : M = M.take i ++ M[i] :: M.drop (i + 1) := by
  rw [List.getElem_cons_drop, List.take_append_drop]
end Imp
namespace Go.Proofs.YtepljjaienpepaaDoor
open Go Go.RowKit Imp
set_option linter.unusedVariables false
set_option linter.unusedSimpArgs false
end Go.Proofs.YtepljjaienpepaaDoor
