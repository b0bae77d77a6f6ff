/-
  Walks: marks written into a body and read of it.
-/
import Derived.Test.YtomndnlpogikdabDoorTreeB
import Derived.Test.YtomndnlpogikdabDoorMark
import Derived.Test.YtomndnlpogikdabDoorHashI
import Derived.Deep.RegionHeld3
namespace Imp
open Go Go.RowKit
theorem grown_gr {w w' : World} {g : Option Nat} (h : Below w.heap.size w w') : w.grownBy w' g := ⟨h.os, h.tape, h.output, h.size, fun i hi _ => h.block i hi⟩
theorem own_rowK {α : Type} {enc : α → List Value} {K : Nat} {w : World} {base t : Nat} {v : Value} {A B : List α} {x : α} (hK : ∀ y, (enc y).length = K) (h : Own w base t K enc v (A ++ x :: B)) :
    ∃ b c, v = .slice (some ⟨b, 0, none⟩) (A ++ x :: B).length c ∧ base ≤ b ∧ b < w.heap.size ∧ (A ++ x :: B).length ≤ c ∧
      (∀ j u, (enc x)[j]? = some u → w.cell? ⟨b, A.length * K + j, none⟩ = some u) ∧ ∀ j, w.frozen? ⟨b, j, none⟩ = false := by
  obtain ⟨h1, h2⟩ := h
  rcases h2 with ⟨_, e⟩ | ⟨g, cap, cur, e, hb, hh, h3, h4, h5, h6⟩
  · simp at e
  · refine ⟨g, cap, e, hb, lt_of_block hh, h3, fun j u hu => ?_, fun j => frozen_of_row w g j _ _ hh⟩
    have hj : j < K := by rw [← hK x]; exact (List.getElem?_eq_some_iff.1 hu).1
    have hlt : A.length * K + j < (A ++ x :: B).length * K := by
      rw [List.length_append, List.length_cons, Nat.add_mul, Nat.add_mul]; omega
    have hA : (A.flatMap enc).length = A.length * K := flatMap_len _ (fun _ _ => hK _)
    rw [cell_of_row w g _ _ _ _ hh, ← Array.getElem?_toList, ← List.getElem?_take_of_lt hlt, h6, List.flatMap_append, List.getElem?_append_right (by omega), hA,
      show A.length * K + j - A.length * K = j by omega, List.flatMap_cons, List.getElem?_append_left (by rw [hK]; exact hj)]
    exact hu
theorem own_setK {α : Type} {enc : α → List Value} {K : Nat} {w : World} {base t b j : Nat} {v u : Value} {A B : List α} {x x' : α} (hK : ∀ y, (enc y).length = K) (h : Own w base t K enc v (A ++ x :: B)) (hv : v.ownBlock = some b) (hj : j < K) (hx : enc x' = (enc x).set j u) :
    Own (w.setCell ⟨b, A.length * K + j, none⟩ u) base t K enc v (A ++ x' :: B) := by
  obtain ⟨h1, h2⟩ := h
  rcases h2 with ⟨_, e⟩ | ⟨g, cap, cur, e, hb, hh, h3, h4, h5, h6⟩
  · simp at e
  · subst e
    injection hv with hv
    subst hv
    have hlen : (A ++ x' :: B).length = (A ++ x :: B).length := by simp
    have hA : (A.flatMap enc).length = A.length * K := flatMap_len _ (fun _ _ => hK _)
    refine ⟨flatMap_len _ (fun _ _ => hK _), .inr ⟨g, cap, cur.setIfInBounds (A.length * K + j) u, by rw [hlen], hb, heap_setCell_same w g _ cur t u hh, by rw [hlen]; exact h3, h4, by simpa using h5, ?_⟩⟩
    have h6' : cur.toList.take ((A ++ x :: B).length * K) = (A ++ x :: B).flatMap enc := h6
    rw [hlen, Array.toList_setIfInBounds, List.take_set, h6', List.flatMap_append, List.flatMap_append, List.flatMap_cons, List.flatMap_cons, hx, List.set_append_right _ _ (by omega), hA,
      show A.length * K + j - A.length * K = j by omega, List.set_append_left _ _ (by rw [hK]; exact hj)]
def stmK (k : Nat) : Stm := ⟨(k : Nat), mText (k + 1), ((k + 2 : Nat) : Int), mText (k + 3), ((k + 4 : Nat) : Int)⟩
def marksB (k n : Nat) : List Stm := (List.range n).map fun i => stmK (k + 5 * i)
theorem marksB_succ (k n : Nat) : marksB k (n + 1) = marksB k n ++ [stmK (k + 5 * n)] := by simp [marksB, List.range_succ]
theorem marksB_length (k n : Nat) : (marksB k n).length = n := by simp [marksB]
theorem marksB_get (k n i : Nat) (h : i < (marksB k n).length) : (marksB k n)[i] = stmK (k + 5 * i) := by simp [marksB]
end Imp
namespace Go.Proofs.YtomndnlpogikdabDoor
open Go Go.RowKit Imp
set_option linter.unusedVariables false
set_option linter.unusedSimpArgs false
end Go.Proofs.YtomndnlpogikdabDoor
