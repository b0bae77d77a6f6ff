/-
  Walks over files and trees: copies that the call owns.
-/
import Derived.Test.YtomndnlpogikdabDoorTree
namespace Imp
open Go Go.RowKit
/-- A row known by its index is a slice that the call owns: rows of any width. -/
theorem own_of_rows {α : Type} {enc : α → List Value} {w : World} {base e g n k : Nat} {L : List α} {f : Nat → Value} (h : w.rowIs g e (n * k) f) (hb : base ≤ g) (h2 : n ≤ maxLen) (hn : n = L.length) (hk0 : 0 < k) (hk : ∀ x ∈ L, (enc x).length = k)
    (hf : ∀ i (h : i < L.length) j u, (enc L[i])[j]? = some u → f (i * k + j) = u) : Own w base e k enc (.slice (some ⟨g, 0, none⟩) n n) L := by
  obtain ⟨cur, hg, hs, hc⟩ := h
  subst hn
  have hlen := flatMap_len (enc := enc) (k := k) L hk
  refine ⟨hlen, .inr ⟨g, L.length, cur, rfl, hb, hg, Nat.le_refl _, h2, hs, ?_⟩⟩
  apply List.ext_getElem
  · rw [List.length_take, hlen]; simp; omega
  · intro m hm1 hm2
    rw [hlen] at hm2
    have hi : m / k < L.length := by rw [Nat.div_lt_iff_lt_mul hk0]; exact hm2
    have hj : m % k < (enc L[m / k]).length := by rw [hk _ (List.getElem_mem hi)]; exact Nat.mod_lt _ hk0
    have hm : m = m / k * k + m % k := by rw [Nat.mul_comm]; exact (Nat.div_add_mod m k).symm
    have hx := flatMap_get (enc := enc) (k := k) hk hi (List.getElem?_eq_getElem hj)
    have hy := hf (m / k) hi (m % k) _ (List.getElem?_eq_getElem hj)
    rw [← hm] at hx hy
    have hz := hc m (by omega)
    rw [hy] at hz
    rw [List.getElem_take]
    obtain ⟨h', e'⟩ := Array.getElem?_eq_some_iff.1 hz
    obtain ⟨h'', e''⟩ := List.getElem?_eq_some_iff.1 hx
    rw [e'', ← e']; simp
theorem heap_set6 {W : World} {g T : Nat} {a0 a1 a2 a3 a4 a5 b0 b1 b2 b3 b4 b5 : Value} (h : W.heap[g]? = some (.cells #[a0, a1, a2, a3, a4, a5] T (0, 0))) :
    ((((((W.setCell ⟨g, 0, none⟩ b0).setCell ⟨g, 1, none⟩ b1).setCell ⟨g, 2, none⟩ b2).setCell ⟨g, 3, none⟩ b3).setCell ⟨g, 4, none⟩ b4).setCell ⟨g, 5, none⟩ b5).heap[g]? = some (.cells #[b0, b1, b2, b3, b4, b5] T (0, 0)) := by
  simp [World.setCell, Array.getElem?_modify, h]
theorem heap_alloc3_new (w : World) (A B C : Obj) : (((w.alloc A).alloc B).alloc C).heap[w.heap.size + 1 + 1]? = some C := by
  have := heap_alloc_new ((w.alloc A).alloc B) C
  simpa using this
theorem row6 {w : World} {g T : Nat} {a0 a1 a2 a3 a4 a5 : Value} (h : w.heap[g]? = some (.cells #[a0, a1, a2, a3, a4, a5] T (0, 0))) :
    (w.cell? ⟨g, 0, none⟩ = some a0 ∧ w.cell? ⟨g, 1, none⟩ = some a1 ∧ w.cell? ⟨g, 2, none⟩ = some a2 ∧ w.cell? ⟨g, 3, none⟩ = some a3 ∧ w.cell? ⟨g, 4, none⟩ = some a4 ∧ w.cell? ⟨g, 5, none⟩ = some a5) ∧
    (∀ j, w.frozen? ⟨g, j, none⟩ = false) := by
  refine ⟨⟨?_, ?_, ?_, ?_, ?_, ?_⟩, fun j => by simp [World.frozen?, h]⟩ <;> (rw [cell_of_row w g _ _ _ _ h]; rfl)
end Imp
namespace Go.Proofs.YtomndnlpogikdabDoor
open Go Go.RowKit Imp
set_option linter.unusedVariables false

end Go.Proofs.YtomndnlpogikdabDoor
