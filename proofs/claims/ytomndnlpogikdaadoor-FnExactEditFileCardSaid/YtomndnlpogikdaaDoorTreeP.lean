/-
  Plain law on valid trees: what stays valid when a file goes, and when a file gets another stamp and body.
-/
import Derived.Test.YtomndnlpogikdaaDoorTreeG
namespace Imp
open Go Go.RowKit
theorem okTree_iff (T : List Fil) : okTree T = true ↔ (∀ f ∈ T, okFil f = true) ∧ T.Pairwise (fun a b => sameP a b = false) ∧ T.length ≤ 12 := by
  unfold okTree
  rw [Bool.and_eq_true, List.all_eq_true, decide_eq_true_eq]
  constructor
  · rintro ⟨h1, h2⟩
    refine ⟨fun f hf => ?_, ?_, by omega⟩
    · obtain ⟨i, hi, rfl⟩ := List.getElem_of_mem hf
      have := h1 i (List.mem_range.2 hi)
      unfold goodAt at this
      rw [List.getElem?_eq_getElem hi] at this
      simp only [Bool.and_eq_true] at this
      exact this.1
    · rw [List.pairwise_iff_getElem]
      intro i j hi hj hij
      have := h1 j (List.mem_range.2 hj)
      unfold goodAt at this
      rw [List.getElem?_eq_getElem hj] at this
      simp only [Bool.and_eq_true, Bool.not_eq_true', List.any_eq_false] at this
      have q := this.2 T[i] (by rw [List.mem_take_iff_getElem]; exact ⟨i, by omega, rfl⟩)
      simpa using q
  · rintro ⟨h1, h2, h3⟩
    refine ⟨fun i hi => ?_, by omega⟩
    have hi := List.mem_range.1 hi
    unfold goodAt
    rw [List.getElem?_eq_getElem hi]
    simp only [Bool.and_eq_true, Bool.not_eq_true', List.any_eq_false]
    refine ⟨h1 _ (List.getElem_mem hi), fun g hg => ?_⟩
    rw [List.mem_take_iff_getElem] at hg
    obtain ⟨j, hj, rfl⟩ := hg
    rw [List.pairwise_iff_getElem] at h2
    have := h2 j i (by omega) hi (by omega)
    simp [this]
theorem okTree_sub {T S : List Fil} (h : okTree T = true) (hs : S.Sublist T) : okTree S = true := by
  rw [okTree_iff] at h ⊢
  exact ⟨fun f hf => h.1 f (hs.subset hf), h.2.1.sublist hs, Nat.le_trans hs.length_le h.2.2⟩
theorem sub_without' {α : Type} (L : List α) (i : Nat) : (L.take i ++ L.drop (i + 1)).Sublist L := by
  have h : L = L.take i ++ L.drop i := (List.take_append_drop i L).symm
  conv => rhs; rw [h]
  refine List.Sublist.append (List.Sublist.refl _) ?_
  rw [← List.drop_drop]
  exact List.drop_sublist 1 _
/-- A file with another stamp and another body. -/
def editF (f : Fil) (st : Int) (b : List Stm) : Fil := ⟨f.root, f.pkg, f.name, f.init, st, b⟩
theorem okFil_edit {f : Fil} (h : okFil f = true) (st : Int) (b : List Stm) : okFil (editF f st b) = ((decide (0 ≤ st) && decide (st ≤ 99)) && okBody b) := by
  unfold okFil at h ⊢
  simp only [Bool.and_eq_true] at h
  obtain ⟨⟨⟨⟨h1, h2⟩, _⟩, _⟩, h5⟩ := h
  unfold editF
  simp only []
  rw [h2, h5, h1.1, h1.2]
  simp
theorem sameP_edit (f g : Fil) (st : Int) (b : List Stm) : sameP (editF f st b) g = sameP f g ∧ sameP g (editF f st b) = sameP g f := ⟨rfl, rfl⟩
theorem okTree_edit {A B : List Fil} {f : Fil} (h : okTree (A ++ f :: B) = true) (st : Int) (b : List Stm) : okTree (A ++ editF f st b :: B) = ((decide (0 ≤ st) && decide (st ≤ 99)) && okBody b) := by
  have hf := ((okTree_iff _).1 h).1 f (by simp)
  rw [← okFil_edit hf st b]
  cases hk : okFil (editF f st b)
  · cases ht : okTree (A ++ editF f st b :: B)
    · rfl
    · have := ((okTree_iff _).1 ht).1 (editF f st b) (by simp)
      rw [this] at hk; cases hk
  · rw [okTree_iff] at h ⊢
    obtain ⟨h1, h2, h3⟩ := h
    refine ⟨fun g hg => ?_, ?_, by simpa using h3⟩
    · rw [List.mem_append, List.mem_cons] at hg
      rcases hg with hg | rfl | hg
      · exact h1 g (by simp [hg])
      · exact hk
      · exact h1 g (by simp [hg])
    · rw [List.pairwise_append, List.pairwise_cons] at h2 ⊢
      refine ⟨h2.1, ⟨fun g hg => h2.2.1.1 g hg, h2.2.1.2⟩, fun a ha g hg => ?_⟩
      rw [List.mem_cons] at hg
      rcases hg with rfl | hg
      · exact h2.2.2 a ha f (by simp)
      · exact h2.2.2 a ha g (by simp [hg])
end Imp
