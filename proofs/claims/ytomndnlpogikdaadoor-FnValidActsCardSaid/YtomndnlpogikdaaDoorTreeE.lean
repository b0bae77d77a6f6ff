/-
  Walks over files and trees: a tree's own copy.
-/
import Derived.Test.YtomndnlpogikdaaDoorTreeD
namespace Imp
open Go Go.RowKit
theorem row1 {w : World} {g T : Nat} {a0 : Value} (h : w.heap[g]? = some (.cells #[a0] T (0, 0))) : w.cell? ⟨g, 0, none⟩ = some a0 ∧ w.frozen? ⟨g, 0, none⟩ = false :=
  ⟨by rw [cell_of_row w g _ _ _ _ h]; rfl, by simp [World.frozen?, h]⟩
theorem heap_set1 {W : World} {g T : Nat} {a0 b0 : Value} (h : W.heap[g]? = some (.cells #[a0] T (0, 0))) : (W.setCell ⟨g, 0, none⟩ b0).heap[g]? = some (.cells #[b0] T (0, 0)) := by
  simp [World.setCell, Array.getElem?_modify, h]
theorem OwnT.keep {w w' : World} {base tF tS : Nat} {v : Value} {M : List FR} (h : OwnT w base tF tS v M) (hs : ∀ b, base ≤ b → b < w.heap.size → w'.heap[b]? = w.heap[b]?) : OwnT w' base tF tS v M :=
  ⟨h.1.keep (fun b hb => hs b (h.1.block b hb).1 (h.1.block b hb).2), fun r hr => (h.2.1 r hr).keep (fun b hb => hs b ((h.2.1 r hr).block b hb).1 ((h.2.1 r hr).block b hb).2), h.2.2.1, h.2.2.2⟩
end Imp
namespace Go.Proofs.YtomndnlpogikdaaDoor
open Go Go.RowKit Imp
set_option linter.unusedVariables false

theorem toTree_own {lo hi : Nat} (v : Value) (L : List FR) (w : World) (hv : FlR w lo hi v L) (hhi : hi ≤ w.heap.size) (hn : L.length ≤ 1048576) (hbn : ∀ r ∈ L, r.1.body.length ≤ 1048576) :
    Calls Tryd.prog 13 #[.agg #[v]] w fun e w' => ∃ u, e = .returned (.agg #[u]) ∧ ∃ M : List FR, M.map (·.1) = L.map (·.1) ∧ OwnT w' (w.heap.size + 3) 38 80 u M ∧ Gr w w' := by
  have h := fun A B C => toFileS_own v L (((w.alloc A).alloc B).alloc C) (hv.below (gr_alloc3 w A B C) hhi) (by simp; omega) hn hbn
  have H := Lib.hid h
  clear h hbn
  go_enter Tryd.func13, Tryd.ntmps13
  go_wp2_with fail
  refine (H.out _ _ _).mono ?_
  rintro e w2 ⟨u, rfl, M, hM, ho, hb2⟩
  obtain ⟨ua, uc, hu, _, _⟩ := ho.1.form
  have B1 := hb2.block (w.heap.size + 1) (by simp <;> omega)
  have B2 := hb2.block (w.heap.size + 1 + 1) (by simp <;> omega)
  rw [heap_alloc3_mid] at B1
  rw [heap_alloc3_new] at B2
  have hsz2 := hb2.size
  simp at hsz2
  obtain ⟨x0, xf⟩ := row1 B1
  obtain ⟨y0, yf⟩ := row1 B2
  have HB1 := Lib.hid B1
  have HM := Lib.hid hM
  have HO := Lib.hid ho
  clear B1 B2 hM ho
  subst hu
  have hbase : Gr w w2 := Gr.tr (gr_alloc3 w _ _ _) hb2
  go_wp2
  have B3 : (w2.setCell ⟨w.heap.size + 1 + 1, 0, none⟩ (.slice ua M.length uc)).heap[w.heap.size + 1]? = some _ := (Below.heap_setCell w2 _ _ _ (by show w.heap.size + 1 ≠ w.heap.size + 1 + 1; omega)).trans HB1.out
  refine bodyPost_ret (results_cell_row rfl _ _ (w.heap.size + 1) 32 _ (0, 0) _ rfl (heap_set1 B3) Tryd.underlying32 rfl (by kernel_rfl)) rfl ?_
  refine ⟨.slice ua M.length uc, rfl, M, HM.out, ?_, ?_⟩
  · have h3 : (((w.alloc (.cells #[] 0)).alloc (.cells #[] 0)).alloc (.cells #[] 0)).heap.size = w.heap.size + 3 := by simp
    have ho := HO.out
    simp only [World.size_alloc] at ho
    refine ho.keep (fun b h1 h2 => ?_)
    rw [Below.heap_setCell _ _ _ _ (by show b ≠ w.heap.size + 1; omega), Below.heap_setCell _ _ _ _ (by show b ≠ w.heap.size + 1 + 1; omega)]
  · exact (hbase.setCell (by show w.heap.size ≤ w.heap.size + 1 + 1; omega) _).setCell (by show w.heap.size ≤ w.heap.size + 1; omega) _
end Go.Proofs.YtomndnlpogikdaaDoor
