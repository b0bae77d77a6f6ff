/-
  Walks on names, further: names resolved, relative names, names above, the package in common.
-/
import Derived.Test.YtomndnlpogikdaaDoorNamesC
namespace Imp
open Go
theorem relP_nil (n lev : Nat) (s : List UInt8) : relP n lev [] s = (0, []) := by cases n <;> rfl
theorem relP_step {n lev : Nat} {p s : List UInt8} (h : p.isEmpty = false) : relP (n + 1) lev p s = if underP s p then (lev, (s.drop p.length).drop 1) else relP n (lev + 1) (parentP p) s := by
  rw [relP, h]; rfl
/-- How far a relative name's walk has come: the package at hand and what is left to look at. -/
def RelAt (p s x : List UInt8) (n lev : Nat) : Prop := (x = [] ∨ (vName x = true ∧ (spl x).length ≤ n)) ∧ relP n lev x s = relP 3 1 p s ∧ lev + n = 4
theorem RelAt.start {p s : List UInt8} (h : vName p = true) : RelAt p s p 3 1 := ⟨.inr ⟨h, (vName_parts h).1⟩, rfl, rfl⟩
theorem RelAt.step {p s x : List UInt8} {n lev : Nat} (h : RelAt p s x n lev) (hx : x.isEmpty = false) (hu : underP s x = false) : ∃ m, n = m + 1 ∧ RelAt p s (parentP x) m (lev + 1) := by
  obtain ⟨h1, h2, h3⟩ := h
  rcases h1 with h1 | ⟨h1, h4⟩
  · subst h1; cases hx
  · have hp := spl_pos x
    obtain ⟨m, rfl⟩ : ∃ m, n = m + 1 := ⟨n - 1, by omega⟩
    refine ⟨m, rfl, ?_, ?_, by omega⟩
    · rcases vName_cases h1 with ⟨_, e, _⟩ | ⟨e1, _, _, e4⟩
      · exact .inl e
      · exact .inr ⟨e1, by omega⟩
    · rw [← h2, relP_step hx, hu]; rfl
theorem RelAt.found {p s x : List UInt8} {n lev : Nat} (h : RelAt p s x n lev) (hx : x.isEmpty = false) (hu : underP s x = true) : relP 3 1 p s = (lev, (s.drop x.length).drop 1) := by
  obtain ⟨h1, h2, h3⟩ := h
  rcases h1 with h1 | ⟨h1, h4⟩
  · subst h1; cases hx
  · have hp := spl_pos x
    obtain ⟨m, rfl⟩ : ∃ m, n = m + 1 := ⟨n - 1, by omega⟩
    rw [← h2, relP_step hx, hu]; rfl
theorem RelAt.done {p s x : List UInt8} {n lev : Nat} (h : RelAt p s x n lev) (hx : x.isEmpty = true) : relP 3 1 p s = (0, []) := by
  have := h.2.1
  rw [List.isEmpty_iff.1 hx, relP_nil] at this
  exact this.symm
theorem RelAt.pkg {p s x : List UInt8} {n lev : Nat} (h : RelAt p s x n lev) : vPkg x = true := by
  rcases h.1 with h1 | ⟨h1, _⟩
  · subst h1; rfl
  · unfold vPkg; rw [h1, Bool.or_true]
def fRelV (p s : List UInt8) : Nat × List UInt8 := if vName p && vName s then relP 3 1 p s else (0, [])
end Imp
namespace Go.Proofs.YtomndnlpogikdaaDoor
open Go Go.RowKit Imp
set_option linter.unusedVariables false

end Go.Proofs.YtomndnlpogikdaaDoor
