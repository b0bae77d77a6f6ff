/-
  Walks on names, further: names above, the package in common.
-/
import Derived.Test.YtomndnlpogikdaaDoorNamesE
namespace Imp
open Go
def abv (P : List (List UInt8)) (k : Nat) : List (List UInt8) := (List.range k).map fun i => jn (P.take (i + 1))
theorem abv_length (P : List (List UInt8)) (k : Nat) : (abv P k).length = k := by simp [abv]
theorem abv_succ (P : List (List UInt8)) (k : Nat) : abv P (k + 1) = abv P k ++ [jn (P.take (k + 1))] := by simp [abv, List.range_succ]
theorem abv_eq {l : List UInt8} : abv (spl l) (spl l).length = aboveP l := rfl
theorem jn_small {P : List (List UInt8)} (h3 : P.length ≤ 3) (hp : ∀ p ∈ P, vPart p = true) : (jn P).length ≤ 11 := by
  by_cases h : P = []
  · subst h; simp [jn]
  · exact vName_length (vName_jn h h3 hp)
theorem filter_false {α : Type} {f : α → Bool} {l : List α} (h : ∀ x ∈ l, f x = false) : l.filter f = [] := by
  rw [List.filter_eq_nil_iff]; intro a ha; rw [h a ha]; simp
theorem getLastD_snoc {α : Type} (l : List α) (x d : α) : (l ++ [x]).getLastD d = x := by simp
/-- The last of a list that a test takes: what a walk from the end finds. -/
theorem last_found {f : List UInt8 → Bool} {A : List (List UInt8)} {k : Nat} (hk : k < A.length) (h : (A.drop (k + 1)).filter f = []) (hf : f A[k] = true) : (A.filter f).getLastD [] = A[k] := by
  conv => lhs; rw [← List.take_append_drop k A, List.drop_eq_getElem_cons hk, List.filter_append, List.filter_cons, if_pos hf, h]
  exact getLastD_snoc _ _ _
theorem last_step {f : List UInt8 → Bool} {A : List (List UInt8)} {k : Nat} (hk : k < A.length) (h : (A.drop (k + 1)).filter f = []) (hf : f A[k] = false) : (A.drop k).filter f = [] := by
  rw [List.drop_eq_getElem_cons hk, List.filter_cons, hf, h]; rfl
theorem last_next {f : List UInt8 → Bool} {A : List (List UInt8)} {k : Nat} (hk : k < A.length) : ((A.take (k + 1)).filter f).getLastD [] = if f A[k] then A[k] else ((A.take k).filter f).getLastD [] := by
  rw [List.take_succ_eq_append_getElem hk, List.filter_append, List.filter_cons]
  split
  · exact getLastD_snoc _ _ _
  · simp
theorem fUnder_name {b n : List UInt8} (hb : vName b = true) (hn : vName n = true) : fUnder b n = underP b n := by
  have : vPkg n = true := by unfold vPkg; rw [hn, Bool.or_true]
  rw [fUnder, hb, this]; rfl
end Imp
namespace Go.Proofs.YtomndnlpogikdaaDoor
open Go Go.RowKit Imp
set_option linter.unusedVariables false

theorem hid_mk {α : Prop} (h : α) : Hid α := h

end Go.Proofs.YtomndnlpogikdaaDoor
