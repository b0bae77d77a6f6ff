/-
  Walks over files and trees: valid trees.
-/
import Derived.Test.YteccopgnlbphbaaDoorTreeF
import Derived.Deep.RegionHeld3
namespace Imp
open Go Go.RowKit
theorem ixFrom_lt {α : Type} (p : α → Bool) : ∀ (L : List α) (n k : Nat), (L.take k).any p = true → ixFrom p L n < (n : Int) + k
  | [], n, k, h => by simp at h
  | x :: t, n, 0, h => by simp at h
  | x :: t, n, k + 1, h => by
    rw [List.take_succ_cons, List.any_cons, Bool.or_eq_true] at h
    rw [ixFrom]
    split
    · omega
    · rename_i hx
      rcases h with h | h
      · exact absurd h hx
      · have := ixFrom_lt p t (n + 1) k h
        omega
theorem ix_lt {α : Type} {p : α → Bool} {L : List α} {k : Nat} (hk : k < L.length) (hp : p L[k] = true) : decide (ix p L < (k : Int)) = (L.take k).any p := by
  cases h : (L.take k).any p
  · rw [ix_hit hk h hp]; simp
  · have := ixFrom_lt p L 0 k h
    exact decide_eq_true (by unfold ix; omega)
theorem sameP_refl (f : Fil) : sameP f f = true := by simp [sameP]
def goodAt (T : List Fil) (i : Nat) : Bool := match T[i]? with
  | some f => okFil f && !((T.take i).any (fun g => sameP g f))
  | none => true
def okTree (T : List Fil) : Bool := (List.range T.length).all (goodAt T) && decide ((T.length : Int) ≤ 12)
theorem goodAt_map {L : List FR} {k : Nat} (h : k < L.length) : goodAt (L.map (·.1)) k = (okFil L[k].1 && !((L.take k).any fun r : FR => sameP r.1 L[k].1)) := by
  unfold goodAt
  rw [List.getElem?_map, List.getElem?_eq_getElem h, ← List.map_take]
  simp only [Option.map_some, List.any_map]; rfl
theorem range_all_succ (f : Nat → Bool) (k : Nat) : (List.range (k + 1)).all f = ((List.range k).all f && f k) := by
  rw [List.range_succ, List.all_append]; simp
theorem range_all_bad {f : Nat → Bool} {n k : Nat} (h : k < n) (hf : f k = false) : (List.range n).all f = false := by
  rw [List.all_eq_false]; exact ⟨k, List.mem_range.2 h, by simp [hf]⟩
end Imp
namespace Go.Proofs.YteccopgnlbphbaaDoor
open Go Go.RowKit Imp
set_option linter.unusedVariables false
set_option linter.unusedSimpArgs false

def SmF (r : FR) : Prop := r.1.pkg.size ≤ 4194304 ∧ r.1.name.size ≤ 4194304 ∧ ∀ s ∈ r.1.body, szSt s ≤ 16777216
end Go.Proofs.YteccopgnlbphbaaDoor
