/-
  Plain facts on lists: first index, prefixes, all indices.
-/
import Derived.Test.YtomndnlpogikdaaDoorPlainA
namespace Imp

theorem take_eq_succ {α : Type} {L M : List α} {k : Nat} (h1 : k < L.length) (h2 : k < M.length) (h : L.take k = M.take k) (e : L[k] = M[k]) : L.take (k + 1) = M.take (k + 1) := by
  rw [List.take_succ_eq_append_getElem h1, List.take_succ_eq_append_getElem h2, h, e]
theorem eq_of_take {α : Type} {L M : List α} {k : Nat} (hl : L.length = M.length) (h1 : L.length ≤ k) (h : L.take k = M.take k) : L = M := by
  rwa [List.take_of_length_le h1, List.take_of_length_le (by omega)] at h
theorem ne_at {α : Type} {L M : List α} {k : Nat} (h1 : k < L.length) (h2 : k < M.length) (e : L[k] ≠ M[k]) : L ≠ M := by
  rintro rfl; exact e rfl
theorem ne_len {α : Type} {L M : List α} (h : L.length ≠ M.length) : L ≠ M := by
  rintro rfl; exact h rfl

/-- The first index at which 'p' holds, -1 where there is none. -/
def ixFrom {α : Type} (p : α → Bool) : List α → Nat → Int
  | [], _ => -1
  | x :: t, k => if p x then (k : Int) else ixFrom p t (k + 1)
def ix {α : Type} (p : α → Bool) (L : List α) : Int := ixFrom p L 0

theorem ixFrom_none {α : Type} (p : α → Bool) : ∀ (L : List α) (n : Nat), L.any p = false → ixFrom p L n = -1
  | [], _, _ => rfl
  | x :: t, n, h => by
    rw [List.any_cons, Bool.or_eq_false_iff] at h
    rw [ixFrom, h.1, if_neg (by simp)]; exact ixFrom_none p t _ h.2
theorem ixFrom_hit {α : Type} (p : α → Bool) : ∀ (L : List α) (n k : Nat) (h : k < L.length), (L.take k).any p = false → p L[k] = true → ixFrom p L n = (n + k : Nat)
  | x :: t, n, 0, _, _, hp => by
    have hp' : p x = true := hp
    rw [ixFrom, hp']; rfl
  | x :: t, n, k + 1, h, hn, hp => by
    rw [List.take_succ_cons, List.any_cons, Bool.or_eq_false_iff] at hn
    rw [ixFrom, hn.1, if_neg (by simp)]
    rw [ixFrom_hit p t (n + 1) k (by simpa using h) hn.2 (by simpa using hp)]
    congr 1; omega
theorem ix_none {α : Type} {p : α → Bool} {L : List α} (h : L.any p = false) : ix p L = -1 := ixFrom_none p L 0 h
theorem ix_hit {α : Type} {p : α → Bool} {L : List α} {k : Nat} (h : k < L.length) (hn : (L.take k).any p = false) (hp : p L[k] = true) : ix p L = (k : Int) := by
  rw [ix, ixFrom_hit p L 0 k h hn hp]; simp
theorem ixFrom_range {α : Type} (p : α → Bool) : ∀ (L : List α) (n : Nat), (L.any p = true ∧ (n : Int) ≤ ixFrom p L n ∧ ixFrom p L n < (n : Int) + L.length) ∨ (L.any p = false ∧ ixFrom p L n = -1)
  | [], n => .inr ⟨rfl, rfl⟩
  | x :: t, n => by
    rw [ixFrom, List.any_cons]
    by_cases hx : p x = true
    · rw [if_pos hx]; left; refine ⟨by simp [hx], by omega, ?_⟩; simp only [List.length_cons]; omega
    · rw [if_neg hx]
      have hx' : p x = false := by simpa using hx
      rcases ixFrom_range p t (n + 1) with ⟨h1, h2, h3⟩ | ⟨h1, h2⟩
      · left; refine ⟨by simp [h1], by omega, ?_⟩; simp only [List.length_cons]; omega
      · right; exact ⟨by simp [hx', h1], h2⟩
theorem ix_range {α : Type} (p : α → Bool) (L : List α) : (L.any p = true ∧ 0 ≤ ix p L ∧ ix p L < L.length) ∨ (L.any p = false ∧ ix p L = -1) := by
  have := ixFrom_range p L 0
  unfold ix
  simpa using this
theorem ix_ge {α : Type} (p : α → Bool) (L : List α) : decide (0 ≤ ix p L) = L.any p := by
  rcases ix_range p L with ⟨h1, h2, _⟩ | ⟨h1, h2⟩
  · rw [h1]; exact decide_eq_true h2
  · rw [h1]; exact decide_eq_false (by omega)
theorem any_take_succ {α : Type} (p : α → Bool) (L : List α) (k : Nat) (h : k < L.length) : (L.take (k + 1)).any p = ((L.take k).any p || p L[k]) := by
  rw [List.take_succ_eq_append_getElem h, List.any_append]; simp

/-- 'p' holds of every index below 'n'. -/
def allTo (n : Nat) (p : Nat → Bool) : Bool := (List.range n).all p
theorem allTo_zero (p : Nat → Bool) : allTo 0 p = true := rfl
theorem allTo_succ (n : Nat) (p : Nat → Bool) : allTo (n + 1) p = (allTo n p && p n) := by
  unfold allTo; rw [List.range_succ, List.all_append]; simp
theorem allTo_iff {n : Nat} {p : Nat → Bool} : allTo n p = true ↔ ∀ i, i < n → p i = true := by
  unfold allTo; simp
theorem allTo_bad {n k : Nat} {p : Nat → Bool} (h : k < n) (hp : p k = false) : allTo n p = false := by
  cases e : allTo n p with
  | false => rfl
  | true => rw [allTo_iff.1 e k h] at hp; cases hp
theorem allTo_congr {n : Nat} {p q : Nat → Bool} (h : ∀ i, i < n → p i = q i) : allTo n p = allTo n q := by
  rw [Bool.eq_iff_iff, allTo_iff, allTo_iff]
  exact ⟨fun k i hi => (h i hi) ▸ k i hi, fun k i hi => (h i hi) ▸ k i hi⟩

/-! ### Search paths -/
def rootB (n : Int) : Bool := decide (0 ≤ n) && decide (n ≤ 2)
def pathAt (L : List Int) (i : Nat) : Bool := match L[i]? with
  | some n => rootB n && !((L.take i).any (· == n))
  | none => false
def vPath (L : List Int) : Bool := allTo L.length (pathAt L)
theorem pathAt_eq {L : List Int} {i : Nat} (h : i < L.length) : pathAt L i = (rootB L[i] && !((L.take i).any (· == L[i]))) := by
  unfold pathAt; rw [List.getElem?_eq_getElem h]
theorem vPath_iff {L : List Int} : vPath L = true ↔ L.Nodup ∧ ∀ x ∈ L, rootB x = true := by
  unfold vPath
  rw [allTo_iff]
  constructor
  · intro h
    constructor
    · rw [List.nodup_iff_pairwise_ne, List.pairwise_iff_getElem]
      intro i j hi hj hij e
      have := h j hj
      rw [pathAt_eq hj, Bool.and_eq_true, Bool.not_eq_true', List.any_eq_false] at this
      exact this.2 L[i] (by rw [List.mem_take_iff_getElem]; exact ⟨i, by omega, rfl⟩) (by simp [e])
    · intro x hx
      obtain ⟨i, hi, rfl⟩ := List.getElem_of_mem hx
      have := h i hi
      rw [pathAt_eq hi, Bool.and_eq_true] at this
      exact this.1
  · rintro ⟨h1, h2⟩ i hi
    rw [pathAt_eq hi, h2 _ (List.getElem_mem hi), Bool.true_and, Bool.not_eq_true', List.any_eq_false]
    intro x hx e
    rw [List.mem_take_iff_getElem] at hx
    obtain ⟨j, hj, rfl⟩ := hx
    rw [List.nodup_iff_pairwise_ne, List.pairwise_iff_getElem] at h1
    exact h1 j i (by omega) hi (by omega) (by simpa using e)
theorem sub_without {α : Type} (L : List α) (k : Nat) : (L.take k ++ L.drop (k + 1)).Sublist L := by
  conv => rhs; rw [← List.take_append_drop k L]
  exact List.Sublist.append (List.Sublist.refl _) (by rw [← List.drop_drop]; exact List.drop_sublist _ _)
theorem vPath_without {L : List Int} (h : vPath L = true) (k : Nat) (_ : k < L.length) : vPath (L.take k ++ L.drop (k + 1)) = true := by
  rw [vPath_iff] at h ⊢
  exact ⟨h.1.sublist (sub_without L k), fun x hx => h.2 x ((sub_without L k).subset hx)⟩
end Imp
