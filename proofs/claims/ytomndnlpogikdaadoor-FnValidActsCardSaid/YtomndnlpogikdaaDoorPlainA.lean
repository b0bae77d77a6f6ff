/-
  Plain facts on names as lists of bytes: no program in sight.
-/
namespace Imp

/-- The bytes of a string. -/
abbrev bs (s : ByteArray) : List UInt8 := s.data.toList

theorem bs_length (s : ByteArray) : (bs s).length = s.size := rfl
theorem bs_get (s : ByteArray) (k : Nat) (h : k < s.size) : (bs s)[k]'h = s[k] := rfl

/-- A letter from a to z. -/
def letB (c : UInt8) : Bool := decide (97 ≤ c.toNat ∧ c.toNat ≤ 122)
theorem letB_yes {c : UInt8} (h1 : (97 : Int) ≤ (c.toNat : Int)) (h2 : (c.toNat : Int) ≤ 122) : letB c = true := decide_eq_true ⟨by omega, by omega⟩
theorem letB_low {c : UInt8} (h1 : (c.toNat : Int) < 97) : letB c = false := decide_eq_false (by omega)
theorem letB_high {c : UInt8} (h1 : 122 < (c.toNat : Int)) : letB c = false := decide_eq_false (by omega)

/-- A part of a name: one to three letters. -/
def vPart (l : List UInt8) : Bool := l.all letB && decide (1 ≤ l.length ∧ l.length ≤ 3)

theorem all_take_succ {α : Type} (p : α → Bool) (l : List α) (k : Nat) (h : k < l.length) : (l.take (k + 1)).all p = ((l.take k).all p && p l[k]) := by
  rw [List.take_succ_eq_append_getElem h, List.all_append]; simp

theorem all_of_take {α : Type} (p : α → Bool) (l : List α) (k : Nat) (h : l.length ≤ k) : (l.take k).all p = l.all p := by
  rw [List.take_of_length_le h]

theorem all_false_at {α : Type} (p : α → Bool) (l : List α) (k : Nat) (h : k < l.length) (hp : p l[k] = false) : l.all p = false := by
  rw [List.all_eq_false]; exact ⟨l[k], List.getElem_mem h, by simp [hp]⟩

theorem vPart_bad {l : List UInt8} (k : Nat) (h : k < l.length) (hp : letB l[k] = false) : vPart l = false := by
  unfold vPart; rw [all_false_at _ l k h hp]; rfl
theorem vPart_eq {l : List UInt8} (h : l.all letB = true) : vPart l = (decide ((1 : Int) ≤ (l.length : Int)) && decide ((l.length : Int) ≤ 3)) := by
  unfold vPart; rw [h, Bool.true_and, Bool.decide_and]
  congr 1 <;> rw [decide_eq_decide] <;> omega
theorem vPart_len {l : List UInt8} (h : ¬ (1 ≤ l.length ∧ l.length ≤ 3)) : vPart l = false := by
  unfold vPart; rw [decide_eq_false h]; simp

end Imp
