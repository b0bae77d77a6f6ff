/-
  Words for memory: rows that hold slices of their own, grown by one, cut short, and given another slice.
-/
import Derived.Test.YtomndnlpogikdaaDoorOwnN
namespace Imp
open Go Go.RowKit
theorem Own.take {α : Type} {w : World} {base e k : Nat} {enc : α → List Value} {a : Option Addr} {n c : Nat} {L : List α} (hk : ∀ x, (enc x).length = k) (h : Own w base e k enc (.slice a n c) L) (m : Nat) (hm : m ≤ L.length) :
    Own w base e k enc (.slice a m c) (L.take m) := by
  have hA : ((L.take m).flatMap enc).length = m * k := by rw [flatMap_len _ (fun _ _ => hk _), List.length_take]; congr 1; omega
  have hsplit : L.flatMap enc = (L.take m).flatMap enc ++ (L.drop m).flatMap enc := by rw [← List.flatMap_append, List.take_append_drop]
  obtain ⟨h1, h2⟩ := h
  have hl : (L.take m).length = m := by rw [List.length_take]; omega
  refine ⟨by rw [hl]; exact hA, ?_⟩
  rcases h2 with ⟨hv, h0⟩ | ⟨g, cap, cur, hv, hb, hh, h3, h4, h5, h6⟩
  · injection hv with e1 e2 e3
    subst e1; subst e3
    have hm0 : m = 0 := by omega
    subst hm0
    exact .inl ⟨rfl, by simp⟩
  · injection hv with e1 e2 e3
    subst e1; subst e3
    refine .inr ⟨g, c, cur, by rw [hl], hb, hh, by omega, h4, h5, ?_⟩
    have hle : m * k ≤ L.length * k := Nat.mul_le_mul_right _ hm
    rw [hl, show m * k = min (m * k) (L.length * k) by omega, ← List.take_take, h6, hsplit, List.take_append_of_le_length (by omega), List.take_of_length_le (by omega)]
section
variable {w w' : World} {base tO K tI kI : Nat} {α β : Type} {enc : α × Value → List Value} {encI : β → List Value} {inner : α → List β} {v v' : Value} {M A B : List (α × Value)} {x x' : α × Value}
theorem OwnN.app (h : OwnN w base tO K enc tI kI encI inner v M) (hx : Own w base tI kI encI x.2 (inner x.1)) (hap : ∀ b, x.2.ownBlock = some b → ¬ ownsN v M b)
    (ho : Own w' base tO K enc v' (M ++ [x])) (hg : w.grownBy w' v.ownBlock) (hat : v'.ownBlock = v.ownBlock ∨ v'.ownBlock = some w.heap.size) : OwnN w' base tO K enc tI kI encI inner v' (M ++ [x]) := by
  obtain ⟨h0, h1, h3, h4⟩ := h
  refine ⟨ho, fun r hr => ?_, ?_, fun r hr b hb => ?_⟩
  · rw [List.mem_append, List.mem_singleton] at hr
    rcases hr with hr | rfl
    · exact (h1 r hr).keep (fun b hb => hg.block b ((h1 r hr).block b hb).2 (by intro e; exact h4 r hr b hb e.symm))
    · exact hx.keep (fun b hb => hg.block b (hx.block b hb).2 (by intro e; exact hap b hb (Or.inl e.symm)))
  · unfold ApartN
    rw [List.pairwise_append]
    refine ⟨h3, List.pairwise_singleton _ _, fun a ha b hb i hi hj => ?_⟩
    rw [List.mem_singleton] at hb
    subst hb
    exact hap i hj (Or.inr ⟨a, ha, hi⟩)
  · rw [List.mem_append, List.mem_singleton] at hr
    rcases hr with hr | rfl
    · rcases hat with e | e
      · rw [e]; exact h4 r hr b hb
      · rw [e]; intro q; injection q with q; have := ((h1 r hr).block b hb).2; omega
    · rcases hat with e | e
      · rw [e]; intro q; exact hap b hb (Or.inl q)
      · rw [e]; intro q; injection q with q; have := (hx.block b hb).2; omega
theorem OwnN.put {g j : Nat} {u : Value} (h : OwnN w base tO K enc tI kI encI inner v (A ++ x :: B)) (hK : ∀ y, (enc y).length = K) (hv : v.ownBlock = some g) (hj : j < K) (hx : enc x' = (enc x).set j u)
    (ho : Own w base tI kI encI x'.2 (inner x'.1)) (hap : ∀ b, x'.2.ownBlock = some b → ¬ ownsN v (A ++ x :: B) b) :
    OwnN (w.setCell ⟨g, A.length * K + j, none⟩ u) base tO K enc tI kI encI inner v (A ++ x' :: B) := by
  obtain ⟨h0, h1, h3, h4⟩ := h
  have hkeep : ∀ r ∈ A ++ x :: B, Own (w.setCell ⟨g, A.length * K + j, none⟩ u) base tI kI encI r.2 (inner r.1) := fun r hr =>
    (h1 r hr).keep (fun b hb => Below.heap_setCell w _ _ b (by intro e; have := h4 r hr b hb; rw [hv] at this; apply this; rw [e]))
  have hin : ∀ r, r ∈ A ∨ r ∈ B → r ∈ A ++ x :: B := fun r hr => by
    rcases hr with hr | hr
    · simp [hr]
    · simp [hr]
  refine ⟨own_setK hK h0 hv hj hx, fun r hr => ?_, ?_, fun r hr b hb => ?_⟩
  · rw [List.mem_append, List.mem_cons] at hr
    rcases hr with hr | rfl | hr
    · exact hkeep r (hin r (Or.inl hr))
    · exact ho.keep (fun b hb => Below.heap_setCell w _ _ b (by intro e; apply hap b hb; left; rw [hv, e]))
    · exact hkeep r (hin r (Or.inr hr))
  · unfold ApartN at h3 ⊢
    rw [List.pairwise_append, List.pairwise_cons] at h3 ⊢
    refine ⟨h3.1, ⟨fun a ha i hi hj => hap i hi (Or.inr ⟨a, hin a (Or.inr ha), hj⟩), h3.2.1.2⟩, fun a ha b hb => ?_⟩
    rw [List.mem_cons] at hb
    rcases hb with rfl | hb
    · intro i hi hj; exact hap i hj (Or.inr ⟨a, hin a (Or.inl ha), hi⟩)
    · exact h3.2.2 a ha b (by simp [hb])
  · rw [List.mem_append, List.mem_cons] at hr
    rcases hr with hr | rfl | hr
    · exact h4 r (hin r (Or.inl hr)) b hb
    · intro q; exact hap b hb (Or.inl q)
    · exact h4 r (hin r (Or.inr hr)) b hb
end
end Imp
