/-
  Walks: bodies drawn that may be invalid; the laws on bodies, their sizes and hashes.
-/
import Derived.Test.YtepljjaienpepaaDoorDrawCZ
namespace Imp
open Go Go.RowKit
theorem own_row5 {w : World} {base t : Nat} {v : Value} {x : Stm} {L : List Stm} (h : Own w base t 5 eSt v (x :: L)) :
    ∃ b c, v = .slice (some ⟨b, 0, none⟩) (x :: L).length c ∧ base ≤ b ∧ b < w.heap.size ∧ (x :: L).length ≤ c ∧
      (∀ j u, (eSt x)[j]? = some u → w.cell? ⟨b, j, none⟩ = some u) ∧ ∀ j, w.frozen? ⟨b, j, none⟩ = false := by
  obtain ⟨h1, h2⟩ := h
  rcases h2 with ⟨_, e⟩ | ⟨g, cap, cur, e, hb, hh, h3, h4, h5, h6⟩
  · simp at e
  · refine ⟨g, cap, e, hb, lt_of_block hh, h3, fun j u hu => ?_, fun j => frozen_of_row w g j _ _ hh⟩
    have hj : j < 5 := (List.getElem?_eq_some_iff.1 hu).1
    rw [cell_of_row w g j _ _ _ hh, ← Array.getElem?_toList, ← List.getElem?_take_of_lt (show j < (x :: L).length * 5 by rw [List.length_cons]; omega), h6, List.flatMap_cons, List.getElem?_append_left (by show j < 5; exact hj)]
    exact hu
theorem own_set5 {w : World} {base t b j : Nat} {v u : Value} {x x' : Stm} {L : List Stm} (h : Own w base t 5 eSt v (x :: L)) (hv : v.ownBlock = some b) (hj : j < 5) (hx : eSt x' = (eSt x).set j u) :
    Own (w.setCell ⟨b, j, none⟩ u) base t 5 eSt v (x' :: L) := by
  obtain ⟨h1, h2⟩ := h
  rcases h2 with ⟨_, e⟩ | ⟨g, cap, cur, e, hb, hh, h3, h4, h5, h6⟩
  · simp at e
  · subst e
    injection hv with hv
    subst hv
    refine ⟨flatMap_len _ (fun _ _ => rfl), .inr ⟨g, cap, cur.setIfInBounds j u, rfl, hb, heap_setCell_same w g j cur t u hh, h3, h4, by simpa using h5, ?_⟩⟩
    have h6' : cur.toList.take ((x :: L).length * 5) = (x :: L).flatMap eSt := h6
    rw [List.flatMap_cons] at h6'
    show (cur.setIfInBounds j u).toList.take ((x :: L).length * 5) = _
    rw [Array.toList_setIfInBounds, List.take_set, h6', List.flatMap_cons, hx, List.set_append_left _ _ (by show j < 5; exact hj)]
theorem okBody_without {L : List Stm} (h : okBody L = true) (k : Nat) : okBody (L.take k ++ L.drop (k + 1)) = true := by
  unfold okBody at h ⊢
  rw [Bool.and_eq_true] at h ⊢
  obtain ⟨h1, h2⟩ := h
  have hs := sub_without L k
  refine ⟨List.all_eq_true.mpr (fun x hx => List.all_eq_true.mp h1 x (hs.subset hx)), ?_⟩
  have := hs.length_le
  have := of_decide_eq_true h2
  exact decide_eq_true (by omega)
theorem okBody_sub {L M : List Stm} (h : okBody L = true) (hs : M.Sublist L) : okBody M = true := by
  unfold okBody at h ⊢
  rw [Bool.and_eq_true] at h ⊢
  obtain ⟨h1, h2⟩ := h
  refine ⟨List.all_eq_true.mpr (fun x hx => List.all_eq_true.mp h1 x (hs.subset hx)), ?_⟩
  have := hs.length_le
  have := of_decide_eq_true h2
  exact decide_eq_true (by omega)
theorem totB_append : ∀ (A B : List Stm), totB (A ++ B) = totB A + totB B
  | [], B => by simp [totB]
  | x :: A, B => by rw [List.cons_append, totB, totB, totB_append A B]; omega
theorem totB_five : ∀ {L : List Stm}, (∀ s ∈ L, s.mod.size ≤ 5 ∧ s.name.size ≤ 5) → totB L ≤ 10 * L.length
  | [], _ => by simp [totB]
  | x :: L, h => by
    have := totB_five (L := L) (fun s hs => h s (List.mem_cons_of_mem _ hs))
    obtain ⟨h1, h2⟩ := h x (List.mem_cons_self ..)
    rw [totB, szSt, List.length_cons]; omega
theorem fSize_ok {L : List Stm} (h : okBody L = true) : fSize L = ((3 * L.length + totB L : Nat) : Int) := by unfold fSize; rw [if_pos h]
theorem fSize_bad {L : List Stm} (h : okBody L = false) : fSize L = -1 := by unfold fSize; rw [h]; rfl
theorem fHash_ok {L : List Stm} (h : okBody L = true) : 0 ≤ fHash L ∧ fHash L < 1000003 := by
  unfold fHash; rw [if_pos h]; exact hashP_ok (okBody_small h)
theorem fHash_bad {L : List Stm} (h : okBody L = false) : fHash L = -1 := by unfold fHash; rw [h]; rfl
theorem wpList_appG {P : Program} {α : Type} {enc : α → List Value} (w : World) {ops : Array Oper} {rest : List Oper} {o : Oper} {a : Act} {Q : Exit → Act → World → Prop} (hgd : Region.wanted o (yielded ops a.tmps) = true) (s x : Operand) {t e : TypeId} {k bytes base : Nat} (ti : TI P t e k bytes)
    (ho : o.op = .call { callee := .builtin .append, args := #[s, x], argTypes := #[t, t] }) {v : Value} {L M : List α} (hs : a.eval s = v) (hown : Own w base e k enc v L) {lo hi : Nat} {A : Option Addr} {m c : Nat}
    (hx : a.eval x = .slice A m c) (hsrc : SlR w lo hi k enc (.slice A m c) M) (hk : ∀ x ∈ M, (enc x).length = k) (h1 : ∀ x ∈ M, ∀ u ∈ enc x, u.oneCell' = true)
    (h63 : L.length + M.length ≤ maxLen) (hbytes : (L.length + M.length) * bytes ≤ 140737488355328) (hbase : base ≤ w.heap.size)
    (h : ∀ v' w', Own w' base e k enc v' (L ++ M) → w.grownBy w' v.ownBlock → (v'.ownBlock = v.ownBlock ∨ v'.ownBlock = some w.heap.size) → wpList P ops Q rest (a.put o.dst v') w') : wpList P ops Q (o :: rest) a w :=
  wpList_step fun K hK => by
    rw [if_pos hgd]
    exact wp_app w s x ti ho hs hown hx hsrc hk h1 h63 hbytes hbase fun v' w' h2 h3 h4 => hK _ _ (h v' w' h2 h3 h4)
end Imp
namespace Go.Proofs.YtepljjaienpepaaDoor
open Go Go.RowKit Imp
set_option linter.unusedVariables false

end Go.Proofs.YtepljjaienpepaaDoor
