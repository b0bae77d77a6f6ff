/-
  Files and trees as arguments.
-/
import Derived.Test.YtepljjaienpepaaDoorZ4
import Derived.Deep.RegionHeld3
namespace Imp
open Go Go.RowKit Go.ChangeShapes Go.WideShapes Go.ChangeAt Go.Deep
section
variable {H : Type} {enc : TypeId × Value → H} {P : Program} {w : World} {base : Nat} {spare : Nat → Bool} {held : Bool}
theorem field_rows {α : Type} {e k : Nat} {cs : List Value} {off ft n : Nat} {o : Option (DataW H × List MemPlace)} (f : α → List Value) (Q : α → Prop) (hc : P.cellsOf ft = 1) (ht : P.underlying ft = some (.slice e)) (hk : P.cellsOf e = k) (hpos : 0 < k)
    (hrow : ∀ n cs' y, DataW.trod enc P w base spare held n e cs' = some y → ∃ z : α, cs' = f z ∧ Q z) (hs : o.isSome = true) (h : DataW.trod enc P w base spare held n ft ((cs.drop off).take (P.cellsOf ft)) = o) :
    ∃ v, cs[off]? = some v ∧ ∃ L : List α, SlR w 0 w.heap.size k f v L ∧ ∀ z ∈ L, Q z := by
  obtain ⟨y, rfl⟩ := Option.isSome_iff_exists.1 hs
  obtain ⟨v, e, L, h1, h2⟩ := open_rows f Q ht hk hpos hrow h
  rw [hc] at e
  exact ⟨v, take_one e, L, h1, h2⟩
end
theorem cells6 {w W : World} {b T : Nat} {a0 a1 a2 a3 a4 a5 : Value} (h : w.heap[b]? = some (.cells #[a0, a1, a2, a3, a4, a5] T (0, 0))) (hg : Below w.heap.size w W) :
    W.cell? ⟨b, 0, none⟩ = some a0 ∧ W.cell? ⟨b, 1, none⟩ = some a1 ∧ W.cell? ⟨b, 2, none⟩ = some a2 ∧ W.cell? ⟨b, 3, none⟩ = some a3 ∧ W.cell? ⟨b, 4, none⟩ = some a4 ∧ W.cell? ⟨b, 5, none⟩ = some a5 := by
  have h' := (hg.block b (lt_of_block h)).trans h
  exact ⟨by rw [cell_of_row W b 0 _ _ _ h']; rfl, by rw [cell_of_row W b 1 _ _ _ h']; rfl, by rw [cell_of_row W b 2 _ _ _ h']; rfl, by rw [cell_of_row W b 3 _ _ _ h']; rfl, by rw [cell_of_row W b 4 _ _ _ h']; rfl, by rw [cell_of_row W b 5 _ _ _ h']; rfl⟩
end Imp
namespace Go.Proofs.YtepljjaienpepaaDoor
open Go Go.RowKit Go.ChangeShapes Go.WideShapes Go.ChangeAt Go.Deep Imp
set_option linter.unusedVariables false
section
variable {H : Type} {enc : TypeId × Value → H} {W : World} {base : Nat} {v : Value} {d : DataW H} {p : List MemPlace}
end
end Go.Proofs.YtepljjaienpepaaDoor

/-
  Walks: modules of files; the law that the two packages tell the same of them.
-/
namespace Imp
open Go
def nameP (f : Fil) : List UInt8 := if f.init then bs f.pkg else childP (bs f.pkg) (bs f.name)
def fMod (f : Fil) : List UInt8 := if okFil f then nameP f else []
theorem fMod_ok {f : Fil} (h : okFil f = true) : fMod f = nameP f := by unfold fMod; rw [if_pos h]
theorem fMod_bad {f : Fil} (h : okFil f = false) : fMod f = [] := by unfold fMod; rw [h]; rfl
theorem child_of_ok {f : Fil} (h : okFil f = true) (hi : f.init = false) : fChild (bs f.pkg) (bs f.name) = childP (bs f.pkg) (bs f.name) := by
  unfold okFil at h
  rw [hi] at h
  simp only [Bool.and_eq_true, Bool.false_eq_true, ↓reduceIte] at h
  unfold fChild
  rw [h.1.1.1.2, h.2.1, h.2.2]; rfl
end Imp
namespace Go.Proofs.YtepljjaienpepaaDoor
open Go Go.RowKit Imp
set_option linter.unusedVariables false
set_option linter.unusedSimpArgs false

end Go.Proofs.YtepljjaienpepaaDoor

/-
  Words for memory: rows that hold slices of their own, grown by one, cut short, and given another slice.
-/
namespace Imp
open Go Go.RowKit
theorem Own.take {α : Type} {w : World} {base e k : Nat} {enc : α → List Value} {a : Option Addr} {n c : Nat} {L : List α} (hk : ∀ x, (enc x).length = k) (h : Own w base e k enc (.slice a n c) L) (m : Nat) (hm : m ≤ L.length) :
    Own w base e k enc (.slice a m c) (L.take m) := by
  have hA : ((L.take m).flatMap enc).length = m * k := by rw [flatMap_len _ (fun _ _ => hk _), List.length_take]; congr 1; omega
  have hsplit : L.flatMap enc = (L.take m).flatMap enc ++ (L.drop m).flatMap enc := by rw [← List.flatMap_append, List.take_append_drop]
  obtain ⟨h1, h2⟩ := h
  have hl : (L.take m).length = m := by rw [List.length_take]; omega
  refine ⟨by rw [hl]; exact hA, ?_⟩
  rcases h2 with ⟨hv, h0⟩ | ⟨g, cap, cur, hv, hb, hh, h3, h4, h5, h6⟩
  · injection hv with e1 e2 e3
    subst e1; subst e3
    have hm0 : m = 0 := by omega
    subst hm0
    exact .inl ⟨rfl, by simp⟩
  · injection hv with e1 e2 e3
    subst e1; subst e3
    refine .inr ⟨g, c, cur, by rw [hl], hb, hh, by omega, h4, h5, ?_⟩
    have hle : m * k ≤ L.length * k := Nat.mul_le_mul_right _ hm
    rw [hl, show m * k = min (m * k) (L.length * k) by omega, ← List.take_take, h6, hsplit, List.take_append_of_le_length (by omega), List.take_of_length_le (by omega)]
section
variable {w w' : World} {base tO K tI kI : Nat} {α β : Type} {enc : α × Value → List Value} {encI : β → List Value} {inner : α → List β} {v v' : Value} {M A B : List (α × Value)} {x x' : α × Value}
theorem OwnN.app (h : OwnN w base tO K enc tI kI encI inner v M) (hx : Own w base tI kI encI x.2 (inner x.1)) (hap : ∀ b, x.2.ownBlock = some b → ¬ ownsN v M b)
    (ho : Own w' base tO K enc v' (M ++ [x])) (hg : w.grownBy w' v.ownBlock) (hat : v'.ownBlock = v.ownBlock ∨ v'.ownBlock = some w.heap.size) : OwnN w' base tO K enc tI kI encI inner v' (M ++ [x]) := by
  obtain ⟨h0, h1, h3, h4⟩ := h
  refine ⟨ho, fun r hr => ?_, ?_, fun r hr b hb => ?_⟩
  · rw [List.mem_append, List.mem_singleton] at hr
    rcases hr with hr | rfl
    · exact (h1 r hr).keep (fun b hb => hg.block b ((h1 r hr).block b hb).2 (by intro e; exact h4 r hr b hb e.symm))
    · exact hx.keep (fun b hb => hg.block b (hx.block b hb).2 (by intro e; exact hap b hb (Or.inl e.symm)))
  · unfold ApartN
    rw [List.pairwise_append]
    refine ⟨h3, List.pairwise_singleton _ _, fun a ha b hb i hi hj => ?_⟩
    rw [List.mem_singleton] at hb
    subst hb
    exact hap i hj (Or.inr ⟨a, ha, hi⟩)
  · rw [List.mem_append, List.mem_singleton] at hr
    rcases hr with hr | rfl
    · rcases hat with e | e
      · rw [e]; exact h4 r hr b hb
      · rw [e]; intro q; injection q with q; have := ((h1 r hr).block b hb).2; omega
    · rcases hat with e | e
      · rw [e]; intro q; exact hap b hb (Or.inl q)
      · rw [e]; intro q; injection q with q; have := (hx.block b hb).2; omega
theorem OwnN.put {g j : Nat} {u : Value} (h : OwnN w base tO K enc tI kI encI inner v (A ++ x :: B)) (hK : ∀ y, (enc y).length = K) (hv : v.ownBlock = some g) (hj : j < K) (hx : enc x' = (enc x).set j u)
    (ho : Own w base tI kI encI x'.2 (inner x'.1)) (hap : ∀ b, x'.2.ownBlock = some b → ¬ ownsN v (A ++ x :: B) b) :
    OwnN (w.setCell ⟨g, A.length * K + j, none⟩ u) base tO K enc tI kI encI inner v (A ++ x' :: B) := by
  obtain ⟨h0, h1, h3, h4⟩ := h
  have hkeep : ∀ r ∈ A ++ x :: B, Own (w.setCell ⟨g, A.length * K + j, none⟩ u) base tI kI encI r.2 (inner r.1) := fun r hr =>
    (h1 r hr).keep (fun b hb => Below.heap_setCell w _ _ b (by intro e; have := h4 r hr b hb; rw [hv] at this; apply this; rw [e]))
  have hin : ∀ r, r ∈ A ∨ r ∈ B → r ∈ A ++ x :: B := fun r hr => by
    rcases hr with hr | hr
    · simp [hr]
    · simp [hr]
  refine ⟨own_setK hK h0 hv hj hx, fun r hr => ?_, ?_, fun r hr b hb => ?_⟩
  · rw [List.mem_append, List.mem_cons] at hr
    rcases hr with hr | rfl | hr
    · exact hkeep r (hin r (Or.inl hr))
    · exact ho.keep (fun b hb => Below.heap_setCell w _ _ b (by intro e; apply hap b hb; left; rw [hv, e]))
    · exact hkeep r (hin r (Or.inr hr))
  · unfold ApartN at h3 ⊢
    rw [List.pairwise_append, List.pairwise_cons] at h3 ⊢
    refine ⟨h3.1, ⟨fun a ha i hi hj => hap i hi (Or.inr ⟨a, hin a (Or.inr ha), hj⟩), h3.2.1.2⟩, fun a ha b hb => ?_⟩
    rw [List.mem_cons] at hb
    rcases hb with rfl | hb
    · intro i hi hj; exact hap i hj (Or.inr ⟨a, hin a (Or.inl ha), hi⟩)
    · exact h3.2.2 a ha b (by simp [hb])
  · rw [List.mem_append, List.mem_cons] at hr
    rcases hr with hr | rfl | hr
    · exact h4 r (hin r (Or.inl hr)) b hb
    · intro q; exact hap b hb (Or.inl q)
    · exact h4 r (hin r (Or.inr hr)) b hb
end
end Imp

/-
  Walks: copies of files and trees that the call owns, both packages. Printed by treeo.py.
-/
namespace Imp
open Go Go.RowKit
theorem put6o {w : World} {b t : Nat} {a0 a1 a2 a3 a4 a5 : Value} (h : w.heap[b]? = some (.cells #[a0, a1, a2, a3, a4, a5] t (0, 0))) (v0 v1 v2 v3 v4 v5 : Value) :
    ((((((w.setCell ⟨b, 0, none⟩ v0).setCell ⟨b, 1, none⟩ v1).setCell ⟨b, 2, none⟩ v2).setCell ⟨b, 3, none⟩ v3).setCell ⟨b, 4, none⟩ v4).setCell ⟨b, 5, none⟩ v5).heap[b]? = some (.cells #[v0, v1, v2, v3, v4, v5] t (0, 0)) ∧ w.grownBy ((((((w.setCell ⟨b, 0, none⟩ v0).setCell ⟨b, 1, none⟩ v1).setCell ⟨b, 2, none⟩ v2).setCell ⟨b, 3, none⟩ v3).setCell ⟨b, 4, none⟩ v4).setCell ⟨b, 5, none⟩ v5) (some b) := by
  refine ⟨heap_setCell_same _ b 5 _ _ v5 (heap_setCell_same _ b 4 _ _ v4 (heap_setCell_same _ b 3 _ _ v3 (heap_setCell_same _ b 2 _ _ v2 (heap_setCell_same _ b 1 _ _ v1 (heap_setCell_same _ b 0 _ _ v0 h))))), ?_⟩
  exact grown_tr (grown_tr (grown_tr (grown_tr (grown_tr (grown_set _ _ _ _) (grown_set _ _ _ _)) (grown_set _ _ _ _)) (grown_set _ _ _ _)) (grown_set _ _ _ _)) (grown_set _ _ _ _)
theorem rows6o {w : World} {b t : Nat} {a0 a1 a2 a3 a4 a5 : Value} (h : w.heap[b]? = some (.cells #[a0, a1, a2, a3, a4, a5] t (0, 0))) :
    (w.cell? ⟨b, 0, none⟩ = some a0 ∧ w.cell? ⟨b, 1, none⟩ = some a1 ∧ w.cell? ⟨b, 2, none⟩ = some a2 ∧ w.cell? ⟨b, 3, none⟩ = some a3 ∧ w.cell? ⟨b, 4, none⟩ = some a4 ∧ w.cell? ⟨b, 5, none⟩ = some a5) ∧
    (w.frozen? ⟨b, 0, none⟩ = false ∧ w.frozen? ⟨b, 1, none⟩ = false ∧ w.frozen? ⟨b, 2, none⟩ = false ∧ w.frozen? ⟨b, 3, none⟩ = false ∧ w.frozen? ⟨b, 4, none⟩ = false ∧ w.frozen? ⟨b, 5, none⟩ = false) :=
  ⟨⟨by rw [cell_of_row w b 0 _ _ _ h]; rfl, by rw [cell_of_row w b 1 _ _ _ h]; rfl, by rw [cell_of_row w b 2 _ _ _ h]; rfl, by rw [cell_of_row w b 3 _ _ _ h]; rfl, by rw [cell_of_row w b 4 _ _ _ h]; rfl, by rw [cell_of_row w b 5 _ _ _ h]; rfl⟩,
   ⟨frozen_of_row w b 0 _ _ h, frozen_of_row w b 1 _ _ h, frozen_of_row w b 2 _ _ h, frozen_of_row w b 3 _ _ h, frozen_of_row w b 4 _ _ h, frozen_of_row w b 5 _ _ h⟩⟩
/-- One block written, another one as it was. -/
theorem set_othero {W : World} {b b' o : Nat} {v : Value} {ob : Obj} (h : W.heap[b]? = some ob) (hne : b ≠ b') : (W.setCell ⟨b', o, none⟩ v).heap[b]? = some ob :=
  (Below.heap_setCell W _ _ b hne).trans h
theorem SlR.oneO {α : Type} {enc : α → List Value} {k : Nat} (w : World) (lo b : Nat) (x : α) (e : TypeId) (hb : b = w.heap.size) (hlo : lo ≤ b) (hk : (enc x).length = k) : SlR (w.alloc (.cells (enc x).toArray e)) lo (b + 1) k enc (.slice (some ⟨b, 0, none⟩) 1 1) [x] := by
  subst hb; exact SlR.one w lo x e hlo hk
end Imp
namespace Go.Proofs.YtepljjaienpepaaDoor
open Go Go.RowKit Imp
set_option linter.unusedVariables false
set_option linter.unusedSimpArgs false
theorem ti_stmO : TI Tryd.prog 53 78 5 56 := TI.mk' (z := zSt) Tryd.underlying53 (by kernel_rfl) rfl (by decide)
def zFlO : Value := .agg #[.int .i64 0, .string ByteArray.empty, .string ByteArray.empty, .bool false, .int .i64 0, .slice none 0 0]
theorem ti_filO : TI Tryd.prog 23 55 6 80 := TI.mk' (z := zFlO) Tryd.underlying23 (by kernel_rfl) rfl (by decide)
/-- A file copied: its body in a block of the call's own. -/
def DCpy (w : World) (f : Fil) (e : Ending) (w' : World) : Prop := ∃ u, e = .returned (vF (f, u)) ∧ Own w' (w.heap.size + 2) 78 5 eSt u f.body ∧ Gr w w'
set_option maxHeartbeats 1600000 in
theorem scopyFile_own {lo hi : Nat} (f : Fil) (bv : Value) (w : World) (hb : SlR w lo hi 5 eSt bv f.body) (hhi : hi ≤ w.heap.size) (hn : f.body.length ≤ 1048576) :
    Calls Tryd.prog 64 #[vF (f, bv)] w (DCpy w f) := by
  obtain ⟨root, pkg, name, init, stamp, body⟩ := f
  simp only at hb hn
  obtain ⟨ua, uc, rfl, _, _⟩ := hb.form
  have hg2 := gr_al2 w (.cells #[.int .i64 root, .string pkg, .string name, .bool init, .int .i64 stamp, .slice ua body.length uc] 55) (.cells #[.int .i64 0, .string ByteArray.empty, .string ByteArray.empty, .bool false, .int .i64 0, .slice none 0 0] 55)
  have hg3 := hg2.tr (gr_al ((w.alloc (.cells #[.int .i64 root, .string pkg, .string name, .bool init, .int .i64 stamp, .slice ua body.length uc] 55)).alloc (.cells #[.int .i64 0, .string ByteArray.empty, .string ByteArray.empty, .bool false, .int .i64 0, .slice none 0 0] 55)) (.cells #[] 78))
  have hA := ((Below.heap_alloc (w.alloc (.cells #[.int .i64 root, .string pkg, .string name, .bool init, .int .i64 stamp, .slice ua body.length uc] 55)) (.cells #[.int .i64 0, .string ByteArray.empty, .string ByteArray.empty, .bool false, .int .i64 0, .slice none 0 0] 55) w.heap.size (by simp)).trans (heap_alloc_new w (.cells #[.int .i64 root, .string pkg, .string name, .bool init, .int .i64 stamp, .slice ua body.length uc] 55)))
  have hB := heap_alloc2_new w (.cells #[.int .i64 root, .string pkg, .string name, .bool init, .int .i64 stamp, .slice ua body.length uc] 55) (.cells #[.int .i64 0, .string ByteArray.empty, .string ByteArray.empty, .bool false, .int .i64 0, .slice none 0 0] 55)
  have hA3 := ((gr_al ((w.alloc (.cells #[.int .i64 root, .string pkg, .string name, .bool init, .int .i64 stamp, .slice ua body.length uc] 55)).alloc (.cells #[.int .i64 0, .string ByteArray.empty, .string ByteArray.empty, .bool false, .int .i64 0, .slice none 0 0] 55)) (.cells #[] 78)).block w.heap.size (by simp <;> omega)).trans hA
  have hB3 := ((gr_al ((w.alloc (.cells #[.int .i64 root, .string pkg, .string name, .bool init, .int .i64 stamp, .slice ua body.length uc] 55)).alloc (.cells #[.int .i64 0, .string ByteArray.empty, .string ByteArray.empty, .bool false, .int .i64 0, .slice none 0 0] 55)) (.cells #[] 78)).block (w.heap.size + 1) (by simp <;> omega)).trans hB
  have hsrc := SlR.below hb hg3 hhi
  have hoE : Own (((w.alloc (.cells #[.int .i64 root, .string pkg, .string name, .bool init, .int .i64 stamp, .slice ua body.length uc] 55)).alloc (.cells #[.int .i64 0, .string ByteArray.empty, .string ByteArray.empty, .bool false, .int .i64 0, .slice none 0 0] 55)).alloc (.cells #[] 78)) (w.heap.size + 2) 78 5 eSt (.slice (some ⟨((w.alloc (.cells #[.int .i64 root, .string pkg, .string name, .bool init, .int .i64 stamp, .slice ua body.length uc] 55)).alloc (.cells #[.int .i64 0, .string ByteArray.empty, .string ByteArray.empty, .bool false, .int .i64 0, .slice none 0 0] 55)).heap.size, 0, none⟩) 0 0) ([] : List Stm) := Own.empty _ _ _ _ _ (by simp)
  rw [show ((w.alloc (.cells #[.int .i64 root, .string pkg, .string name, .bool init, .int .i64 stamp, .slice ua body.length uc] 55)).alloc (.cells #[.int .i64 0, .string ByteArray.empty, .string ByteArray.empty, .bool false, .int .i64 0, .slice none 0 0] 55)).heap.size = w.heap.size + 1 + 1 by simp] at hoE
  obtain ⟨⟨a0, a1, a2, a3, a4, a5⟩, _⟩ := rows6o hA3
  have HA := Lib.hid hA3
  have HB := Lib.hid hB3
  clear hA hB hA3 hB3 hb
  go_enter Tryd.func64, Tryd.ntmps64
  go_wp2_with (at_builtin
               refine wpList_app _ rfl (.tmp 3) (.tmp 5) ti_stmO rfl rfl hoE rfl hsrc (fun _ _ => rfl) (by simp [eSt, Value.oneCell']) (by unfold maxLen; simp; omega) (by simp; omega) (by simp) ?_
               intro v9 w9 hown9 hg9 hat9
               simp only [List.nil_append] at hown9
               obtain ⟨va, vc, hv9, _, _⟩ := hown9.form
               subst hv9
               have hA9 := (hg9.block w.heap.size (lt_of_block HA.out) (by intro q; have q : some w.heap.size = some (w.heap.size + 1 + 1) := q; injection q with q; omega)).trans HA.out
               have hB9 := (hg9.block (w.heap.size + 1) (lt_of_block HB.out) (by intro q; have q : some (w.heap.size + 1) = some (w.heap.size + 1 + 1) := q; injection q with q; omega)).trans HB.out
               obtain ⟨⟨d0, d1, d2, d3, d4, d5⟩, e0, e1, e2, e3, e4, e5⟩ := rows6o hA9
               obtain ⟨⟨x0, x1, x2, x3, x4, x5⟩, y0, y1, y2, y3, y4, y5⟩ := rows6o hB9
               have HB9 := Lib.hid hB9
               clear hA9 hB9)
  have hput := put6o (set_othero (b' := w.heap.size) (o := 5) (v := .slice va body.length vc) HB9.out (by omega)) (.int .i64 root) (.string pkg) (.string name) (.bool init) (.int .i64 stamp) (.slice va body.length vc)
  refine bodyPost_ret (results_cell_row rfl _ _ (w.heap.size + 1) 55 _ (0, 0) _ rfl hput.1 Tryd.underlying55 rfl (by kernel_rfl)) rfl ?_
  have hs9 := hg9.size
  simp at hs9
  refine ⟨_, rfl, ?_, ?_⟩
  · refine Own.keep (hown9.keep (fun b hb => Below.heap_setCell _ ⟨w.heap.size, 5, none⟩ (.slice va body.length vc) b (by show b ≠ w.heap.size; have := (hown9.block b hb).1; omega))) (fun b hb => hput.2.block b ?_ ?_)
    · have := (hown9.block b hb).2; simp; omega
    · intro q; injection q with q; have := (hown9.block b hb).1; omega
  · have q1 : Gr w w9 := hg3.grown hg9 (by simp; omega) (fun b hb => by have hb : some (w.heap.size + 1 + 1) = some b := hb; injection hb with hb; omega)
    have q2 : Gr w (w9.setCell ⟨w.heap.size, 5, none⟩ (.slice va body.length vc)) := Below.setCell q1 (p := ⟨w.heap.size, 5, none⟩) (Nat.le_refl _) _
    exact q2.grown hput.2 q2.size (fun b hb => by injection hb with hb; omega)
end Go.Proofs.YtepljjaienpepaaDoor
