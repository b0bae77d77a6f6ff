/-
  Walks: copies of files and trees that the call owns, both packages. Printed by treeo.py.
-/
import Derived.Test.YthjegibkbpafeaaDoorZ6
namespace Imp
open Go Go.RowKit
theorem put6o {w : World} {b t : Nat} {a0 a1 a2 a3 a4 a5 : Value} (h : w.heap[b]? = some (.cells #[a0, a1, a2, a3, a4, a5] t (0, 0))) (v0 v1 v2 v3 v4 v5 : Value) :
    ((((((w.setCell ⟨b, 0, none⟩ v0).setCell ⟨b, 1, none⟩ v1).setCell ⟨b, 2, none⟩ v2).setCell ⟨b, 3, none⟩ v3).setCell ⟨b, 4, none⟩ v4).setCell ⟨b, 5, none⟩ v5).heap[b]? = some (.cells #[v0, v1, v2, v3, v4, v5] t (0, 0)) ∧ w.grownBy ((((((w.setCell ⟨b, 0, none⟩ v0).setCell ⟨b, 1, none⟩ v1).setCell ⟨b, 2, none⟩ v2).setCell ⟨b, 3, none⟩ v3).setCell ⟨b, 4, none⟩ v4).setCell ⟨b, 5, none⟩ v5) (some b) := by
  refine ⟨heap_setCell_same _ b 5 _ _ v5 (heap_setCell_same _ b 4 _ _ v4 (heap_setCell_same _ b 3 _ _ v3 (heap_setCell_same _ b 2 _ _ v2 (heap_setCell_same _ b 1 _ _ v1 (heap_setCell_same _ b 0 _ _ v0 h))))), ?_⟩
  exact grown_tr (grown_tr (grown_tr (grown_tr (grown_tr (grown_set _ _ _ _) (grown_set _ _ _ _)) (grown_set _ _ _ _)) (grown_set _ _ _ _)) (grown_set _ _ _ _)) (grown_set _ _ _ _)
theorem rows6o {w : World} {b t : Nat} {a0 a1 a2 a3 a4 a5 : Value} (h : w.heap[b]? = some (.cells #[a0, a1, a2, a3, a4, a5] t (0, 0))) :
    (w.cell? ⟨b, 0, none⟩ = some a0 ∧ w.cell? ⟨b, 1, none⟩ = some a1 ∧ w.cell? ⟨b, 2, none⟩ = some a2 ∧ w.cell? ⟨b, 3, none⟩ = some a3 ∧ w.cell? ⟨b, 4, none⟩ = some a4 ∧ w.cell? ⟨b, 5, none⟩ = some a5) ∧
    (w.frozen? ⟨b, 0, none⟩ = false ∧ w.frozen? ⟨b, 1, none⟩ = false ∧ w.frozen? ⟨b, 2, none⟩ = false ∧ w.frozen? ⟨b, 3, none⟩ = false ∧ w.frozen? ⟨b, 4, none⟩ = false ∧ w.frozen? ⟨b, 5, none⟩ = false) :=
  ⟨⟨by rw [cell_of_row w b 0 _ _ _ h]; rfl, by rw [cell_of_row w b 1 _ _ _ h]; rfl, by rw [cell_of_row w b 2 _ _ _ h]; rfl, by rw [cell_of_row w b 3 _ _ _ h]; rfl, by rw [cell_of_row w b 4 _ _ _ h]; rfl, by rw [cell_of_row w b 5 _ _ _ h]; rfl⟩,
   ⟨frozen_of_row w b 0 _ _ h, frozen_of_row w b 1 _ _ h, frozen_of_row w b 2 _ _ h, frozen_of_row w b 3 _ _ h, frozen_of_row w b 4 _ _ h, frozen_of_row w b 5 _ _ h⟩⟩
/-- One block written, another one as it was. -/
theorem set_othero {W : World} {b b' o : Nat} {v : Value} {ob : Obj} (h : W.heap[b]? = some ob) (hne : b ≠ b') : (W.setCell ⟨b', o, none⟩ v).heap[b]? = some ob :=
  (Below.heap_setCell W _ _ b hne).trans h
theorem SlR.oneO {α : Type} {enc : α → List Value} {k : Nat} (w : World) (lo b : Nat) (x : α) (e : TypeId) (hb : b = w.heap.size) (hlo : lo ≤ b) (hk : (enc x).length = k) : SlR (w.alloc (.cells (enc x).toArray e)) lo (b + 1) k enc (.slice (some ⟨b, 0, none⟩) 1 1) [x] := by
  subst hb; exact SlR.one w lo x e hlo hk
end Imp
namespace Go.Proofs.YthjegibkbpafeaaDoor
open Go Go.RowKit Imp
set_option linter.unusedVariables false
set_option linter.unusedSimpArgs false
theorem ti_stmO : TI Tryd.prog 38 66 5 56 := TI.mk' (z := zSt) Tryd.underlying38 (by kernel_rfl) rfl (by decide)
def zFlO : Value := .agg #[.int .i64 0, .string ByteArray.empty, .string ByteArray.empty, .bool false, .int .i64 0, .slice none 0 0]
theorem ti_filO : TI Tryd.prog 27 40 6 80 := TI.mk' (z := zFlO) Tryd.underlying27 (by kernel_rfl) rfl (by decide)
theorem icloneBodyO {lo hi : Nat} (v : Value) (L : List Stm) (w : World) (hv : SlR w lo hi 5 eSt v L) (hhi : hi ≤ w.heap.size) (hn : L.length ≤ 16777216) :
    Calls Tryd.prog 59 #[v] w fun e w' => ∃ u, e = .returned u ∧ Own w' w.heap.size 66 5 eSt u L ∧ Gr w w' := by
  have hlen := hv.len_le
  have hv0 := hv
  obtain ⟨a, c, rfl, _, _⟩ := hv.form
  go_enter Tryd.func59, Tryd.ntmps59
  go_wp2_with (at_builtin
               refine wpList_app _ rfl (.tmp 3) (.tmp 4) ti_stmO rfl (show _ = Value.slice (some ⟨w.heap.size, 0, none⟩) 0 0 from rfl) (Own.empty w w.heap.size 66 5 eSt (Nat.le_refl _)) rfl (hv0.keep (Same.alloc w _ hhi)) (fun _ _ => rfl) (by simp [eSt, Value.oneCell']) (by unfold maxLen; simp; omega) (by simp; omega) (by simp) ?_
               intro v4 w4 hown4 hg4 hat4)
  have hb4 : Gr w w4 := (gr_al w _).grown hg4 (by simp) (by simp [Value.ownBlock])
  go_ret
  exact ⟨_, rfl, hown4, hb4⟩
/-- A file copied: its body in a block of the call's own. -/
def DCpy (w : World) (f : Fil) (e : Ending) (w' : World) : Prop := ∃ u, e = .returned (vF (f, u)) ∧ Own w' (w.heap.size + 2) 66 5 eSt u f.body ∧ Gr w w'
set_option maxHeartbeats 1600000 in
theorem scopyFile_own {lo hi : Nat} (f : Fil) (bv : Value) (w : World) (hb : SlR w lo hi 5 eSt bv f.body) (hhi : hi ≤ w.heap.size) (hn : f.body.length ≤ 1048576) :
    Calls Tryd.prog 46 #[vF (f, bv)] w (DCpy w f) := by
  obtain ⟨root, pkg, name, init, stamp, body⟩ := f
  simp only at hb hn
  obtain ⟨ua, uc, rfl, _, _⟩ := hb.form
  have hg2 := gr_al2 w (.cells #[.int .i64 root, .string pkg, .string name, .bool init, .int .i64 stamp, .slice ua body.length uc] 40) (.cells #[.int .i64 0, .string ByteArray.empty, .string ByteArray.empty, .bool false, .int .i64 0, .slice none 0 0] 40)
  have hg3 := hg2.tr (gr_al ((w.alloc (.cells #[.int .i64 root, .string pkg, .string name, .bool init, .int .i64 stamp, .slice ua body.length uc] 40)).alloc (.cells #[.int .i64 0, .string ByteArray.empty, .string ByteArray.empty, .bool false, .int .i64 0, .slice none 0 0] 40)) (.cells #[] 66))
  have hA := ((Below.heap_alloc (w.alloc (.cells #[.int .i64 root, .string pkg, .string name, .bool init, .int .i64 stamp, .slice ua body.length uc] 40)) (.cells #[.int .i64 0, .string ByteArray.empty, .string ByteArray.empty, .bool false, .int .i64 0, .slice none 0 0] 40) w.heap.size (by simp)).trans (heap_alloc_new w (.cells #[.int .i64 root, .string pkg, .string name, .bool init, .int .i64 stamp, .slice ua body.length uc] 40)))
  have hB := heap_alloc2_new w (.cells #[.int .i64 root, .string pkg, .string name, .bool init, .int .i64 stamp, .slice ua body.length uc] 40) (.cells #[.int .i64 0, .string ByteArray.empty, .string ByteArray.empty, .bool false, .int .i64 0, .slice none 0 0] 40)
  have hA3 := ((gr_al ((w.alloc (.cells #[.int .i64 root, .string pkg, .string name, .bool init, .int .i64 stamp, .slice ua body.length uc] 40)).alloc (.cells #[.int .i64 0, .string ByteArray.empty, .string ByteArray.empty, .bool false, .int .i64 0, .slice none 0 0] 40)) (.cells #[] 66)).block w.heap.size (by simp <;> omega)).trans hA
  have hB3 := ((gr_al ((w.alloc (.cells #[.int .i64 root, .string pkg, .string name, .bool init, .int .i64 stamp, .slice ua body.length uc] 40)).alloc (.cells #[.int .i64 0, .string ByteArray.empty, .string ByteArray.empty, .bool false, .int .i64 0, .slice none 0 0] 40)) (.cells #[] 66)).block (w.heap.size + 1) (by simp <;> omega)).trans hB
  have hsrc := SlR.below hb hg3 hhi
  have hoE : Own (((w.alloc (.cells #[.int .i64 root, .string pkg, .string name, .bool init, .int .i64 stamp, .slice ua body.length uc] 40)).alloc (.cells #[.int .i64 0, .string ByteArray.empty, .string ByteArray.empty, .bool false, .int .i64 0, .slice none 0 0] 40)).alloc (.cells #[] 66)) (w.heap.size + 2) 66 5 eSt (.slice (some ⟨((w.alloc (.cells #[.int .i64 root, .string pkg, .string name, .bool init, .int .i64 stamp, .slice ua body.length uc] 40)).alloc (.cells #[.int .i64 0, .string ByteArray.empty, .string ByteArray.empty, .bool false, .int .i64 0, .slice none 0 0] 40)).heap.size, 0, none⟩) 0 0) ([] : List Stm) := Own.empty _ _ _ _ _ (by simp)
  rw [show ((w.alloc (.cells #[.int .i64 root, .string pkg, .string name, .bool init, .int .i64 stamp, .slice ua body.length uc] 40)).alloc (.cells #[.int .i64 0, .string ByteArray.empty, .string ByteArray.empty, .bool false, .int .i64 0, .slice none 0 0] 40)).heap.size = w.heap.size + 1 + 1 by simp] at hoE
  obtain ⟨⟨a0, a1, a2, a3, a4, a5⟩, _⟩ := rows6o hA3
  have HA := Lib.hid hA3
  have HB := Lib.hid hB3
  clear hA hB hA3 hB3 hb
  go_enter Tryd.func46, Tryd.ntmps46
  go_wp2_with (at_builtin
               refine wpList_app _ rfl (.tmp 3) (.tmp 5) ti_stmO rfl rfl hoE rfl hsrc (fun _ _ => rfl) (by simp [eSt, Value.oneCell']) (by unfold maxLen; simp; omega) (by simp; omega) (by simp) ?_
               intro v9 w9 hown9 hg9 hat9
               simp only [List.nil_append] at hown9
               obtain ⟨va, vc, hv9, _, _⟩ := hown9.form
               subst hv9
               have hA9 := (hg9.block w.heap.size (lt_of_block HA.out) (by intro q; have q : some w.heap.size = some (w.heap.size + 1 + 1) := q; injection q with q; omega)).trans HA.out
               have hB9 := (hg9.block (w.heap.size + 1) (lt_of_block HB.out) (by intro q; have q : some (w.heap.size + 1) = some (w.heap.size + 1 + 1) := q; injection q with q; omega)).trans HB.out
               obtain ⟨⟨d0, d1, d2, d3, d4, d5⟩, e0, e1, e2, e3, e4, e5⟩ := rows6o hA9
               obtain ⟨⟨x0, x1, x2, x3, x4, x5⟩, y0, y1, y2, y3, y4, y5⟩ := rows6o hB9
               have HB9 := Lib.hid hB9
               clear hA9 hB9)
  have hput := put6o (set_othero (b' := w.heap.size) (o := 5) (v := .slice va body.length vc) HB9.out (by omega)) (.int .i64 root) (.string pkg) (.string name) (.bool init) (.int .i64 stamp) (.slice va body.length vc)
  refine bodyPost_ret (results_cell_row rfl _ _ (w.heap.size + 1) 40 _ (0, 0) _ rfl hput.1 Tryd.underlying40 rfl (by kernel_rfl)) rfl ?_
  have hs9 := hg9.size
  simp at hs9
  refine ⟨_, rfl, ?_, ?_⟩
  · refine Own.keep (hown9.keep (fun b hb => Below.heap_setCell _ ⟨w.heap.size, 5, none⟩ (.slice va body.length vc) b (by show b ≠ w.heap.size; have := (hown9.block b hb).1; omega))) (fun b hb => hput.2.block b ?_ ?_)
    · have := (hown9.block b hb).2; simp; omega
    · intro q; injection q with q; have := (hown9.block b hb).1; omega
  · have q1 : Gr w w9 := hg3.grown hg9 (by simp; omega) (fun b hb => by have hb : some (w.heap.size + 1 + 1) = some b := hb; injection hb with hb; omega)
    have q2 : Gr w (w9.setCell ⟨w.heap.size, 5, none⟩ (.slice va body.length vc)) := Below.setCell q1 (p := ⟨w.heap.size, 5, none⟩) (Nat.le_refl _) _
    exact q2.grown hput.2 q2.size (fun b hb => by injection hb with hb; omega)
set_option maxHeartbeats 1600000 in
theorem icloneFile_own {lo hi : Nat} (f : Fil) (bv : Value) (w : World) (hb : SlR w lo hi 5 eSt bv f.body) (hhi : hi ≤ w.heap.size) (hn : f.body.length ≤ 1048576) :
    Calls Tryd.prog 45 #[vF (f, bv)] w (DCpy w f) := by
  obtain ⟨root, pkg, name, init, stamp, body⟩ := f
  simp only at hb hn
  obtain ⟨ua, uc, rfl, _, _⟩ := hb.form
  have hg2 := gr_al2 w (.cells #[.int .i64 root, .string pkg, .string name, .bool init, .int .i64 stamp, .slice ua body.length uc] 40) (.cells #[.int .i64 0, .string ByteArray.empty, .string ByteArray.empty, .bool false, .int .i64 0, .slice none 0 0] 40)
  have hA := ((Below.heap_alloc (w.alloc (.cells #[.int .i64 root, .string pkg, .string name, .bool init, .int .i64 stamp, .slice ua body.length uc] 40)) (.cells #[.int .i64 0, .string ByteArray.empty, .string ByteArray.empty, .bool false, .int .i64 0, .slice none 0 0] 40) w.heap.size (by simp)).trans (heap_alloc_new w (.cells #[.int .i64 root, .string pkg, .string name, .bool init, .int .i64 stamp, .slice ua body.length uc] 40)))
  have hB := heap_alloc2_new w (.cells #[.int .i64 root, .string pkg, .string name, .bool init, .int .i64 stamp, .slice ua body.length uc] 40) (.cells #[.int .i64 0, .string ByteArray.empty, .string ByteArray.empty, .bool false, .int .i64 0, .slice none 0 0] 40)
  have hcl := icloneBodyO (.slice ua body.length uc) body ((w.alloc (.cells #[.int .i64 root, .string pkg, .string name, .bool init, .int .i64 stamp, .slice ua body.length uc] 40)).alloc (.cells #[.int .i64 0, .string ByteArray.empty, .string ByteArray.empty, .bool false, .int .i64 0, .slice none 0 0] 40)) (SlR.below hb hg2 hhi) (Nat.le_trans hhi hg2.size) (by omega)
  rw [show ((w.alloc (.cells #[.int .i64 root, .string pkg, .string name, .bool init, .int .i64 stamp, .slice ua body.length uc] 40)).alloc (.cells #[.int .i64 0, .string ByteArray.empty, .string ByteArray.empty, .bool false, .int .i64 0, .slice none 0 0] 40)).heap.size = w.heap.size + 2 by simp] at hcl
  have HCL := Lib.hid hcl
  have HA := Lib.hid hA
  have HB := Lib.hid hB
  clear hA hB hb hcl
  go_enter Tryd.func45, Tryd.ntmps45
  go_wp2_with fail
  refine HCL.out.mono ?_
  rintro e w9 ⟨v9, rfl, hown9, hg9⟩
  obtain ⟨va, vc, rfl, _, _⟩ := hown9.form
  have hA9 := (hg9.block w.heap.size (by simp <;> omega)).trans HA.out
  have hB9 := (hg9.block (w.heap.size + 1) (by simp <;> omega)).trans HB.out
  obtain ⟨⟨d0, d1, d2, d3, d4, d5⟩, e0, e1, e2, e3, e4, e5⟩ := rows6o hA9
  obtain ⟨⟨x0, x1, x2, x3, x4, x5⟩, y0, y1, y2, y3, y4, y5⟩ := rows6o hB9
  have HB9 := Lib.hid hB9
  clear hA9 hB9
  go_wp2
  have hput := put6o (set_othero (b' := w.heap.size) (o := 5) (v := .slice va body.length vc) HB9.out (by omega)) (.int .i64 root) (.string pkg) (.string name) (.bool init) (.int .i64 stamp) (.slice va body.length vc)
  refine bodyPost_ret (results_cell_row rfl _ _ (w.heap.size + 1) 40 _ (0, 0) _ rfl hput.1 Tryd.underlying40 rfl (by kernel_rfl)) rfl ?_
  have hs9 := hg9.size
  simp at hs9
  refine ⟨_, rfl, ?_, ?_⟩
  · refine Own.keep (hown9.keep (fun b hb => Below.heap_setCell _ ⟨w.heap.size, 5, none⟩ (.slice va body.length vc) b (by show b ≠ w.heap.size; have := (hown9.block b hb).1; omega))) (fun b hb => hput.2.block b ?_ ?_)
    · have := (hown9.block b hb).2; simp; omega
    · intro q; injection q with q; have := (hown9.block b hb).1; omega
  · have q2 : Gr w (w9.setCell ⟨w.heap.size, 5, none⟩ (.slice va body.length vc)) := Below.setCell (hg2.tr hg9) (p := ⟨w.heap.size, 5, none⟩) (Nat.le_refl _) _
    exact q2.grown hput.2 q2.size (fun b hb => by injection hb with hb; omega)
end Go.Proofs.YthjegibkbpafeaaDoor
