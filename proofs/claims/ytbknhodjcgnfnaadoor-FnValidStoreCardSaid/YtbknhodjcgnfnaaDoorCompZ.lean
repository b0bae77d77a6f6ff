/-
  Walks: what is compiled of a file, in both packages. Printed by compb.py.
-/
import Derived.Test.YtbknhodjcgnfnaaDoorZ4
import Derived.Test.YtbknhodjcgnfnaaDoorZ5
namespace Imp
open Go Go.RowKit
structure Cmp where
  root : Int
  mod : ByteArray
  init : Bool
  mode : Int
  stamp : Int
  size : Int
  hash : Int
  body : List Stm
abbrev vCm (c : Cmp) (v : Value) : Value := .agg #[.int .i64 c.root, .string c.mod, .bool c.init, .int .i64 c.mode, .int .i64 c.stamp, .int .i64 c.size, .int .i64 c.hash, v]
def cmpOf (f : Fil) (mode : Int) : Cmp := ⟨f.root, mk (nameP f), f.init, mode, f.stamp, ((3 * f.body.length + totB f.body : Nat) : Int), hashP f.body, f.body⟩
def noCmp : Cmp := ⟨0, ByteArray.empty, false, 0, 0, 0, 0, []⟩
def fCompile (f : Fil) (mode : Int) : Cmp := if okFil f && (decide (0 ≤ mode) && decide (mode ≤ 2)) then cmpOf f mode else noCmp
theorem okFil_body {f : Fil} (h : okFil f = true) : okBody f.body = true := by
  unfold okFil at h
  simp only [Bool.and_eq_true] at h
  exact h.1.2
theorem own_empty_of {α : Type} {W0 W : World} (h : Below W0.heap.size W0 W) (e k : Nat) (enc : α → List Value) : Own (W.alloc (.cells #[] e)) W0.heap.size e k enc (.slice (some ⟨W.heap.size, 0, none⟩) 0 0) [] := Own.empty W _ e k enc h.size
theorem put8 {w : World} {b t : Nat} {a0 a1 a2 a3 a4 a5 a6 a7 : Value} (h : w.heap[b]? = some (.cells #[a0, a1, a2, a3, a4, a5, a6, a7] t (0, 0))) (v0 v1 v2 v3 v4 v5 v6 v7 : Value) :
    ((((((((w.setCell ⟨b, 0, none⟩ v0).setCell ⟨b, 1, none⟩ v1).setCell ⟨b, 2, none⟩ v2).setCell ⟨b, 3, none⟩ v3).setCell ⟨b, 4, none⟩ v4).setCell ⟨b, 5, none⟩ v5).setCell ⟨b, 6, none⟩ v6).setCell ⟨b, 7, none⟩ v7).heap[b]? = some (.cells #[v0, v1, v2, v3, v4, v5, v6, v7] t (0, 0)) ∧ w.grownBy ((((((((w.setCell ⟨b, 0, none⟩ v0).setCell ⟨b, 1, none⟩ v1).setCell ⟨b, 2, none⟩ v2).setCell ⟨b, 3, none⟩ v3).setCell ⟨b, 4, none⟩ v4).setCell ⟨b, 5, none⟩ v5).setCell ⟨b, 6, none⟩ v6).setCell ⟨b, 7, none⟩ v7) (some b) := by
  replace h : (w.setCell ⟨b, 0, none⟩ v0).heap[b]? = some (.cells #[v0, a1, a2, a3, a4, a5, a6, a7] t (0, 0)) := heap_setCell_same _ b 0 _ _ v0 h
  replace h : ((w.setCell ⟨b, 0, none⟩ v0).setCell ⟨b, 1, none⟩ v1).heap[b]? = some (.cells #[v0, v1, a2, a3, a4, a5, a6, a7] t (0, 0)) := heap_setCell_same _ b 1 _ _ v1 h
  replace h : (((w.setCell ⟨b, 0, none⟩ v0).setCell ⟨b, 1, none⟩ v1).setCell ⟨b, 2, none⟩ v2).heap[b]? = some (.cells #[v0, v1, v2, a3, a4, a5, a6, a7] t (0, 0)) := heap_setCell_same _ b 2 _ _ v2 h
  replace h : ((((w.setCell ⟨b, 0, none⟩ v0).setCell ⟨b, 1, none⟩ v1).setCell ⟨b, 2, none⟩ v2).setCell ⟨b, 3, none⟩ v3).heap[b]? = some (.cells #[v0, v1, v2, v3, a4, a5, a6, a7] t (0, 0)) := heap_setCell_same _ b 3 _ _ v3 h
  replace h : (((((w.setCell ⟨b, 0, none⟩ v0).setCell ⟨b, 1, none⟩ v1).setCell ⟨b, 2, none⟩ v2).setCell ⟨b, 3, none⟩ v3).setCell ⟨b, 4, none⟩ v4).heap[b]? = some (.cells #[v0, v1, v2, v3, v4, a5, a6, a7] t (0, 0)) := heap_setCell_same _ b 4 _ _ v4 h
  replace h : ((((((w.setCell ⟨b, 0, none⟩ v0).setCell ⟨b, 1, none⟩ v1).setCell ⟨b, 2, none⟩ v2).setCell ⟨b, 3, none⟩ v3).setCell ⟨b, 4, none⟩ v4).setCell ⟨b, 5, none⟩ v5).heap[b]? = some (.cells #[v0, v1, v2, v3, v4, v5, a6, a7] t (0, 0)) := heap_setCell_same _ b 5 _ _ v5 h
  replace h : (((((((w.setCell ⟨b, 0, none⟩ v0).setCell ⟨b, 1, none⟩ v1).setCell ⟨b, 2, none⟩ v2).setCell ⟨b, 3, none⟩ v3).setCell ⟨b, 4, none⟩ v4).setCell ⟨b, 5, none⟩ v5).setCell ⟨b, 6, none⟩ v6).heap[b]? = some (.cells #[v0, v1, v2, v3, v4, v5, v6, a7] t (0, 0)) := heap_setCell_same _ b 6 _ _ v6 h
  replace h : ((((((((w.setCell ⟨b, 0, none⟩ v0).setCell ⟨b, 1, none⟩ v1).setCell ⟨b, 2, none⟩ v2).setCell ⟨b, 3, none⟩ v3).setCell ⟨b, 4, none⟩ v4).setCell ⟨b, 5, none⟩ v5).setCell ⟨b, 6, none⟩ v6).setCell ⟨b, 7, none⟩ v7).heap[b]? = some (.cells #[v0, v1, v2, v3, v4, v5, v6, v7] t (0, 0)) := heap_setCell_same _ b 7 _ _ v7 h
  exact ⟨h, (grown_tr (grown_tr (grown_tr (grown_tr (grown_tr (grown_tr (grown_tr (grown_set _ _ _ _) (grown_set _ _ _ _)) (grown_set _ _ _ _)) (grown_set _ _ _ _)) (grown_set _ _ _ _)) (grown_set _ _ _ _)) (grown_set _ _ _ _)) (grown_set _ _ _ _))⟩
theorem rows8 {w : World} {b t : Nat} {a0 a1 a2 a3 a4 a5 a6 a7 : Value} (h : w.heap[b]? = some (.cells #[a0, a1, a2, a3, a4, a5, a6, a7] t (0, 0))) :
    (w.cell? ⟨b, 0, none⟩ = some a0 ∧ w.cell? ⟨b, 1, none⟩ = some a1 ∧ w.cell? ⟨b, 2, none⟩ = some a2 ∧ w.cell? ⟨b, 3, none⟩ = some a3 ∧ w.cell? ⟨b, 4, none⟩ = some a4 ∧ w.cell? ⟨b, 5, none⟩ = some a5 ∧ w.cell? ⟨b, 6, none⟩ = some a6 ∧ w.cell? ⟨b, 7, none⟩ = some a7) ∧ (w.frozen? ⟨b, 0, none⟩ = false ∧ w.frozen? ⟨b, 1, none⟩ = false ∧ w.frozen? ⟨b, 2, none⟩ = false ∧ w.frozen? ⟨b, 3, none⟩ = false ∧ w.frozen? ⟨b, 4, none⟩ = false ∧ w.frozen? ⟨b, 5, none⟩ = false ∧ w.frozen? ⟨b, 6, none⟩ = false ∧ w.frozen? ⟨b, 7, none⟩ = false) :=
  ⟨⟨by rw [cell_of_row w b 0 _ _ _ h]; rfl, by rw [cell_of_row w b 1 _ _ _ h]; rfl, by rw [cell_of_row w b 2 _ _ _ h]; rfl, by rw [cell_of_row w b 3 _ _ _ h]; rfl, by rw [cell_of_row w b 4 _ _ _ h]; rfl, by rw [cell_of_row w b 5 _ _ _ h]; rfl, by rw [cell_of_row w b 6 _ _ _ h]; rfl, by rw [cell_of_row w b 7 _ _ _ h]; rfl⟩, ⟨frozen_of_row w b 0 _ _ h, frozen_of_row w b 1 _ _ h, frozen_of_row w b 2 _ _ h, frozen_of_row w b 3 _ _ h, frozen_of_row w b 4 _ _ h, frozen_of_row w b 5 _ _ h, frozen_of_row w b 6 _ _ h, frozen_of_row w b 7 _ _ h⟩⟩
end Imp
namespace Go.Proofs.YtbknhodjcgnfnaaDoor
open Go Go.RowKit Imp
set_option linter.unusedVariables false
set_option linter.unusedSimpArgs false
theorem ti_stmC : TI Tryd.prog 27 60 5 56 := TI.mk' (z := zSt) Tryd.underlying27 (by kernel_rfl) rfl (by decide)
def DComp (w : World) (c : Cmp) (e : Ending) (w' : World) : Prop := ∃ u, e = .returned (vCm c u) ∧ Own w' w.heap.size 60 5 eSt u c.body ∧ Gr w w'
set_option maxHeartbeats 3200000 in
theorem scompiled_any {lo hi : Nat} (f : Fil) (bv : Value) (mode : Int) (w : World) (hF : okFil f = true) (hb : BodyR w lo hi (f, bv)) (hhi : hi ≤ w.heap.size) (hp : f.pkg.size ≤ 4194304) (hn : f.name.size ≤ 4194304) (hl : f.body.length ≤ 16777216) (ht : totB f.body ≤ 16777216) :
    Calls Tryd.prog 23 #[vF (f, bv), .int .i64 mode] w (DComp w (cmpOf f mode)) := by
  have hbd := okFil_body hF
  have hsm := okBody_small hbd
  have hb' : SlR w lo hi 5 eSt bv f.body := hb
  obtain ⟨ua, uc, rfl, _, _⟩ := hb'.form
  clear hb'
  have hg1 := gr_al w (.cells #[.int .i64 f.root, .string f.pkg, .string f.name, .bool f.init, .int .i64 f.stamp, .slice ua f.body.length uc] 31)
  have hg2 := gr_al (w.alloc (.cells #[.int .i64 f.root, .string f.pkg, .string f.name, .bool f.init, .int .i64 f.stamp, .slice ua f.body.length uc] 31)) (.cells #[.int .i64 0, .string ByteArray.empty, .bool false, .int .i64 0, .int .i64 0, .int .i64 0, .int .i64 0, .slice none 0 0] 29)
  have hA := heap_alloc_new w (.cells #[.int .i64 f.root, .string f.pkg, .string f.name, .bool f.init, .int .i64 f.stamp, .slice ua f.body.length uc] 31)
  have hA2 := (Below.heap_alloc (w.alloc (.cells #[.int .i64 f.root, .string f.pkg, .string f.name, .bool f.init, .int .i64 f.stamp, .slice ua f.body.length uc] 31)) (.cells #[.int .i64 0, .string ByteArray.empty, .bool false, .int .i64 0, .int .i64 0, .int .i64 0, .int .i64 0, .slice none 0 0] 29) w.heap.size (by simp)).trans hA
  have hZ2 := heap_alloc2_new w (.cells #[.int .i64 f.root, .string f.pkg, .string f.name, .bool f.init, .int .i64 f.stamp, .slice ua f.body.length uc] 31) (.cells #[.int .i64 0, .string ByteArray.empty, .bool false, .int .i64 0, .int .i64 0, .int .i64 0, .int .i64 0, .slice none 0 0] 29)
  have hall : ∀ W, Gr ((w.alloc (.cells #[.int .i64 f.root, .string f.pkg, .string f.name, .bool f.init, .int .i64 f.stamp, .slice ua f.body.length uc] 31)).alloc (.cells #[.int .i64 0, .string ByteArray.empty, .bool false, .int .i64 0, .int .i64 0, .int .i64 0, .int .i64 0, .slice none 0 0] 29)) W → Gr w W ∧ (W.cell? ⟨w.heap.size, 0, none⟩ = some (.int .i64 f.root) ∧ W.cell? ⟨w.heap.size, 1, none⟩ = some (.string f.pkg) ∧ W.cell? ⟨w.heap.size, 2, none⟩ = some (.string f.name) ∧ W.cell? ⟨w.heap.size, 3, none⟩ = some (.bool f.init) ∧ W.cell? ⟨w.heap.size, 4, none⟩ = some (.int .i64 f.stamp) ∧ W.cell? ⟨w.heap.size, 5, none⟩ = some (.slice ua f.body.length uc)) :=
    fun W h => ⟨(hg1.tr hg2).tr h, cells6 hA2 h⟩
  have hall2 : ∀ W, Gr w W → W.heap[w.heap.size]? = some (.cells #[.int .i64 f.root, .string f.pkg, .string f.name, .bool f.init, .int .i64 f.stamp, .slice ua f.body.length uc] 31 (0, 0)) → Gr w W ∧ (W.cell? ⟨w.heap.size, 0, none⟩ = some (.int .i64 f.root) ∧ W.cell? ⟨w.heap.size, 1, none⟩ = some (.string f.pkg) ∧ W.cell? ⟨w.heap.size, 2, none⟩ = some (.string f.name) ∧ W.cell? ⟨w.heap.size, 3, none⟩ = some (.bool f.init) ∧ W.cell? ⟨w.heap.size, 4, none⟩ = some (.int .i64 f.stamp) ∧ W.cell? ⟨w.heap.size, 5, none⟩ = some (.slice ua f.body.length uc)) :=
    fun W h q => ⟨h, cells6 q (Gr.rfl' W)⟩
  have hrow : ∀ W, Gr ((w.alloc (.cells #[.int .i64 f.root, .string f.pkg, .string f.name, .bool f.init, .int .i64 f.stamp, .slice ua f.body.length uc] 31)).alloc (.cells #[.int .i64 0, .string ByteArray.empty, .bool false, .int .i64 0, .int .i64 0, .int .i64 0, .int .i64 0, .slice none 0 0] 29)) W → W.heap[w.heap.size]? = some (.cells #[.int .i64 f.root, .string f.pkg, .string f.name, .bool f.init, .int .i64 f.stamp, .slice ua f.body.length uc] 31 (0, 0)) :=
    fun W h => (h.block w.heap.size (by simp <;> omega)).trans hA2
  have hzr : ∀ W, Gr ((w.alloc (.cells #[.int .i64 f.root, .string f.pkg, .string f.name, .bool f.init, .int .i64 f.stamp, .slice ua f.body.length uc] 31)).alloc (.cells #[.int .i64 0, .string ByteArray.empty, .bool false, .int .i64 0, .int .i64 0, .int .i64 0, .int .i64 0, .slice none 0 0] 29)) W → W.heap[w.heap.size + 1]? = some (.cells #[.int .i64 0, .string ByteArray.empty, .bool false, .int .i64 0, .int .i64 0, .int .i64 0, .int .i64 0, .slice none 0 0] 29 (0, 0)) := fun W h => (h.block (w.heap.size + 1) (by simp)).trans hZ2
  have HALL := Lib.hid hall
  have HALL2 := Lib.hid hall2
  have HROW := Lib.hid hrow
  have HZR := Lib.hid hzr
  clear hall hall2 hrow hzr hA hA2 hZ2
  have hc1 := fun W => smoduleName_any (f, .slice ua f.body.length uc) W hp hn
  have hc2 := fun W (h : Gr w W) => ssizeOf_any (.slice ua f.body.length uc) f.body W (SlR.below hb h hhi) (Nat.le_trans hhi h.size) hl ht
  have hc3 := fun W (h : Gr w W) => shashOf_any (.slice ua f.body.length uc) f.body W (SlR.below hb h hhi) (Nat.le_trans hhi h.size) hsm (fun s hs => Nat.le_trans (totB_mem hs) ht)
  have hsrc := fun W (h : Gr w W) => SlR.below hb h hhi
  simp only at hc1
  unfold DComp cmpOf
  obtain ⟨M, hM⟩ : ∃ M, M = mk (nameP f) := ⟨_, rfl⟩
  obtain ⟨Sz, hSz⟩ : ∃ Sz : Int, Sz = ((3 * f.body.length + totB f.body : Nat) : Int) := ⟨_, rfl⟩
  obtain ⟨Hs, hHs⟩ : ∃ Hs, Hs = hashP f.body := ⟨_, rfl⟩
  rw [← hM] at hc1 ⊢
  rw [← hSz] at hc2 ⊢
  rw [← hHs] at hc3 ⊢
  have HC1 := Lib.hid hc1
  have HC2 := Lib.hid hc2
  have HC3 := Lib.hid hc3
  have HSRC := Lib.hid hsrc
  clear hM hSz hHs hc1 hc2 hc3 hsrc hb hF hbd hsm
  go_enter Tryd.func23, Tryd.ntmps23
  go_wp2
  refine wp_region_held_drew (S := (fun W => Gr w W ∧ (W.cell? ⟨w.heap.size, 0, none⟩ = some (.int .i64 f.root) ∧ W.cell? ⟨w.heap.size, 1, none⟩ = some (.string f.pkg) ∧ W.cell? ⟨w.heap.size, 2, none⟩ = some (.string f.name) ∧ W.cell? ⟨w.heap.size, 3, none⟩ = some (.bool f.init) ∧ W.cell? ⟨w.heap.size, 4, none⟩ = some (.int .i64 f.stamp) ∧ W.cell? ⟨w.heap.size, 5, none⟩ = some (.slice ua f.body.length uc)))) (by kernel_rfl) (HALL.out _ (below_drewN (Gr.rfl' _) 1)) (fun hS0 => ?_)
  refine wpAnyH_take (i := 0) (v := ?_) rfl (by kernel_rfl) (by kernel_rfl) (by kernel_rfl) (fun _ _ _ h => h) (Or.inl ⟨by rfl, ?_⟩) hS0 ?_
  rotate_left
  · (intro W hSw; (try dsimp only at hSw); go_simp; try (with_reducible rfl))
  try simp only [Act.put, List.getElem_toArray, List.getElem_cons_succ, List.getElem_cons_zero, List.setIfInBounds_toArray, List.set_cons_zero, List.set_cons_succ]
  refine wpAnyH_take (i := 1) (v := ?_) rfl (by kernel_rfl) (by kernel_rfl) (by kernel_rfl) (fun _ _ _ h => h) (Or.inl ⟨by rfl, ?_⟩) hS0 ?_
  rotate_left
  · (intro W hSw; (try dsimp only at hSw); go_simp; try (with_reducible rfl))
  try simp only [Act.put, List.getElem_toArray, List.getElem_cons_succ, List.getElem_cons_zero, List.setIfInBounds_toArray, List.set_cons_zero, List.set_cons_succ]
  refine wpAnyH_take (i := 2) (v := ?_) rfl (by kernel_rfl) (by kernel_rfl) (by kernel_rfl) (fun _ _ _ h => h) (Or.inl ⟨by rfl, ?_⟩) hS0 ?_
  rotate_left
  · (intro W hSw; (try dsimp only at hSw); go_simp; try (with_reducible rfl))
  try simp only [Act.put, List.getElem_toArray, List.getElem_cons_succ, List.getElem_cons_zero, List.setIfInBounds_toArray, List.set_cons_zero, List.set_cons_succ]
  refine wpAnyH_take (i := 4) (v := ?_) rfl (by kernel_rfl) (by kernel_rfl) (by kernel_rfl) (fun _ _ _ h => h) (Or.inl ⟨by rfl, ?_⟩) hS0 ?_
  rotate_left
  · (intro W hSw; (try dsimp only at hSw); go_simp; try (with_reducible rfl))
  try simp only [Act.put, List.getElem_toArray, List.getElem_cons_succ, List.getElem_cons_zero, List.setIfInBounds_toArray, List.set_cons_zero, List.set_cons_succ]
  refine wpAnyH_take (i := 5) (v := ?_) rfl (by kernel_rfl) (by kernel_rfl) (by kernel_rfl) (fun _ _ _ h => h) (Or.inl ⟨by rfl, ?_⟩) hS0 ?_
  rotate_left
  · (intro W hSw; (try dsimp only at hSw); go_simp; try (with_reducible rfl))
  try simp only [Act.put, List.getElem_toArray, List.getElem_cons_succ, List.getElem_cons_zero, List.setIfInBounds_toArray, List.set_cons_zero, List.set_cons_succ]
  refine wpAnyH_take (i := 6) (v := ?_) rfl (by kernel_rfl) (by kernel_rfl) (by kernel_rfl) (fun _ _ _ h => h) (Or.inl ⟨by rfl, ?_⟩) hS0 ?_
  rotate_left
  · (intro W hSw; (try dsimp only at hSw); go_simp; try (with_reducible rfl))
  try simp only [Act.put, List.getElem_toArray, List.getElem_cons_succ, List.getElem_cons_zero, List.setIfInBounds_toArray, List.set_cons_zero, List.set_cons_succ]
  refine wpAnyH_take (i := 7) (v := ?_) rfl (by kernel_rfl) (by kernel_rfl) (by kernel_rfl) (fun _ _ _ h => h) (Or.inl ⟨by rfl, ?_⟩) hS0 ?_
  rotate_left
  · (intro W hSw; (try dsimp only at hSw); go_simp; try (with_reducible rfl))
  try simp only [Act.put, List.getElem_toArray, List.getElem_cons_succ, List.getElem_cons_zero, List.setIfInBounds_toArray, List.set_cons_zero, List.set_cons_succ]
  refine wpAnyH_take (i := 8) (v := ?_) rfl (by kernel_rfl) (by kernel_rfl) (by kernel_rfl) (fun _ _ _ h => h) (Or.inl ⟨by rfl, ?_⟩) hS0 ?_
  rotate_left
  · (intro W hSw; (try dsimp only at hSw); go_simp; try (with_reducible rfl))
  try simp only [Act.put, List.getElem_toArray, List.getElem_cons_succ, List.getElem_cons_zero, List.setIfInBounds_toArray, List.set_cons_zero, List.set_cons_succ]
  refine wpAnyH_take (i := 9) (v := ?_) rfl (by kernel_rfl) (by kernel_rfl) (by kernel_rfl) (fun _ _ _ h => h) (Or.inl ⟨by rfl, ?_⟩) hS0 ?_
  rotate_left
  · (intro W hSw; (try dsimp only at hSw); go_simp; try (with_reducible rfl))
  try simp only [Act.put, List.getElem_toArray, List.getElem_cons_succ, List.getElem_cons_zero, List.setIfInBounds_toArray, List.set_cons_zero, List.set_cons_succ]
  refine wpAnyH_take (i := 10) (v := ?_) rfl (by kernel_rfl) (by kernel_rfl) (by kernel_rfl) (fun _ _ _ h => h) (Or.inl ⟨by rfl, ?_⟩) hS0 ?_
  rotate_left
  · (intro W hSw; (try dsimp only at hSw); go_simp; try (with_reducible rfl))
  try simp only [Act.put, List.getElem_toArray, List.getElem_cons_succ, List.getElem_cons_zero, List.setIfInBounds_toArray, List.set_cons_zero, List.set_cons_succ]
  refine wpAnyH_take (i := 12) (v := ?_) rfl (by kernel_rfl) (by kernel_rfl) (by kernel_rfl) (fun _ _ _ h => h) (Or.inl ⟨by rfl, ?_⟩) hS0 ?_
  rotate_left
  · (intro W hSw; (try dsimp only at hSw); go_simp; try (with_reducible rfl))
  try simp only [Act.put, List.getElem_toArray, List.getElem_cons_succ, List.getElem_cons_zero, List.setIfInBounds_toArray, List.set_cons_zero, List.set_cons_succ]
  refine wpAnyH_take (i := 13) (v := ?_) rfl (by kernel_rfl) (by kernel_rfl) (by kernel_rfl) (fun _ _ _ h => h) (Or.inl ⟨by rfl, ?_⟩) hS0 ?_
  rotate_left
  · (intro W hSw; (try dsimp only at hSw); go_simp; try (with_reducible rfl))
  try simp only [Act.put, List.getElem_toArray, List.getElem_cons_succ, List.getElem_cons_zero, List.setIfInBounds_toArray, List.set_cons_zero, List.set_cons_succ]
  refine wpAnyH_take (i := 16) (v := ?_) rfl (by kernel_rfl) (by kernel_rfl) (by kernel_rfl) (fun _ _ _ h => h) (Or.inl ⟨by rfl, ?_⟩) hS0 ?_
  rotate_left
  · (intro W hSw; (try dsimp only at hSw); go_simp; try (with_reducible rfl))
  try simp only [Act.put, List.getElem_toArray, List.getElem_cons_succ, List.getElem_cons_zero, List.setIfInBounds_toArray, List.set_cons_zero, List.set_cons_succ]
  refine wpAnyH_take (i := 17) (v := ?_) rfl (by kernel_rfl) (by kernel_rfl) (by kernel_rfl) (fun _ _ _ h => h) (Or.inl ⟨by rfl, ?_⟩) hS0 ?_
  rotate_left
  · (intro W hSw; (try dsimp only at hSw); go_simp; try (with_reducible rfl))
  try simp only [Act.put, List.getElem_toArray, List.getElem_cons_succ, List.getElem_cons_zero, List.setIfInBounds_toArray, List.set_cons_zero, List.set_cons_succ]
  have hG0 : Gr ((w.alloc (.cells #[.int .i64 f.root, .string f.pkg, .string f.name, .bool f.init, .int .i64 f.stamp, .slice ua f.body.length uc] 31)).alloc (.cells #[.int .i64 0, .string ByteArray.empty, .bool false, .int .i64 0, .int .i64 0, .int .i64 0, .int .i64 0, .slice none 0 0] 29)) _ := below_drewN (Gr.rfl' ((w.alloc (.cells #[.int .i64 f.root, .string f.pkg, .string f.name, .bool f.init, .int .i64 f.stamp, .slice ua f.body.length uc] 31)).alloc (.cells #[.int .i64 0, .string ByteArray.empty, .bool false, .int .i64 0, .int .i64 0, .int .i64 0, .int .i64 0, .slice none 0 0] 29))) 1
  refine wpAnyH_ready (rs := [3, 15]) (by kernel_rfl) (by simp) ?_
  refine AllReadyH.cons rfl (fun K hK => ?_) (AllReadyH.cons rfl (fun K hK => ?_) AllReadyH.nil)
  · skip
    go_simp
    refine (HC1.out _).mono ?_
    rintro e w1 ⟨rfl, hb1⟩
    try go_wp2_with fail
    have hG1 := hG0.tr hb1
    refine hK.out _ _ (HALL.out _ hG1) (fun hS1 => ?_)
    clear hK K
    try simp only [Act.put, List.getElem_toArray, List.getElem_cons_succ, List.getElem_cons_zero, List.setIfInBounds_toArray, List.set_cons_zero, List.set_cons_succ]
    refine wpAnyH_ready (rs := [11, 15]) (by kernel_rfl) (by simp) ?_
    refine AllReadyH.cons rfl (fun K hK => ?_) (AllReadyH.cons rfl (fun K hK => ?_) AllReadyH.nil)
    · skip
      go_simp
      refine (HC2.out _ hS1.1).mono ?_
      rintro e w2 ⟨rfl, hb2⟩
      try go_wp2_with fail
      have hG2 := hG1.tr hb2
      refine hK.out _ _ (HALL.out _ hG2) (fun hS2 => ?_)
      clear hK K
      try simp only [Act.put, List.getElem_toArray, List.getElem_cons_succ, List.getElem_cons_zero, List.setIfInBounds_toArray, List.set_cons_zero, List.set_cons_succ]
      refine wpAnyH_ready (rs := [14, 15]) (by kernel_rfl) (by simp) ?_
      refine AllReadyH.cons rfl (fun K hK => ?_) (AllReadyH.cons rfl (fun K hK => ?_) AllReadyH.nil)
      · skip
        go_simp
        refine (HC3.out _ hS2.1).mono ?_
        rintro e w3 ⟨rfl, hb3⟩
        try go_wp2_with fail
        have hG3 := hG2.tr hb3
        refine hK.out _ _ (HALL.out _ hG3) (fun hS3 => ?_)
        clear hK K
        try simp only [Act.put, List.getElem_toArray, List.getElem_cons_succ, List.getElem_cons_zero, List.setIfInBounds_toArray, List.set_cons_zero, List.set_cons_succ]
        refine wpAnyH_ready (rs := [15]) (by kernel_rfl) (by simp) ?_
        refine AllReadyH.cons rfl (fun K hK => ?_) AllReadyH.nil
        go_simp
        have hG4 := hG3.tr (gr_al _ (.cells #[] 60))
        refine hK.out _ _ (HALL.out _ hG4) (fun hS4 => ?_)
        have ho4 := (own_empty_of hG3 60 5 eSt).mono (show w.heap.size + 1 + 1 ≤ _ by simp)
        clear hK K
        try simp only [Act.put, List.getElem_toArray, List.getElem_cons_succ, List.getElem_cons_zero, List.setIfInBounds_toArray, List.set_cons_zero, List.set_cons_succ]
        have hszW := hS4.1.size
        refine wpAnyH_ready (rs := [18]) (by kernel_rfl) (by simp) ?_
        refine AllReadyH.cons rfl (fun K hK => ?_) AllReadyH.nil
        refine step_app _ rfl (.tmp 20) (.tmp 22) ti_stmC rfl (by simp [Act.eval]) ho4 (by simp [Act.eval]) (HSRC.out _ hS4.1) (fun _ _ => rfl) (by simp [eSt, Value.oneCell']) (by unfold maxLen; simp; omega) (by simp; omega) (by have := hG4.size; simpa using this) ?_
        intro vA wA hoA hgA _
        have hGA := hG4.grown hgA hG4.size (fun b hb => by have := (ho4.block b hb).1; simpa using this)
        have hSA := HALL.out _ hGA
        obtain ⟨za, zc, rfl, _, _⟩ := hoA.form
        simp only [List.nil_append] at hoA
        refine hK.out _ _ hSA (fun hSB => ?_)
        clear hK K
        try simp only [Act.put, List.getElem_toArray, List.getElem_cons_succ, List.getElem_cons_zero, List.setIfInBounds_toArray, List.set_cons_zero, List.set_cons_succ]
        refine wpAnyH_take (i := 19) (v := ?_) rfl (by kernel_rfl) (by kernel_rfl) (by kernel_rfl) (fun _ _ _ h => h) (Or.inl ⟨by rfl, ?_⟩) hSB ?_
        rotate_left
        · (intro W hSw; (try dsimp only at hSw); go_simp; try (with_reducible rfl))
        try simp only [Act.put, List.getElem_toArray, List.getElem_cons_succ, List.getElem_cons_zero, List.setIfInBounds_toArray, List.set_cons_zero, List.set_cons_succ]
        obtain ⟨⟨a0, a1, a2, a3, a4, a5, a6, a7⟩, b0, b1, b2, b3, b4, b5, b6, b7⟩ := rows8 (HZR.out wA hGA)
        have hput := put8 (HZR.out wA hGA) (.int .i64 f.root) (.string M) (.bool f.init) (.int .i64 mode) (.int .i64 f.stamp) (.int .i64 Sz) (.int .i64 Hs) (.slice za f.body.length zc)
        have hne1 : ¬ w.heap.size + 1 = w.heap.size := by omega
        have hSE := HALL2.out _ (hSA.1.grown hput.2 (by have := hSA.1.size; omega) (fun b hb => by injection hb with hb; omega)) ((hput.2.block _ (by have := hGA.size; simp at this; omega) (by intro q; injection q with q; omega)).trans (HROW.out wA hGA))
        refine wpAnyH_ready (rs := [20]) (by kernel_rfl) (by simp) ?_
        refine AllReadyH.cons rfl (fun K hK => ?_) AllReadyH.nil
        go_simp
        refine hK.out _ _ hSE (fun _ => ?_)
        clear hK K
        try simp only [Act.put, List.getElem_toArray, List.getElem_cons_succ, List.getElem_cons_zero, List.setIfInBounds_toArray, List.set_cons_zero, List.set_cons_succ]
        refine wpAnyH_done (by kernel_rfl) ?_ _
        go_wp2
        refine bodyPost_ret (results_cell_row rfl _ _ (w.heap.size + 1) 29 _ (0, 0) _ rfl hput.1 Tryd.underlying29 rfl (by kernel_rfl)) rfl ?_
        refine ⟨_, rfl, Own.keep (hoA.mono (by omega)) (fun b hb => hput.2.block b (hoA.block b hb).2 ?_), hSE.1⟩
        intro q; injection q with q; have h1 := (hoA.block b hb).1; omega
      · skip
        go_simp
        have hG6 := hG2.tr (gr_al _ (.cells #[] 60))
        refine hK.out _ _ (HALL.out _ hG6) (fun hS6 => ?_)
        have ho6 := (own_empty_of hG2 60 5 eSt).mono (show w.heap.size + 1 + 1 ≤ _ by simp)
        clear hK K
        try simp only [Act.put, List.getElem_toArray, List.getElem_cons_succ, List.getElem_cons_zero, List.setIfInBounds_toArray, List.set_cons_zero, List.set_cons_succ]
        refine wpAnyH_ready (rs := [14]) (by kernel_rfl) (by simp) ?_
        refine AllReadyH.cons rfl (fun K hK => ?_) AllReadyH.nil
        go_simp
        refine (HC3.out _ hS6.1).mono ?_
        rintro e w7 ⟨rfl, hb7⟩
        try go_wp2_with fail
        have hG7 := hG6.tr hb7
        refine hK.out _ _ (HALL.out _ hG7) (fun hS7 => ?_)
        clear hK K
        try simp only [Act.put, List.getElem_toArray, List.getElem_cons_succ, List.getElem_cons_zero, List.setIfInBounds_toArray, List.set_cons_zero, List.set_cons_succ]
        have ho7 := Own.keep ho6 (fun b hb => hb7.block b (ho6.block b hb).2)
        have hszW := hS7.1.size
        refine wpAnyH_ready (rs := [18]) (by kernel_rfl) (by simp) ?_
        refine AllReadyH.cons rfl (fun K hK => ?_) AllReadyH.nil
        refine step_app _ rfl (.tmp 20) (.tmp 22) ti_stmC rfl (by simp [Act.eval]) ho7 (by simp [Act.eval]) (HSRC.out _ hS7.1) (fun _ _ => rfl) (by simp [eSt, Value.oneCell']) (by unfold maxLen; simp; omega) (by simp; omega) (by have := hG7.size; simpa using this) ?_
        intro vA wA hoA hgA _
        have hGA := hG7.grown hgA hG7.size (fun b hb => by have := (ho7.block b hb).1; simpa using this)
        have hSA := HALL.out _ hGA
        obtain ⟨za, zc, rfl, _, _⟩ := hoA.form
        simp only [List.nil_append] at hoA
        refine hK.out _ _ hSA (fun hSB => ?_)
        clear hK K
        try simp only [Act.put, List.getElem_toArray, List.getElem_cons_succ, List.getElem_cons_zero, List.setIfInBounds_toArray, List.set_cons_zero, List.set_cons_succ]
        refine wpAnyH_take (i := 19) (v := ?_) rfl (by kernel_rfl) (by kernel_rfl) (by kernel_rfl) (fun _ _ _ h => h) (Or.inl ⟨by rfl, ?_⟩) hSB ?_
        rotate_left
        · (intro W hSw; (try dsimp only at hSw); go_simp; try (with_reducible rfl))
        try simp only [Act.put, List.getElem_toArray, List.getElem_cons_succ, List.getElem_cons_zero, List.setIfInBounds_toArray, List.set_cons_zero, List.set_cons_succ]
        obtain ⟨⟨a0, a1, a2, a3, a4, a5, a6, a7⟩, b0, b1, b2, b3, b4, b5, b6, b7⟩ := rows8 (HZR.out wA hGA)
        have hput := put8 (HZR.out wA hGA) (.int .i64 f.root) (.string M) (.bool f.init) (.int .i64 mode) (.int .i64 f.stamp) (.int .i64 Sz) (.int .i64 Hs) (.slice za f.body.length zc)
        have hne1 : ¬ w.heap.size + 1 = w.heap.size := by omega
        have hSE := HALL2.out _ (hSA.1.grown hput.2 (by have := hSA.1.size; omega) (fun b hb => by injection hb with hb; omega)) ((hput.2.block _ (by have := hGA.size; simp at this; omega) (by intro q; injection q with q; omega)).trans (HROW.out wA hGA))
        refine wpAnyH_ready (rs := [20]) (by kernel_rfl) (by simp) ?_
        refine AllReadyH.cons rfl (fun K hK => ?_) AllReadyH.nil
        go_simp
        refine hK.out _ _ hSE (fun _ => ?_)
        clear hK K
        try simp only [Act.put, List.getElem_toArray, List.getElem_cons_succ, List.getElem_cons_zero, List.setIfInBounds_toArray, List.set_cons_zero, List.set_cons_succ]
        refine wpAnyH_done (by kernel_rfl) ?_ _
        go_wp2
        refine bodyPost_ret (results_cell_row rfl _ _ (w.heap.size + 1) 29 _ (0, 0) _ rfl hput.1 Tryd.underlying29 rfl (by kernel_rfl)) rfl ?_
        refine ⟨_, rfl, Own.keep (hoA.mono (by omega)) (fun b hb => hput.2.block b (hoA.block b hb).2 ?_), hSE.1⟩
        intro q; injection q with q; have h1 := (hoA.block b hb).1; omega
    · skip
      go_simp
      have hG9 := hG1.tr (gr_al _ (.cells #[] 60))
      refine hK.out _ _ (HALL.out _ hG9) (fun hS9 => ?_)
      have ho9 := (own_empty_of hG1 60 5 eSt).mono (show w.heap.size + 1 + 1 ≤ _ by simp)
      clear hK K
      try simp only [Act.put, List.getElem_toArray, List.getElem_cons_succ, List.getElem_cons_zero, List.setIfInBounds_toArray, List.set_cons_zero, List.set_cons_succ]
      refine wpAnyH_ready (rs := [11]) (by kernel_rfl) (by simp) ?_
      refine AllReadyH.cons rfl (fun K hK => ?_) AllReadyH.nil
      go_simp
      refine (HC2.out _ hS9.1).mono ?_
      rintro e w10 ⟨rfl, hb10⟩
      try go_wp2_with fail
      have hG10 := hG9.tr hb10
      refine hK.out _ _ (HALL.out _ hG10) (fun hS10 => ?_)
      clear hK K
      try simp only [Act.put, List.getElem_toArray, List.getElem_cons_succ, List.getElem_cons_zero, List.setIfInBounds_toArray, List.set_cons_zero, List.set_cons_succ]
      have ho10 := Own.keep ho9 (fun b hb => hb10.block b (ho9.block b hb).2)
      refine wpAnyH_ready (rs := [14]) (by kernel_rfl) (by simp) ?_
      refine AllReadyH.cons rfl (fun K hK => ?_) AllReadyH.nil
      go_simp
      refine (HC3.out _ hS10.1).mono ?_
      rintro e w11 ⟨rfl, hb11⟩
      try go_wp2_with fail
      have hG11 := hG10.tr hb11
      refine hK.out _ _ (HALL.out _ hG11) (fun hS11 => ?_)
      clear hK K
      try simp only [Act.put, List.getElem_toArray, List.getElem_cons_succ, List.getElem_cons_zero, List.setIfInBounds_toArray, List.set_cons_zero, List.set_cons_succ]
      have ho11 := Own.keep ho10 (fun b hb => hb11.block b (ho10.block b hb).2)
      have hszW := hS11.1.size
      refine wpAnyH_ready (rs := [18]) (by kernel_rfl) (by simp) ?_
      refine AllReadyH.cons rfl (fun K hK => ?_) AllReadyH.nil
      refine step_app _ rfl (.tmp 20) (.tmp 22) ti_stmC rfl (by simp [Act.eval]) ho11 (by simp [Act.eval]) (HSRC.out _ hS11.1) (fun _ _ => rfl) (by simp [eSt, Value.oneCell']) (by unfold maxLen; simp; omega) (by simp; omega) (by have := hG11.size; simpa using this) ?_
      intro vA wA hoA hgA _
      have hGA := hG11.grown hgA hG11.size (fun b hb => by have := (ho11.block b hb).1; simpa using this)
      have hSA := HALL.out _ hGA
      obtain ⟨za, zc, rfl, _, _⟩ := hoA.form
      simp only [List.nil_append] at hoA
      refine hK.out _ _ hSA (fun hSB => ?_)
      clear hK K
      try simp only [Act.put, List.getElem_toArray, List.getElem_cons_succ, List.getElem_cons_zero, List.setIfInBounds_toArray, List.set_cons_zero, List.set_cons_succ]
      refine wpAnyH_take (i := 19) (v := ?_) rfl (by kernel_rfl) (by kernel_rfl) (by kernel_rfl) (fun _ _ _ h => h) (Or.inl ⟨by rfl, ?_⟩) hSB ?_
      rotate_left
      · (intro W hSw; (try dsimp only at hSw); go_simp; try (with_reducible rfl))
      try simp only [Act.put, List.getElem_toArray, List.getElem_cons_succ, List.getElem_cons_zero, List.setIfInBounds_toArray, List.set_cons_zero, List.set_cons_succ]
      obtain ⟨⟨a0, a1, a2, a3, a4, a5, a6, a7⟩, b0, b1, b2, b3, b4, b5, b6, b7⟩ := rows8 (HZR.out wA hGA)
      have hput := put8 (HZR.out wA hGA) (.int .i64 f.root) (.string M) (.bool f.init) (.int .i64 mode) (.int .i64 f.stamp) (.int .i64 Sz) (.int .i64 Hs) (.slice za f.body.length zc)
      have hne1 : ¬ w.heap.size + 1 = w.heap.size := by omega
      have hSE := HALL2.out _ (hSA.1.grown hput.2 (by have := hSA.1.size; omega) (fun b hb => by injection hb with hb; omega)) ((hput.2.block _ (by have := hGA.size; simp at this; omega) (by intro q; injection q with q; omega)).trans (HROW.out wA hGA))
      refine wpAnyH_ready (rs := [20]) (by kernel_rfl) (by simp) ?_
      refine AllReadyH.cons rfl (fun K hK => ?_) AllReadyH.nil
      go_simp
      refine hK.out _ _ hSE (fun _ => ?_)
      clear hK K
      try simp only [Act.put, List.getElem_toArray, List.getElem_cons_succ, List.getElem_cons_zero, List.setIfInBounds_toArray, List.set_cons_zero, List.set_cons_succ]
      refine wpAnyH_done (by kernel_rfl) ?_ _
      go_wp2
      refine bodyPost_ret (results_cell_row rfl _ _ (w.heap.size + 1) 29 _ (0, 0) _ rfl hput.1 Tryd.underlying29 rfl (by kernel_rfl)) rfl ?_
      refine ⟨_, rfl, Own.keep (hoA.mono (by omega)) (fun b hb => hput.2.block b (hoA.block b hb).2 ?_), hSE.1⟩
      intro q; injection q with q; have h1 := (hoA.block b hb).1; omega
  · skip
    go_simp
    have hG13 := hG0.tr (gr_al _ (.cells #[] 60))
    refine hK.out _ _ (HALL.out _ hG13) (fun hS13 => ?_)
    have ho13 := (own_empty_of hG0 60 5 eSt).mono (show w.heap.size + 1 + 1 ≤ _ by simp)
    clear hK K
    try simp only [Act.put, List.getElem_toArray, List.getElem_cons_succ, List.getElem_cons_zero, List.setIfInBounds_toArray, List.set_cons_zero, List.set_cons_succ]
    refine wpAnyH_ready (rs := [3]) (by kernel_rfl) (by simp) ?_
    refine AllReadyH.cons rfl (fun K hK => ?_) AllReadyH.nil
    go_simp
    refine (HC1.out _).mono ?_
    rintro e w14 ⟨rfl, hb14⟩
    try go_wp2_with fail
    have hG14 := hG13.tr hb14
    refine hK.out _ _ (HALL.out _ hG14) (fun hS14 => ?_)
    clear hK K
    try simp only [Act.put, List.getElem_toArray, List.getElem_cons_succ, List.getElem_cons_zero, List.setIfInBounds_toArray, List.set_cons_zero, List.set_cons_succ]
    have ho14 := Own.keep ho13 (fun b hb => hb14.block b (ho13.block b hb).2)
    refine wpAnyH_ready (rs := [11]) (by kernel_rfl) (by simp) ?_
    refine AllReadyH.cons rfl (fun K hK => ?_) AllReadyH.nil
    go_simp
    refine (HC2.out _ hS14.1).mono ?_
    rintro e w15 ⟨rfl, hb15⟩
    try go_wp2_with fail
    have hG15 := hG14.tr hb15
    refine hK.out _ _ (HALL.out _ hG15) (fun hS15 => ?_)
    clear hK K
    try simp only [Act.put, List.getElem_toArray, List.getElem_cons_succ, List.getElem_cons_zero, List.setIfInBounds_toArray, List.set_cons_zero, List.set_cons_succ]
    have ho15 := Own.keep ho14 (fun b hb => hb15.block b (ho14.block b hb).2)
    refine wpAnyH_ready (rs := [14]) (by kernel_rfl) (by simp) ?_
    refine AllReadyH.cons rfl (fun K hK => ?_) AllReadyH.nil
    go_simp
    refine (HC3.out _ hS15.1).mono ?_
    rintro e w16 ⟨rfl, hb16⟩
    try go_wp2_with fail
    have hG16 := hG15.tr hb16
    refine hK.out _ _ (HALL.out _ hG16) (fun hS16 => ?_)
    clear hK K
    try simp only [Act.put, List.getElem_toArray, List.getElem_cons_succ, List.getElem_cons_zero, List.setIfInBounds_toArray, List.set_cons_zero, List.set_cons_succ]
    have ho16 := Own.keep ho15 (fun b hb => hb16.block b (ho15.block b hb).2)
    have hszW := hS16.1.size
    refine wpAnyH_ready (rs := [18]) (by kernel_rfl) (by simp) ?_
    refine AllReadyH.cons rfl (fun K hK => ?_) AllReadyH.nil
    refine step_app _ rfl (.tmp 20) (.tmp 22) ti_stmC rfl (by simp [Act.eval]) ho16 (by simp [Act.eval]) (HSRC.out _ hS16.1) (fun _ _ => rfl) (by simp [eSt, Value.oneCell']) (by unfold maxLen; simp; omega) (by simp; omega) (by have := hG16.size; simpa using this) ?_
    intro vA wA hoA hgA _
    have hGA := hG16.grown hgA hG16.size (fun b hb => by have := (ho16.block b hb).1; simpa using this)
    have hSA := HALL.out _ hGA
    obtain ⟨za, zc, rfl, _, _⟩ := hoA.form
    simp only [List.nil_append] at hoA
    refine hK.out _ _ hSA (fun hSB => ?_)
    clear hK K
    try simp only [Act.put, List.getElem_toArray, List.getElem_cons_succ, List.getElem_cons_zero, List.setIfInBounds_toArray, List.set_cons_zero, List.set_cons_succ]
    refine wpAnyH_take (i := 19) (v := ?_) rfl (by kernel_rfl) (by kernel_rfl) (by kernel_rfl) (fun _ _ _ h => h) (Or.inl ⟨by rfl, ?_⟩) hSB ?_
    rotate_left
    · (intro W hSw; (try dsimp only at hSw); go_simp; try (with_reducible rfl))
    try simp only [Act.put, List.getElem_toArray, List.getElem_cons_succ, List.getElem_cons_zero, List.setIfInBounds_toArray, List.set_cons_zero, List.set_cons_succ]
    obtain ⟨⟨a0, a1, a2, a3, a4, a5, a6, a7⟩, b0, b1, b2, b3, b4, b5, b6, b7⟩ := rows8 (HZR.out wA hGA)
    have hput := put8 (HZR.out wA hGA) (.int .i64 f.root) (.string M) (.bool f.init) (.int .i64 mode) (.int .i64 f.stamp) (.int .i64 Sz) (.int .i64 Hs) (.slice za f.body.length zc)
    have hne1 : ¬ w.heap.size + 1 = w.heap.size := by omega
    have hSE := HALL2.out _ (hSA.1.grown hput.2 (by have := hSA.1.size; omega) (fun b hb => by injection hb with hb; omega)) ((hput.2.block _ (by have := hGA.size; simp at this; omega) (by intro q; injection q with q; omega)).trans (HROW.out wA hGA))
    refine wpAnyH_ready (rs := [20]) (by kernel_rfl) (by simp) ?_
    refine AllReadyH.cons rfl (fun K hK => ?_) AllReadyH.nil
    go_simp
    refine hK.out _ _ hSE (fun _ => ?_)
    clear hK K
    try simp only [Act.put, List.getElem_toArray, List.getElem_cons_succ, List.getElem_cons_zero, List.setIfInBounds_toArray, List.set_cons_zero, List.set_cons_succ]
    refine wpAnyH_done (by kernel_rfl) ?_ _
    go_wp2
    refine bodyPost_ret (results_cell_row rfl _ _ (w.heap.size + 1) 29 _ (0, 0) _ rfl hput.1 Tryd.underlying29 rfl (by kernel_rfl)) rfl ?_
    refine ⟨_, rfl, Own.keep (hoA.mono (by omega)) (fun b hb => hput.2.block b (hoA.block b hb).2 ?_), hSE.1⟩
    intro q; injection q with q; have h1 := (hoA.block b hb).1; omega
end Go.Proofs.YtbknhodjcgnfnaaDoor
