/-
  Walks: files drawn. Printed by drawf.py.
-/
import Derived.Test.YtepljjaienpepaaDoorLawsLZ
import Derived.Test.YtepljjaienpepaaDoorZ5
namespace Imp
open Go Go.RowKit
theorem put6 {w : World} {b t : Nat} {a0 a1 a2 a3 a4 a5 : Value} (h : w.heap[b]? = some (.cells #[a0, a1, a2, a3, a4, a5] t (0, 0))) (v0 v1 v2 v3 v4 v5 : Value) :
    ((((((w.setCell ⟨b, 0, none⟩ v0).setCell ⟨b, 1, none⟩ v1).setCell ⟨b, 2, none⟩ v2).setCell ⟨b, 3, none⟩ v3).setCell ⟨b, 4, none⟩ v4).setCell ⟨b, 5, none⟩ v5).heap[b]? = some (.cells #[v0, v1, v2, v3, v4, v5] t (0, 0)) ∧ w.grownBy ((((((w.setCell ⟨b, 0, none⟩ v0).setCell ⟨b, 1, none⟩ v1).setCell ⟨b, 2, none⟩ v2).setCell ⟨b, 3, none⟩ v3).setCell ⟨b, 4, none⟩ v4).setCell ⟨b, 5, none⟩ v5) (some b) := by
  refine ⟨heap_setCell_same _ b 5 _ _ v5 (heap_setCell_same _ b 4 _ _ v4 (heap_setCell_same _ b 3 _ _ v3 (heap_setCell_same _ b 2 _ _ v2 (heap_setCell_same _ b 1 _ _ v1 (heap_setCell_same _ b 0 _ _ v0 h))))), ?_⟩
  exact grown_tr (grown_tr (grown_tr (grown_tr (grown_tr (grown_set _ _ _ _) (grown_set _ _ _ _)) (grown_set _ _ _ _)) (grown_set _ _ _ _)) (grown_set _ _ _ _)) (grown_set _ _ _ _)
theorem rows6 {w : World} {b t : Nat} {a0 a1 a2 a3 a4 a5 : Value} (h : w.heap[b]? = some (.cells #[a0, a1, a2, a3, a4, a5] t (0, 0))) :
    (w.cell? ⟨b, 0, none⟩ = some a0 ∧ w.cell? ⟨b, 1, none⟩ = some a1 ∧ w.cell? ⟨b, 2, none⟩ = some a2 ∧ w.cell? ⟨b, 3, none⟩ = some a3 ∧ w.cell? ⟨b, 4, none⟩ = some a4 ∧ w.cell? ⟨b, 5, none⟩ = some a5) ∧
    (w.frozen? ⟨b, 0, none⟩ = false ∧ w.frozen? ⟨b, 1, none⟩ = false ∧ w.frozen? ⟨b, 2, none⟩ = false ∧ w.frozen? ⟨b, 3, none⟩ = false ∧ w.frozen? ⟨b, 4, none⟩ = false ∧ w.frozen? ⟨b, 5, none⟩ = false) :=
  ⟨⟨by rw [cell_of_row w b 0 _ _ _ h]; rfl, by rw [cell_of_row w b 1 _ _ _ h]; rfl, by rw [cell_of_row w b 2 _ _ _ h]; rfl, by rw [cell_of_row w b 3 _ _ _ h]; rfl, by rw [cell_of_row w b 4 _ _ _ h]; rfl, by rw [cell_of_row w b 5 _ _ _ h]; rfl⟩,
   ⟨frozen_of_row w b 0 _ _ h, frozen_of_row w b 1 _ _ h, frozen_of_row w b 2 _ _ h, frozen_of_row w b 3 _ _ h, frozen_of_row w b 4 _ _ h, frozen_of_row w b 5 _ _ h⟩⟩
/-- One block written, another one as it was. -/
theorem set_other {W : World} {b b' o : Nat} {v : Value} {ob : Obj} (h : W.heap[b]? = some ob) (hne : b ≠ b') : (W.setCell ⟨b', o, none⟩ v).heap[b]? = some ob :=
  (Below.heap_setCell W _ _ b hne).trans h
end Imp
namespace Go.Proofs.YtepljjaienpepaaDoor
open Go Go.RowKit Imp
set_option linter.unusedVariables false

def DFilS (w : World) (g p c : Nat) (e : Ending) (w' : World) : Prop :=
  ∃ f : Fil, ∃ v, ∃ p', e = .returned (vF (f, v)) ∧ Own w' w.heap.size 78 5 eSt v f.body ∧ f.body.length ≤ 4 ∧ (∀ s ∈ f.body, s.mod.size ≤ 5 ∧ s.name.size ≤ 5 ∧ smSt s) ∧ f.pkg.size ≤ 7 ∧ f.name.size ≤ 1 ∧ Rdr w' g p' ∧ p' ≤ p + c ∧ w.grownBy w' (some g)
set_option maxHeartbeats 3200000 in
theorem someFile_sm (g p : Nat) (w : World) (h : Rdr w g p) (hp : p < 400000000) :
    Calls Tryd.prog 38 #[.pointer (some ⟨g, 0, none⟩)] w (DFilS w g p 120) := by
  have hlt := h.lt
  have hone := one_lit g p [0, 0, 1, 2, 1] (w.alloc (.cells #[.int .i64 0, .string ByteArray.empty, .string ByteArray.empty, .bool false, .int .i64 0, .slice none 0 0] 55)) (h.al _) (by omega) (by decide) (by decide)
  rw [show (w.alloc (.cells #[.int .i64 0, .string ByteArray.empty, .string ByteArray.empty, .bool false, .int .i64 0, .slice none 0 0] 55)).heap.size = w.heap.size + 1 by simp] at hone
  have HONE := Lib.hid hone
  clear hone
  go_enter Tryd.func38, Tryd.ntmps38
  go_wp2_with fail
  refine HONE.out.mono ?_
  rintro e w1 ⟨rt, rfl, _, hr1, hg1⟩
  have hz1 := keep_blk (heap_alloc_new w (.cells #[.int .i64 0, .string ByteArray.empty, .string ByteArray.empty, .bool false, .int .i64 0, .slice none 0 0] 55)) hg1 (by omega)
  have gg1 := grown_tr (grown_al w (.cells #[.int .i64 0, .string ByteArray.empty, .string ByteArray.empty, .bool false, .int .i64 0, .slice none 0 0] 55) _) hg1
  have hl1 : w.heap.size + 1 ≤ w1.heap.size := by have := hg1.size; simpa using this
  go_wp2_with fail
  refine (pick_any g _ 100 w1 hr1 (by omega) (by omega)).mono ?_
  rintro e w2 ⟨st, rfl, _, _, hr2, hg2⟩
  have hz2 := keep_blk hz1 hg2 (by omega)
  have gg2 := grown_tr gg1 hg2
  have hl2 : w.heap.size + 1 ≤ w2.heap.size := Nat.le_trans hl1 hg2.size
  go_wp2_with fail
  refine (someBody_sm g _ w2 hr2 (by omega)).mono ?_
  rintro e w3 ⟨v, L, p3, rfl, ho3, hll, hls, hr3, hp3, hg3⟩
  have hz3 := keep_blk hz2 hg3 (by omega)
  have gg3 := grown_tr gg2 hg3
  have hl3 : w.heap.size + 1 ≤ w3.heap.size := Nat.le_trans hl2 hg3.size
  obtain ⟨va, vc, rfl, _, _⟩ := ho3.form
  have hob := ho3.block
  have ho3 := ho3.mono (base' := w.heap.size) (by omega)
  clear hz1 hz2 gg1 gg2 hr1 hr2 hg1 hg2 hg3
  have hf3 := heap_alloc_new w3 (.cells #[.int .i64 rt, .string ByteArray.empty, .string ByteArray.empty, .bool false, .int .i64 st, .slice va L.length vc] 55)
  have hz3 : (w3.alloc (.cells #[.int .i64 rt, .string ByteArray.empty, .string ByteArray.empty, .bool false, .int .i64 st, .slice va L.length vc] 55)).heap[w.heap.size]? = _ := (Below.heap_alloc w3 _ w.heap.size (by omega)).trans hz3
  go_wp2_with fail
  refine (pick_any g _ 6 _ (hr3.al _) (by omega) (by omega)).mono ?_
  rintro e w4 ⟨k, rfl, hk0, hk1, hr4, hg4⟩
  have hz4 := keep_blk hz3 hg4 (by omega)
  have hf4 := keep_blk hf3 hg4 (by omega)
  have gg4 := grown_tr (grown_tr gg3 (grown_al w3 _ _)) hg4
  have hl4 : w3.heap.size + 1 ≤ w4.heap.size := by have := hg4.size; simpa using this
  have ho4 := Own.keepR (Own.alloc ho3 _) hg4 hlt
  have hk6 := hk1 (by omega)
  have hks : k = 0 ∨ k = 1 ∨ k = 2 ∨ k = 3 ∨ k = 4 ∨ k = 5 := by omega
  have hne1 : ¬ w3.heap.size = w.heap.size := by omega
  have hne2 : ¬ w.heap.size = w3.heap.size := by omega
  have HLS := Lib.hid hls
  clear hk0 hk1 hk6 hz3 hf3 gg3 hr3 hg4 hls ho3
  rcases hks with rfl | rfl | rfl | rfl | rfl | rfl
  · go_wp2_with fail
    have hrA := hr4
    have hzA := hz4
    have hfA := hf4
    have ggA := gg4
    have hoA := ho4
    have hlA := ggA.size
    refine (aPart_any g _ _ hrA (by omega)).mono ?_
    rintro e w5 ⟨s, p5, rfl, hs_s, hr5, hp5, hg5⟩
    have hz5 := keep_blk hzA hg5 (by omega)
    have hf5 := keep_blk hfA hg5 (by omega)
    have gg5 := grown_tr ggA hg5
    have ho5 := Own.keepR hoA hg5 hlt
    have hl5 : w3.heap.size + 1 ≤ w5.heap.size := by have := hg5.size; (try simp at this); omega
    clear hrA hzA hfA ggA hoA hlA
    obtain ⟨⟨x0, x1, x2, x3, x4, x5⟩, y0, y1, y2, y3, y4, y5⟩ := rows6 hf5
    obtain ⟨⟨a0, a1, a2, a3, a4, a5⟩, b0, b1, b2, b3, b4, b5⟩ := rows6 hz5
    have HF := Lib.hid hf5
    have HZ := Lib.hid hz5
    clear hf5 hz5
    go_wp2
    have hput := put6 (set_other (o := 2) (v := .string s) HZ.out (by omega)) (.int .i64 rt) (.string ByteArray.empty) (.string s) (.bool false) (.int .i64 st) (.slice va L.length vc)
    refine bodyPost_ret (results_cell_row rfl _ _ w.heap.size 55 _ (0, 0) _ rfl hput.1 Tryd.underlying55 rfl (by kernel_rfl)) rfl ?_
    refine ⟨⟨rt, ByteArray.empty, s, false, st, L⟩, _, _, rfl, Own.keep (Own.keep ho5 (fun b hb => Below.heap_setCell _ ⟨w3.heap.size, 2, none⟩ (.string s) b (by show b ≠ w3.heap.size; have := (hob b hb).2; omega))) (fun b hb => hput.2.block b ?_ ?_), hll, HLS.out, by show (ByteArray.empty : ByteArray).size ≤ 7; decide, by show (s : ByteArray).size ≤ 1; omega, (hr5.grown (grown_set _ w3.heap.size 2 (.string s)) (by intro b hb; injection hb with hb; omega)).grown hput.2 (by intro b hb; injection hb with hb; omega), by omega, grown_fresh (grown_fresh gg5 (grown_set _ w3.heap.size 2 (.string s)) (by omega)) hput.2 (Nat.le_refl _)⟩
    · have := (hob b hb).2; simp; omega
    · intro q; injection q with q; have := (hob b hb).1; omega
  · go_wp2_with fail
    have hrA := hr4
    have hzA := hz4
    have hfA := hf4
    have ggA := gg4
    have hoA := ho4
    have hlA := ggA.size
    refine (aPart_any g _ _ hrA (by omega)).mono ?_
    rintro e w5 ⟨s, p5, rfl, hs_s, hr5, hp5, hg5⟩
    have hz5 := keep_blk hzA hg5 (by omega)
    have hf5 := keep_blk hfA hg5 (by omega)
    have gg5 := grown_tr ggA hg5
    have ho5 := Own.keepR hoA hg5 hlt
    have hl5 : w3.heap.size + 1 ≤ w5.heap.size := by have := hg5.size; (try simp at this); omega
    clear hrA hzA hfA ggA hoA hlA
    obtain ⟨⟨x0, x1, x2, x3, x4, x5⟩, y0, y1, y2, y3, y4, y5⟩ := rows6 hf5
    obtain ⟨⟨a0, a1, a2, a3, a4, a5⟩, b0, b1, b2, b3, b4, b5⟩ := rows6 hz5
    have HF := Lib.hid hf5
    have HZ := Lib.hid hz5
    clear hf5 hz5
    go_wp2
    have hput := put6 (set_other (o := 2) (v := .string s) HZ.out (by omega)) (.int .i64 rt) (.string ByteArray.empty) (.string s) (.bool false) (.int .i64 st) (.slice va L.length vc)
    refine bodyPost_ret (results_cell_row rfl _ _ w.heap.size 55 _ (0, 0) _ rfl hput.1 Tryd.underlying55 rfl (by kernel_rfl)) rfl ?_
    refine ⟨⟨rt, ByteArray.empty, s, false, st, L⟩, _, _, rfl, Own.keep (Own.keep ho5 (fun b hb => Below.heap_setCell _ ⟨w3.heap.size, 2, none⟩ (.string s) b (by show b ≠ w3.heap.size; have := (hob b hb).2; omega))) (fun b hb => hput.2.block b ?_ ?_), hll, HLS.out, by show (ByteArray.empty : ByteArray).size ≤ 7; decide, by show (s : ByteArray).size ≤ 1; omega, (hr5.grown (grown_set _ w3.heap.size 2 (.string s)) (by intro b hb; injection hb with hb; omega)).grown hput.2 (by intro b hb; injection hb with hb; omega), by omega, grown_fresh (grown_fresh gg5 (grown_set _ w3.heap.size 2 (.string s)) (by omega)) hput.2 (Nat.le_refl _)⟩
    · have := (hob b hb).2; simp; omega
    · intro q; injection q with q; have := (hob b hb).1; omega
  · go_wp2_with fail
    have hrA := hr4
    have hzA := hz4
    have hfA := hf4
    have ggA := gg4
    have hoA := ho4
    have hlA := ggA.size
    refine (aPart_any g _ _ hrA (by omega)).mono ?_
    rintro e w5 ⟨s, p5, rfl, hs_s, hr5, hp5, hg5⟩
    have hz5 := keep_blk hzA hg5 (by omega)
    have hf5 := keep_blk hfA hg5 (by omega)
    have gg5 := grown_tr ggA hg5
    have ho5 := Own.keepR hoA hg5 hlt
    have hl5 : w3.heap.size + 1 ≤ w5.heap.size := by have := hg5.size; (try simp at this); omega
    clear hrA hzA hfA ggA hoA hlA
    obtain ⟨⟨x0, x1, x2, x3, x4, x5⟩, y0, y1, y2, y3, y4, y5⟩ := rows6 hf5
    go_wp2_with fail
    have hrA := (hr5.grown (grown_set _ w3.heap.size 1 (.string s)) (by intro b hb; injection hb with hb; omega))
    have hzA := (set_other (o := 1) (v := .string s) hz5 (by omega))
    have hfA := (heap_setCell_same _ w3.heap.size 1 _ _ (.string s) hf5)
    have ggA := (grown_fresh gg5 (grown_set _ w3.heap.size 1 (.string s)) (by omega))
    have hoA := (Own.keep ho5 (fun b hb => Below.heap_setCell _ ⟨w3.heap.size, 1, none⟩ (.string s) b (by show b ≠ w3.heap.size; have := (hob b hb).2; omega)))
    have hlA := ggA.size
    refine (aPart_any g _ _ hrA (by omega)).mono ?_
    rintro e w6 ⟨t, p6, rfl, hs_t, hr6, hp6, hg6⟩
    have hz6 := keep_blk hzA hg6 (by omega)
    have hf6 := keep_blk hfA hg6 (by omega)
    have gg6 := grown_tr ggA hg6
    have ho6 := Own.keepR hoA hg6 hlt
    have hl6 : w3.heap.size + 1 ≤ w6.heap.size := by have := hg6.size; (try simp at this); omega
    clear hrA hzA hfA ggA hoA hlA
    clear x0 x1 x2 x3 x4 x5 y0 y1 y2 y3 y4 y5
    obtain ⟨⟨x0, x1, x2, x3, x4, x5⟩, y0, y1, y2, y3, y4, y5⟩ := rows6 hf6
    obtain ⟨⟨a0, a1, a2, a3, a4, a5⟩, b0, b1, b2, b3, b4, b5⟩ := rows6 hz6
    have HF := Lib.hid hf6
    have HZ := Lib.hid hz6
    clear hf6 hz6
    go_wp2
    have hput := put6 (set_other (o := 2) (v := .string t) HZ.out (by omega)) (.int .i64 rt) (.string s) (.string t) (.bool false) (.int .i64 st) (.slice va L.length vc)
    refine bodyPost_ret (results_cell_row rfl _ _ w.heap.size 55 _ (0, 0) _ rfl hput.1 Tryd.underlying55 rfl (by kernel_rfl)) rfl ?_
    refine ⟨⟨rt, s, t, false, st, L⟩, _, _, rfl, Own.keep (Own.keep ho6 (fun b hb => Below.heap_setCell _ ⟨w3.heap.size, 2, none⟩ (.string t) b (by show b ≠ w3.heap.size; have := (hob b hb).2; omega))) (fun b hb => hput.2.block b ?_ ?_), hll, HLS.out, by show (s : ByteArray).size ≤ 7; omega, by show (t : ByteArray).size ≤ 1; omega, (hr6.grown (grown_set _ w3.heap.size 2 (.string t)) (by intro b hb; injection hb with hb; omega)).grown hput.2 (by intro b hb; injection hb with hb; omega), by omega, grown_fresh (grown_fresh gg6 (grown_set _ w3.heap.size 2 (.string t)) (by omega)) hput.2 (Nat.le_refl _)⟩
    · have := (hob b hb).2; simp; omega
    · intro q; injection q with q; have := (hob b hb).1; omega
  · go_wp2_with fail
    have hrA := hr4
    have hzA := hz4
    have hfA := hf4
    have ggA := gg4
    have hoA := ho4
    have hlA := ggA.size
    refine (aPart_any g _ _ hrA (by omega)).mono ?_
    rintro e w5 ⟨s, p5, rfl, hs_s, hr5, hp5, hg5⟩
    have hz5 := keep_blk hzA hg5 (by omega)
    have hf5 := keep_blk hfA hg5 (by omega)
    have gg5 := grown_tr ggA hg5
    have ho5 := Own.keepR hoA hg5 hlt
    have hl5 : w3.heap.size + 1 ≤ w5.heap.size := by have := hg5.size; (try simp at this); omega
    clear hrA hzA hfA ggA hoA hlA
    obtain ⟨⟨x0, x1, x2, x3, x4, x5⟩, y0, y1, y2, y3, y4, y5⟩ := rows6 hf5
    go_wp2_with fail
    have hrA := (hr5.grown (grown_set _ w3.heap.size 1 (.string s)) (by intro b hb; injection hb with hb; omega))
    have hzA := (set_other (o := 1) (v := .string s) hz5 (by omega))
    have hfA := (heap_setCell_same _ w3.heap.size 1 _ _ (.string s) hf5)
    have ggA := (grown_fresh gg5 (grown_set _ w3.heap.size 1 (.string s)) (by omega))
    have hoA := (Own.keep ho5 (fun b hb => Below.heap_setCell _ ⟨w3.heap.size, 1, none⟩ (.string s) b (by show b ≠ w3.heap.size; have := (hob b hb).2; omega)))
    have hlA := ggA.size
    refine (aPart_any g _ _ hrA (by omega)).mono ?_
    rintro e w6 ⟨t, p6, rfl, hs_t, hr6, hp6, hg6⟩
    have hz6 := keep_blk hzA hg6 (by omega)
    have hf6 := keep_blk hfA hg6 (by omega)
    have gg6 := grown_tr ggA hg6
    have ho6 := Own.keepR hoA hg6 hlt
    have hl6 : w3.heap.size + 1 ≤ w6.heap.size := by have := hg6.size; (try simp at this); omega
    clear hrA hzA hfA ggA hoA hlA
    clear x0 x1 x2 x3 x4 x5 y0 y1 y2 y3 y4 y5
    obtain ⟨⟨x0, x1, x2, x3, x4, x5⟩, y0, y1, y2, y3, y4, y5⟩ := rows6 hf6
    obtain ⟨⟨a0, a1, a2, a3, a4, a5⟩, b0, b1, b2, b3, b4, b5⟩ := rows6 hz6
    have HF := Lib.hid hf6
    have HZ := Lib.hid hz6
    clear hf6 hz6
    go_wp2
    have hput := put6 (set_other (o := 2) (v := .string t) HZ.out (by omega)) (.int .i64 rt) (.string s) (.string t) (.bool false) (.int .i64 st) (.slice va L.length vc)
    refine bodyPost_ret (results_cell_row rfl _ _ w.heap.size 55 _ (0, 0) _ rfl hput.1 Tryd.underlying55 rfl (by kernel_rfl)) rfl ?_
    refine ⟨⟨rt, s, t, false, st, L⟩, _, _, rfl, Own.keep (Own.keep ho6 (fun b hb => Below.heap_setCell _ ⟨w3.heap.size, 2, none⟩ (.string t) b (by show b ≠ w3.heap.size; have := (hob b hb).2; omega))) (fun b hb => hput.2.block b ?_ ?_), hll, HLS.out, by show (s : ByteArray).size ≤ 7; omega, by show (t : ByteArray).size ≤ 1; omega, (hr6.grown (grown_set _ w3.heap.size 2 (.string t)) (by intro b hb; injection hb with hb; omega)).grown hput.2 (by intro b hb; injection hb with hb; omega), by omega, grown_fresh (grown_fresh gg6 (grown_set _ w3.heap.size 2 (.string t)) (by omega)) hput.2 (Nat.le_refl _)⟩
    · have := (hob b hb).2; simp; omega
    · intro q; injection q with q; have := (hob b hb).1; omega
  · go_wp2_with fail
    have hrA := hr4
    have hzA := hz4
    have hfA := hf4
    have ggA := gg4
    have hoA := ho4
    have hlA := ggA.size
    refine (aPart_any g _ _ hrA (by omega)).mono ?_
    rintro e w5 ⟨s, p5, rfl, hs_s, hr5, hp5, hg5⟩
    have hz5 := keep_blk hzA hg5 (by omega)
    have hf5 := keep_blk hfA hg5 (by omega)
    have gg5 := grown_tr ggA hg5
    have ho5 := Own.keepR hoA hg5 hlt
    have hl5 : w3.heap.size + 1 ≤ w5.heap.size := by have := hg5.size; (try simp at this); omega
    clear hrA hzA hfA ggA hoA hlA
    obtain ⟨⟨x0, x1, x2, x3, x4, x5⟩, y0, y1, y2, y3, y4, y5⟩ := rows6 hf5
    obtain ⟨⟨a0, a1, a2, a3, a4, a5⟩, b0, b1, b2, b3, b4, b5⟩ := rows6 hz5
    have HF := Lib.hid hf5
    have HZ := Lib.hid hz5
    clear hf5 hz5
    go_wp2
    have hput := put6 (set_other (o := 3) (v := .bool true) (set_other (o := 1) (v := .string s) HZ.out (by omega)) (by omega)) (.int .i64 rt) (.string s) (.string ByteArray.empty) (.bool true) (.int .i64 st) (.slice va L.length vc)
    refine bodyPost_ret (results_cell_row rfl _ _ w.heap.size 55 _ (0, 0) _ rfl hput.1 Tryd.underlying55 rfl (by kernel_rfl)) rfl ?_
    refine ⟨⟨rt, s, ByteArray.empty, true, st, L⟩, _, _, rfl, Own.keep (Own.keep (Own.keep ho5 (fun b hb => Below.heap_setCell _ ⟨w3.heap.size, 1, none⟩ (.string s) b (by show b ≠ w3.heap.size; have := (hob b hb).2; omega))) (fun b hb => Below.heap_setCell _ ⟨w3.heap.size, 3, none⟩ (.bool true) b (by show b ≠ w3.heap.size; have := (hob b hb).2; omega))) (fun b hb => hput.2.block b ?_ ?_), hll, HLS.out, by show (s : ByteArray).size ≤ 7; omega, by show (ByteArray.empty : ByteArray).size ≤ 1; decide, ((hr5.grown (grown_set _ w3.heap.size 1 (.string s)) (by intro b hb; injection hb with hb; omega)).grown (grown_set _ w3.heap.size 3 (.bool true)) (by intro b hb; injection hb with hb; omega)).grown hput.2 (by intro b hb; injection hb with hb; omega), by omega, grown_fresh (grown_fresh (grown_fresh gg5 (grown_set _ w3.heap.size 1 (.string s)) (by omega)) (grown_set _ w3.heap.size 3 (.bool true)) (by omega)) hput.2 (Nat.le_refl _)⟩
    · have := (hob b hb).2; simp; omega
    · intro q; injection q with q; have := (hob b hb).1; omega
  · go_wp2_with fail
    have hrA := hr4
    have hzA := hz4
    have hfA := hf4
    have ggA := gg4
    have hoA := ho4
    have hlA := ggA.size
    refine (aPart_any g _ _ hrA (by omega)).mono ?_
    rintro e w5 ⟨s, p5, rfl, hs_s, hr5, hp5, hg5⟩
    have hz5 := keep_blk hzA hg5 (by omega)
    have hf5 := keep_blk hfA hg5 (by omega)
    have gg5 := grown_tr ggA hg5
    have ho5 := Own.keepR hoA hg5 hlt
    have hl5 : w3.heap.size + 1 ≤ w5.heap.size := by have := hg5.size; (try simp at this); omega
    clear hrA hzA hfA ggA hoA hlA
    go_wp2_with fail
    have hrA := hr5
    have hzA := hz5
    have hfA := hf5
    have ggA := gg5
    have hoA := ho5
    have hlA := ggA.size
    refine (aPart_any g _ _ hrA (by omega)).mono ?_
    rintro e w6 ⟨t, p6, rfl, hs_t, hr6, hp6, hg6⟩
    have hz6 := keep_blk hzA hg6 (by omega)
    have hf6 := keep_blk hfA hg6 (by omega)
    have gg6 := grown_tr ggA hg6
    have ho6 := Own.keepR hoA hg6 hlt
    have hl6 : w3.heap.size + 1 ≤ w6.heap.size := by have := hg6.size; (try simp at this); omega
    clear hrA hzA hfA ggA hoA hlA
    obtain ⟨⟨x0, x1, x2, x3, x4, x5⟩, y0, y1, y2, y3, y4, y5⟩ := rows6 hf6
    go_wp2_with fail
    have hrA := (hr6.grown (grown_set _ w3.heap.size 1 (.string (s ++ ⟨#[46]⟩ ++ t))) (by intro b hb; injection hb with hb; omega))
    have hzA := (set_other (o := 1) (v := .string (s ++ ⟨#[46]⟩ ++ t)) hz6 (by omega))
    have hfA := (heap_setCell_same _ w3.heap.size 1 _ _ (.string (s ++ ⟨#[46]⟩ ++ t)) hf6)
    have ggA := (grown_fresh gg6 (grown_set _ w3.heap.size 1 (.string (s ++ ⟨#[46]⟩ ++ t))) (by omega))
    have hoA := (Own.keep ho6 (fun b hb => Below.heap_setCell _ ⟨w3.heap.size, 1, none⟩ (.string (s ++ ⟨#[46]⟩ ++ t)) b (by show b ≠ w3.heap.size; have := (hob b hb).2; omega)))
    have hlA := ggA.size
    refine (pick_any g _ 2 _ hrA (by omega) (by omega)).mono ?_
    rintro e w7 ⟨q, rfl, _, hhi_q, hr7, hg7⟩
    have hz7 := keep_blk hzA hg7 (by omega)
    have hf7 := keep_blk hfA hg7 (by omega)
    have gg7 := grown_tr ggA hg7
    have ho7 := Own.keepR hoA hg7 hlt
    have hl7 : w3.heap.size + 1 ≤ w7.heap.size := by have := hg7.size; (try simp at this); omega
    clear hrA hzA hfA ggA hoA hlA
    clear x0 x1 x2 x3 x4 x5 y0 y1 y2 y3 y4 y5
    have hsz : (s ++ ⟨#[46]⟩ ++ t : ByteArray).size ≤ 7 := by rw [ByteArray.size_append, ByteArray.size_append]; have e : (⟨#[46]⟩ : ByteArray).size = 1 := rfl; omega
    generalize (s ++ ⟨#[46]⟩ ++ t : ByteArray) = st2 at *
    by_cases hq : q = 0
    · subst hq
      obtain ⟨⟨x0, x1, x2, x3, x4, x5⟩, y0, y1, y2, y3, y4, y5⟩ := rows6 hf7
      obtain ⟨⟨a0, a1, a2, a3, a4, a5⟩, b0, b1, b2, b3, b4, b5⟩ := rows6 hz7
      have HF := Lib.hid hf7
      have HZ := Lib.hid hz7
      clear hf7 hz7
      go_wp2
      have hput := put6 (set_other (o := 3) (v := .bool true) HZ.out (by omega)) (.int .i64 rt) (.string st2) (.string ByteArray.empty) (.bool true) (.int .i64 st) (.slice va L.length vc)
      refine bodyPost_ret (results_cell_row rfl _ _ w.heap.size 55 _ (0, 0) _ rfl hput.1 Tryd.underlying55 rfl (by kernel_rfl)) rfl ?_
      refine ⟨⟨rt, st2, ByteArray.empty, true, st, L⟩, _, _, rfl, Own.keep (Own.keep ho7 (fun b hb => Below.heap_setCell _ ⟨w3.heap.size, 3, none⟩ (.bool true) b (by show b ≠ w3.heap.size; have := (hob b hb).2; omega))) (fun b hb => hput.2.block b ?_ ?_), hll, HLS.out, by show (st2 : ByteArray).size ≤ 7; exact hsz, by show (ByteArray.empty : ByteArray).size ≤ 1; decide, (hr7.grown (grown_set _ w3.heap.size 3 (.bool true)) (by intro b hb; injection hb with hb; omega)).grown hput.2 (by intro b hb; injection hb with hb; omega), by omega, grown_fresh (grown_fresh gg7 (grown_set _ w3.heap.size 3 (.bool true)) (by omega)) hput.2 (Nat.le_refl _)⟩
      · have := (hob b hb).2; simp; omega
      · intro q; injection q with q; have := (hob b hb).1; omega
    · have hq1 : (q == 0) = false := by simp [hq]
      clear hq
      go_wp2_with fail
      have hrA := hr7
      have hzA := hz7
      have hfA := hf7
      have ggA := gg7
      have hoA := ho7
      have hlA := ggA.size
      refine (aPart_any g _ _ hrA (by omega)).mono ?_
      rintro e w8 ⟨u, p8, rfl, hs_u, hr8, hp8, hg8⟩
      have hz8 := keep_blk hzA hg8 (by omega)
      have hf8 := keep_blk hfA hg8 (by omega)
      have gg8 := grown_tr ggA hg8
      have ho8 := Own.keepR hoA hg8 hlt
      have hl8 : w3.heap.size + 1 ≤ w8.heap.size := by have := hg8.size; (try simp at this); omega
      clear hrA hzA hfA ggA hoA hlA
      obtain ⟨⟨x0, x1, x2, x3, x4, x5⟩, y0, y1, y2, y3, y4, y5⟩ := rows6 hf8
      obtain ⟨⟨a0, a1, a2, a3, a4, a5⟩, b0, b1, b2, b3, b4, b5⟩ := rows6 hz8
      have HF := Lib.hid hf8
      have HZ := Lib.hid hz8
      clear hf8 hz8
      go_wp2
      have hput := put6 (set_other (o := 2) (v := .string u) HZ.out (by omega)) (.int .i64 rt) (.string st2) (.string u) (.bool false) (.int .i64 st) (.slice va L.length vc)
      refine bodyPost_ret (results_cell_row rfl _ _ w.heap.size 55 _ (0, 0) _ rfl hput.1 Tryd.underlying55 rfl (by kernel_rfl)) rfl ?_
      refine ⟨⟨rt, st2, u, false, st, L⟩, _, _, rfl, Own.keep (Own.keep ho8 (fun b hb => Below.heap_setCell _ ⟨w3.heap.size, 2, none⟩ (.string u) b (by show b ≠ w3.heap.size; have := (hob b hb).2; omega))) (fun b hb => hput.2.block b ?_ ?_), hll, HLS.out, by show (st2 : ByteArray).size ≤ 7; exact hsz, by show (u : ByteArray).size ≤ 1; omega, (hr8.grown (grown_set _ w3.heap.size 2 (.string u)) (by intro b hb; injection hb with hb; omega)).grown hput.2 (by intro b hb; injection hb with hb; omega), by omega, grown_fresh (grown_fresh gg8 (grown_set _ w3.heap.size 2 (.string u)) (by omega)) hput.2 (Nat.le_refl _)⟩
      · have := (hob b hb).2; simp; omega
      · intro q; injection q with q; have := (hob b hb).1; omega
def DFil (w : World) (g p c : Nat) (e : Ending) (w' : World) : Prop :=
  ∃ f : Fil, ∃ v, ∃ p', e = .returned (vF (f, v)) ∧ Own w' w.heap.size 78 5 eSt v f.body ∧ f.body.length ≤ 4 ∧ (∀ s ∈ f.body, s.mod.size ≤ 5 ∧ s.name.size ≤ 5) ∧ f.pkg.size ≤ 7 ∧ f.name.size ≤ 1 ∧ Rdr w' g p' ∧ p' ≤ p + c ∧ w.grownBy w' (some g)
theorem someFile_any (g p : Nat) (w : World) (h : Rdr w g p) (hp : p < 400000000) :
    Calls Tryd.prog 38 #[.pointer (some ⟨g, 0, none⟩)] w (DFil w g p 120) :=
  (someFile_sm g p w h hp).mono fun e w' ⟨f, v, p', he, ho, hl, hs, hk, hn, hr, hp', hg⟩ => ⟨f, v, p', he, ho, hl, fun s q => ⟨(hs s q).1, (hs s q).2.1⟩, hk, hn, hr, hp', hg⟩
end Go.Proofs.YtepljjaienpepaaDoor
