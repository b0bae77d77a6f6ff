/-
  Walk of the law on modules of drawn files.
-/
import Derived.Test.YteccopgnlbphbaaDoorDrawF
import Derived.Test.YteccopgnlbphbaaDoorLawsF
namespace Imp
open Go
theorem nameP_name {f : Fil} (h : okFil f = true) : vName (nameP f) = true := by
  unfold okFil at h
  simp only [Bool.and_eq_true] at h
  obtain ⟨⟨⟨⟨_, h2⟩, _⟩, _⟩, h5⟩ := h
  unfold nameP
  cases hi : f.init
  · rw [hi] at h5
    simp only [Bool.false_eq_true, ↓reduceIte, Bool.and_eq_true] at h5
    exact h5.2
  · rw [hi] at h5
    simp only [↓reduceIte, Bool.and_eq_true] at h5
    have he : (bs f.pkg).isEmpty = false := by rw [← isEmptyT]; simpa using h5.1
    unfold vPkg at h2
    rw [he, Bool.false_or] at h2
    exact h2
where isEmptyT {s : ByteArray} : s.toList.isEmpty = (bs s).isEmpty := by rw [Go.Proofs.YteccopgnlbphbaaDoor.isEmpty_toList]
theorem part_of_ok {f : Fil} (h : okFil f = true) (hi : f.init = false) : vPart (bs f.name) = true := by
  unfold okFil at h
  rw [hi] at h
  simp only [Bool.and_eq_true, Bool.false_eq_true, ↓reduceIte] at h
  exact h.2.1
end Imp
namespace Go.Proofs.YteccopgnlbphbaaDoor
open Go Go.RowKit Imp
set_option linter.unusedVariables false
set_option linter.unusedSimpArgs false

set_option maxHeartbeats 1600000 in
theorem anyFile_any (g p : Nat) (w : World) (h : Rdr w g p) (hp : p < 300000000) :
    Calls Tryd.prog 66 #[.pointer (some ⟨g, 0, none⟩)] w (DFil w g p 260) := by
  have hlt := h.lt
  go_enter Tryd.func66, Tryd.ntmps66
  go_wp2_with fail
  refine (someFile_any g p _ (h.al _) (by omega)).mono ?_
  rintro e w3 ⟨f, v, p3, rfl, ho3, hll, hls, hpk, hnm, hr3, hp3, hg3⟩
  have hz3 := keep_blk (heap_alloc_new w _) hg3 (by omega)
  have gg3 := grown_tr (grown_al w _ _) hg3
  have hl3 : w.heap.size + 1 ≤ w3.heap.size := by have := hg3.size; simpa using this
  obtain ⟨va, vc, rfl, _, _⟩ := ho3.form
  simp only [World.size_alloc] at ho3
  have hob := ho3.block
  have ho3 := ho3.mono (base' := w.heap.size) (by omega)
  obtain ⟨root, pkg, name, init, stamp, L⟩ := f
  simp only at hob ho3 hll hls hpk hnm
  have hf3 := heap_alloc_new w3 (.cells #[.int .i64 root, .string pkg, .string name, .bool init, .int .i64 stamp, .slice va L.length vc] 57)
  have hz3 : (w3.alloc (.cells #[.int .i64 root, .string pkg, .string name, .bool init, .int .i64 stamp, .slice va L.length vc] 57)).heap[w.heap.size]? = _ := (Below.heap_alloc w3 _ w.heap.size (by omega)).trans hz3
  go_wp2_with fail
  refine (pick_any g _ 16 _ (hr3.al _) (by omega) (by omega)).mono ?_
  rintro e w4 ⟨k, rfl, _, _, hr4, hg4⟩
  have hz4 := keep_blk hz3 hg4 (by omega)
  have hf4 := keep_blk hf3 hg4 (by omega)
  have gg4 := grown_tr (grown_tr gg3 (grown_al w3 _ _)) hg4
  have hl4 : w3.heap.size + 1 ≤ w4.heap.size := by have := hg4.size; (try simp at this); omega
  have ho4 := Own.keepR (Own.alloc ho3 _) hg4 hlt
  have hne1 : ¬ w3.heap.size = w.heap.size := by omega
  have hne2 : ¬ w.heap.size = w3.heap.size := by omega
  have HLS := Lib.hid hls
  clear hz3 hf3 gg3 hr3 hg4 hls ho3 hg3
  by_cases k0 : k = 0
  · subst k0
    obtain ⟨⟨x0, x1, x2, x3, x4, x5⟩, y0, y1, y2, y3, y4, y5⟩ := rows6 hf4
    obtain ⟨⟨a0, a1, a2, a3, a4, a5⟩, b0, b1, b2, b3, b4, b5⟩ := rows6 hz4
    have HZ := Lib.hid hz4
    clear hf4 hz4
    go_wp2
    have hput := put6 (set_other (o := 3) (v := .bool (!init)) HZ.out (by omega : w.heap.size ≠ w3.heap.size)) (.int .i64 root) (.string pkg) (.string name) (.bool (!init)) (.int .i64 stamp) (.slice va L.length vc)
    refine bodyPost_ret (results_cell_row rfl _ _ w.heap.size 57 _ (0, 0) _ rfl hput.1 Tryd.underlying57 rfl (by kernel_rfl)) rfl ?_
    refine ⟨⟨root, pkg, name, !init, stamp, L⟩, _, _, rfl, Own.keep (Own.keep ho4 (fun b hb => Below.heap_setCell _ ⟨w3.heap.size, 3, none⟩ (.bool (!init)) b (by show b ≠ w3.heap.size; have := (hob b hb).2; omega))) (fun b hb => hput.2.block b ?_ ?_), hll, HLS.out, hpk, hnm, (hr4.grown (grown_set _ w3.heap.size 3 (.bool (!init))) (by intro b hb; injection hb with hb; omega)).grown hput.2 (by intro b hb; injection hb with hb; omega), by omega, grown_fresh (grown_fresh gg4 (grown_set _ w3.heap.size 3 (.bool (!init))) (by omega)) hput.2 (Nat.le_refl _)⟩
    · have := (hob b hb).2; simp; omega
    · intro q; injection q with q; have := (hob b hb).1; omega
  · have q0 : (k == 0) = false := by simp [k0]
    by_cases k1 : k = 1
    · subst k1
      go_wp2_with fail
      refine (anyPackage_any g _ w4 hr4 (by omega)).mono ?_
      rintro e w5 ⟨s, p5, rfl, hs, hr5, hp5, hg5⟩
      have hz5 := keep_blk hz4 hg5 (by omega)
      have hf5 := keep_blk hf4 hg5 (by omega)
      have gg5 := grown_tr gg4 hg5
      have hl5 : w3.heap.size + 1 ≤ w5.heap.size := Nat.le_trans hl4 hg5.size
      have ho5 := Own.keepR ho4 hg5 hlt
      obtain ⟨⟨x0, x1, x2, x3, x4, x5⟩, y0, y1, y2, y3, y4, y5⟩ := rows6 hf5
      obtain ⟨⟨a0, a1, a2, a3, a4, a5⟩, b0, b1, b2, b3, b4, b5⟩ := rows6 hz5
      have HZ := Lib.hid hz5
      clear hf4 hz4 hf5 hz5
      go_wp2
      have hput := put6 (set_other (o := 1) (v := .string s) HZ.out (by omega : w.heap.size ≠ w3.heap.size)) (.int .i64 root) (.string s) (.string name) (.bool init) (.int .i64 stamp) (.slice va L.length vc)
      refine bodyPost_ret (results_cell_row rfl _ _ w.heap.size 57 _ (0, 0) _ rfl hput.1 Tryd.underlying57 rfl (by kernel_rfl)) rfl ?_
      refine ⟨⟨root, s, name, init, stamp, L⟩, _, _, rfl, Own.keep (Own.keep ho5 (fun b hb => Below.heap_setCell _ ⟨w3.heap.size, 1, none⟩ (.string s) b (by show b ≠ w3.heap.size; have := (hob b hb).2; omega))) (fun b hb => hput.2.block b ?_ ?_), hll, HLS.out, hs, hnm, (hr5.grown (grown_set _ w3.heap.size 1 (.string s)) (by intro b hb; injection hb with hb; omega)).grown hput.2 (by intro b hb; injection hb with hb; omega), by omega, grown_fresh (grown_fresh gg5 (grown_set _ w3.heap.size 1 (.string s)) (by omega)) hput.2 (Nat.le_refl _)⟩
      · have := (hob b hb).2; simp; omega
      · intro q; injection q with q; have := (hob b hb).1; omega
    · have q1 : (k == 1) = false := by simp [k1]
      by_cases k2 : k = 2
      · subst k2
        go_wp2_with fail
        refine (anyBody_any g _ w4 hr4 (by omega)).mono ?_
        rintro e w5 ⟨v5, M, p5, rfl, ho5, hml, hms, hr5, hp5, hg5⟩
        obtain ⟨ma, mc, rfl, _, _⟩ := ho5.form
        have hz5 := keep_blk hz4 hg5 (by omega)
        have hf5 := keep_blk hf4 hg5 (by omega)
        have gg5 := grown_tr gg4 hg5
        have hl5 : w3.heap.size + 1 ≤ w5.heap.size := Nat.le_trans hl4 hg5.size
        have hob5 := ho5.block
        have ho5 := ho5.mono (base' := w.heap.size) (by omega)
        obtain ⟨⟨x0, x1, x2, x3, x4, x5⟩, y0, y1, y2, y3, y4, y5⟩ := rows6 hf5
        obtain ⟨⟨a0, a1, a2, a3, a4, a5⟩, b0, b1, b2, b3, b4, b5⟩ := rows6 hz5
        have HZ := Lib.hid hz5
        have HMS := Lib.hid hms
        clear hf4 hz4 hf5 hz5 hms
        go_wp2
        have hput := put6 (set_other (o := 5) (v := .slice ma M.length mc) HZ.out (by omega : w.heap.size ≠ w3.heap.size)) (.int .i64 root) (.string pkg) (.string name) (.bool init) (.int .i64 stamp) (.slice ma M.length mc)
        refine bodyPost_ret (results_cell_row rfl _ _ w.heap.size 57 _ (0, 0) _ rfl hput.1 Tryd.underlying57 rfl (by kernel_rfl)) rfl ?_
        refine ⟨⟨root, pkg, name, init, stamp, M⟩, _, _, rfl, Own.keep (Own.keep ho5 (fun b hb => Below.heap_setCell _ ⟨w3.heap.size, 5, none⟩ (.slice ma M.length mc) b (by show b ≠ w3.heap.size; have := (hob5 b hb).1; omega))) (fun b hb => hput.2.block b ?_ ?_), hml, HMS.out, hpk, hnm, (hr5.grown (grown_set _ w3.heap.size 5 (.slice ma M.length mc)) (by intro b hb; injection hb with hb; omega)).grown hput.2 (by intro b hb; injection hb with hb; omega), by omega, grown_fresh (grown_fresh gg5 (grown_set _ w3.heap.size 5 (.slice ma M.length mc)) (by omega)) hput.2 (Nat.le_refl _)⟩
        · have := (hob5 b hb).2; simp; omega
        · intro q; injection q with q; have := (hob5 b hb).1; omega
      · have q2 : (k == 2) = false := by simp [k2]
        obtain ⟨⟨x0, x1, x2, x3, x4, x5⟩, y0, y1, y2, y3, y4, y5⟩ := rows6 hf4
        obtain ⟨⟨a0, a1, a2, a3, a4, a5⟩, b0, b1, b2, b3, b4, b5⟩ := rows6 hz4
        have HZ := Lib.hid hz4
        clear hf4 hz4 k0 k1 k2
        go_wp2
        have hput := put6 HZ.out (.int .i64 root) (.string pkg) (.string name) (.bool init) (.int .i64 stamp) (.slice va L.length vc)
        refine bodyPost_ret (results_cell_row rfl _ _ w.heap.size 57 _ (0, 0) _ rfl hput.1 Tryd.underlying57 rfl (by kernel_rfl)) rfl ?_
        refine ⟨⟨root, pkg, name, init, stamp, L⟩, _, _, rfl, Own.keep ho4 (fun b hb => hput.2.block b ?_ ?_), hll, HLS.out, hpk, hnm, hr4.grown hput.2 (by intro b hb; injection hb with hb; omega), by omega, grown_fresh gg4 hput.2 (Nat.le_refl _)⟩
        · have := (hob b hb).2; omega
        · intro q; injection q with q; have := (hob b hb).1; omega
end Go.Proofs.YteccopgnlbphbaaDoor
