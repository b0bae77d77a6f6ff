/-
  Walks: statements and bodies drawn. Printed by drawb.py.
-/
import Derived.Test.YtepljjaienpepaaDoorZ7
import Derived.Test.YtepljjaienpepaaDoorZ4
namespace Imp
open Go Go.RowKit
theorem row5 {w : World} {b t : Nat} {a0 a1 a2 a3 a4 : Value} (h : w.heap[b]? = some (.cells #[a0, a1, a2, a3, a4] t (0, 0))) :
    w.cell? ⟨b, 0, none⟩ = some a0 ∧ w.cell? ⟨b, 1, none⟩ = some a1 ∧ w.cell? ⟨b, 2, none⟩ = some a2 ∧ w.cell? ⟨b, 3, none⟩ = some a3 ∧ w.cell? ⟨b, 4, none⟩ = some a4 ∧
    w.frozen? ⟨b, 0, none⟩ = false ∧ w.frozen? ⟨b, 1, none⟩ = false ∧ w.frozen? ⟨b, 2, none⟩ = false ∧ w.frozen? ⟨b, 3, none⟩ = false ∧ w.frozen? ⟨b, 4, none⟩ = false :=
  ⟨by rw [cell_of_row w b 0 _ _ _ h]; rfl, by rw [cell_of_row w b 1 _ _ _ h]; rfl, by rw [cell_of_row w b 2 _ _ _ h]; rfl, by rw [cell_of_row w b 3 _ _ _ h]; rfl, by rw [cell_of_row w b 4 _ _ _ h]; rfl,
   frozen_of_row w b 0 _ _ h, frozen_of_row w b 1 _ _ h, frozen_of_row w b 2 _ _ h, frozen_of_row w b 3 _ _ h, frozen_of_row w b 4 _ _ h⟩
theorem put5 {w : World} {b t : Nat} {a0 a1 a2 a3 a4 : Value} (h : w.heap[b]? = some (.cells #[a0, a1, a2, a3, a4] t (0, 0))) (v0 v1 v2 v3 v4 : Value) :
    (((((w.setCell ⟨b, 0, none⟩ v0).setCell ⟨b, 1, none⟩ v1).setCell ⟨b, 2, none⟩ v2).setCell ⟨b, 3, none⟩ v3).setCell ⟨b, 4, none⟩ v4).heap[b]? = some (.cells #[v0, v1, v2, v3, v4] t (0, 0)) ∧
    w.grownBy (((((w.setCell ⟨b, 0, none⟩ v0).setCell ⟨b, 1, none⟩ v1).setCell ⟨b, 2, none⟩ v2).setCell ⟨b, 3, none⟩ v3).setCell ⟨b, 4, none⟩ v4) (some b) := by
  refine ⟨heap_setCell_same _ b 4 _ _ v4 (heap_setCell_same _ b 3 _ _ v3 (heap_setCell_same _ b 2 _ _ v2 (heap_setCell_same _ b 1 _ _ v1 (heap_setCell_same _ b 0 _ _ v0 h)))), ?_⟩
  exact grown_tr (grown_tr (grown_tr (grown_tr (grown_set _ _ _ _) (grown_set _ _ _ _)) (grown_set _ _ _ _)) (grown_set _ _ _ _)) (grown_set _ _ _ _)
/-- What turns a block that is new to the first world alone is no turning of it. -/
theorem grown_fresh {w W W' : World} {g b : Nat} (h : w.grownBy W (some g)) (k : W.grownBy W' (some b)) (hb : w.heap.size ≤ b) : w.grownBy W' (some g) :=
  ⟨k.os.trans h.os, k.tape.trans h.tape, k.output.trans h.output, Nat.le_trans h.size k.size, fun i hi hne => (k.block i (Nat.lt_of_lt_of_le hi h.size) (by intro e; injection e with e; omega)).trans (h.block i hi hne)⟩
theorem grown_fresh2 {w W W' : World} {g : Nat} {r : Option Nat} (h : w.grownBy W (some g)) (k : W.grownBy W' r) (hb : ∀ b, r = some b → w.heap.size ≤ b) : w.grownBy W' (some g) :=
  ⟨k.os.trans h.os, k.tape.trans h.tape, k.output.trans h.output, Nat.le_trans h.size k.size, fun i hi hne => (k.block i (Nat.lt_of_lt_of_le hi h.size) (by intro e; have := hb i e.symm; omega)).trans (h.block i hi hne)⟩
theorem SlR.oneAt {α : Type} {enc : α → List Value} {k : Nat} (w : World) (lo b : Nat) (x : α) (e : TypeId) (hb : b = w.heap.size) (hlo : lo ≤ b) (hk : (enc x).length = k) : SlR (w.alloc (.cells (enc x).toArray e)) lo (b + 1) k enc (.slice (some ⟨b, 0, none⟩) 1 1) [x] := by
  subst hb; exact SlR.one w lo x e hlo hk
theorem grown_al (w : World) (o : Obj) (g : Option Nat) : w.grownBy (w.alloc o) g :=
  ⟨rfl, rfl, rfl, by simp, fun i hi _ => Below.heap_alloc w o i hi⟩
end Imp
namespace Go.Proofs.YtepljjaienpepaaDoor
open Go Go.RowKit Imp
set_option linter.unusedVariables false

def DStm (w : World) (g p c : Nat) (e : Ending) (w' : World) : Prop :=
  ∃ s : Stm, ∃ p', e = .returned (vSt s) ∧ s.mod.size ≤ 5 ∧ s.name.size ≤ 5 ∧ smSt s ∧ Rdr w' g p' ∧ p' ≤ p + c ∧ w.grownBy w' (some g)

set_option maxHeartbeats 1600000 in
theorem someStmt_any (g p : Nat) (w : World) (h : Rdr w g p) (hp : p < 700000000) :
    Calls Tryd.prog 65 #[.pointer (some ⟨g, 0, none⟩)] w (DStm w g p 20) := by
  have hlt := h.lt
  go_enter Tryd.func65, Tryd.ntmps65
  go_wp2_with fail
  refine (pick_any g p 9 _ (h.al _) (by omega) (by omega)).mono ?_
  rintro e w1 ⟨k, rfl, hk0, hk1, hr1, hg1⟩
  have hz1 := keep_blk (heap_alloc_new w _) hg1 (by omega)
  have gg1 := grown_tr (grown_al w _ _) hg1
  have hlw1 : w.heap.size ≤ w1.heap.size := gg1.size
  have hk9 := hk1 (by omega)
  have hks : k = 0 ∨ k = 1 ∨ k = 2 ∨ k = 3 ∨ k = 4 ∨ k = 5 ∨ k = 6 ∨ k = 7 ∨ k = 8 := by omega
  clear hk0 hk1 hk9 hg1
  rcases hks with rfl | rfl | rfl | rfl | rfl | rfl | rfl | rfl | rfl
  · go_wp2_with fail
    refine (aName_any g _ w1 hr1 (by omega)).mono ?_
    rintro e w2 ⟨s, p2, rfl, hs_s, hr2, hp2, hg2⟩
    have hz2 := keep_blk hz1 hg2 (by omega)
    have gg2 := grown_tr gg1 hg2
    have hlw2 : w.heap.size ≤ w2.heap.size := gg2.size
    obtain ⟨e0, e1, e2, e3, e4, f0, f1, f2, f3, f4⟩ := row5 hz2
    have HZ := Lib.hid hz2
    clear hz2
    go_wp2
    refine bodyPost_ret (results_cell_row rfl _ _ w.heap.size 78 _ (0, 0) _ rfl (put5 HZ.out _ _ _ _ _).1 Tryd.underlying78 rfl (by kernel_rfl)) rfl ?_
    exact ⟨⟨0, s, 0, ByteArray.empty, 0⟩, _, rfl, (by show (s : ByteArray).size ≤ 5; omega), (by show (ByteArray.empty : ByteArray).size ≤ 5; decide), by unfold smSt; dsimp only; omega, hr2.grown (put5 HZ.out _ _ _ _ _).2 (by intro b hb; injection hb with hb; omega), by omega, grown_fresh gg2 (put5 HZ.out _ _ _ _ _).2 (Nat.le_refl _)⟩
  · go_wp2_with fail
    refine (aName_any g _ w1 hr1 (by omega)).mono ?_
    rintro e w2 ⟨s, p2, rfl, hs_s, hr2, hp2, hg2⟩
    have hz2 := keep_blk hz1 hg2 (by omega)
    have gg2 := grown_tr gg1 hg2
    have hlw2 : w.heap.size ≤ w2.heap.size := gg2.size
    obtain ⟨e0, e1, e2, e3, e4, f0, f1, f2, f3, f4⟩ := row5 hz2
    have HZ := Lib.hid hz2
    clear hz2
    go_wp2
    refine bodyPost_ret (results_cell_row rfl _ _ w.heap.size 78 _ (0, 0) _ rfl (put5 HZ.out _ _ _ _ _).1 Tryd.underlying78 rfl (by kernel_rfl)) rfl ?_
    exact ⟨⟨0, s, 0, ByteArray.empty, 0⟩, _, rfl, (by show (s : ByteArray).size ≤ 5; omega), (by show (ByteArray.empty : ByteArray).size ≤ 5; decide), by unfold smSt; dsimp only; omega, hr2.grown (put5 HZ.out _ _ _ _ _).2 (by intro b hb; injection hb with hb; omega), by omega, grown_fresh gg2 (put5 HZ.out _ _ _ _ _).2 (Nat.le_refl _)⟩
  · go_wp2_with fail
    refine (one_lit g _ [0, 1, 2, 1] w1 hr1 (by omega) (by decide) (by decide)).mono ?_
    rintro e w2 ⟨n, rfl, hin_n, hr2, hg2⟩
    have hz2 := keep_blk hz1 hg2 (by omega)
    have gg2 := grown_tr gg1 hg2
    have hlw2 : w.heap.size ≤ w2.heap.size := gg2.size
    have hn3 : n = 0 ∨ 0 < n := by simp at hin_n; omega
    have hn2 : n ≤ 2 := by simp at hin_n; omega
    clear hin_n
    go_wp2_with fail
    refine (aName_any g _ w2 hr2 (by omega)).mono ?_
    rintro e w3 ⟨s, p3, rfl, hs_s, hr3, hp3, hg3⟩
    have hz3 := keep_blk hz2 hg3 (by omega)
    have gg3 := grown_tr gg2 hg3
    have hlw3 : w.heap.size ≤ w3.heap.size := gg3.size
    rcases hn3 with rfl | hn3
    · go_wp2_with fail
      refine (aPart_any g _ w3 hr3 (by omega)).mono ?_
      rintro e w4 ⟨t, p4, rfl, hs_t, hr4, hp4, hg4⟩
      have hz4 := keep_blk hz3 hg4 (by omega)
      have gg4 := grown_tr gg3 hg4
      have hlw4 : w.heap.size ≤ w4.heap.size := gg4.size
      obtain ⟨e0, e1, e2, e3, e4, f0, f1, f2, f3, f4⟩ := row5 hz4
      have HZ := Lib.hid hz4
      clear hz4
      go_wp2
      refine bodyPost_ret (results_cell_row rfl _ _ w.heap.size 78 _ (0, 0) _ rfl (put5 HZ.out _ _ _ _ _).1 Tryd.underlying78 rfl (by kernel_rfl)) rfl ?_
      exact ⟨⟨1, s, 0, t, 0⟩, _, rfl, (by show (s : ByteArray).size ≤ 5; omega), (by show (t : ByteArray).size ≤ 5; omega), by unfold smSt; dsimp only; omega, hr4.grown (put5 HZ.out _ _ _ _ _).2 (by intro b hb; injection hb with hb; omega), by omega, grown_fresh gg4 (put5 HZ.out _ _ _ _ _).2 (Nat.le_refl _)⟩
    · go_wp2_with fail
      refine (pick_any g _ 2 w3 hr3 (by omega) (by omega)).mono ?_
      rintro e w4 ⟨q, rfl, hlo_q, hhi_q, hr4, hg4⟩
      have hhi_q := hhi_q (by omega)
      have hz4 := keep_blk hz3 hg4 (by omega)
      have gg4 := grown_tr gg3 hg4
      have hlw4 : w.heap.size ≤ w4.heap.size := gg4.size
      by_cases hq : q = 0
      · subst hq
        go_wp2_with fail
        refine (aPart_any g _ w4 hr4 (by omega)).mono ?_
        rintro e w5 ⟨t, p5, rfl, hs_t, hr5, hp5, hg5⟩
        have hz5 := keep_blk hz4 hg5 (by omega)
        have gg5 := grown_tr gg4 hg5
        have hlw5 : w.heap.size ≤ w5.heap.size := gg5.size
        obtain ⟨e0, e1, e2, e3, e4, f0, f1, f2, f3, f4⟩ := row5 hz5
        have HZ := Lib.hid hz5
        clear hz5
        go_wp2
        refine bodyPost_ret (results_cell_row rfl _ _ w.heap.size 78 _ (0, 0) _ rfl (put5 HZ.out _ _ _ _ _).1 Tryd.underlying78 rfl (by kernel_rfl)) rfl ?_
        exact ⟨⟨1, ⟨#[]⟩, n, t, 0⟩, _, rfl, (by show (⟨#[]⟩ : ByteArray).size ≤ 5; decide), (by show (t : ByteArray).size ≤ 5; omega), by unfold smSt; dsimp only; omega, hr5.grown (put5 HZ.out _ _ _ _ _).2 (by intro b hb; injection hb with hb; omega), by omega, grown_fresh gg5 (put5 HZ.out _ _ _ _ _).2 (Nat.le_refl _)⟩
      · have hq1 : (q == 0) = false := by simp [hq]
        clear hq
        go_wp2_with fail
        refine (aPart_any g _ w4 hr4 (by omega)).mono ?_
        rintro e w5 ⟨t, p5, rfl, hs_t, hr5, hp5, hg5⟩
        have hz5 := keep_blk hz4 hg5 (by omega)
        have gg5 := grown_tr gg4 hg5
        have hlw5 : w.heap.size ≤ w5.heap.size := gg5.size
        obtain ⟨e0, e1, e2, e3, e4, f0, f1, f2, f3, f4⟩ := row5 hz5
        have HZ := Lib.hid hz5
        clear hz5
        go_wp2
        refine bodyPost_ret (results_cell_row rfl _ _ w.heap.size 78 _ (0, 0) _ rfl (put5 HZ.out _ _ _ _ _).1 Tryd.underlying78 rfl (by kernel_rfl)) rfl ?_
        exact ⟨⟨1, s, n, t, 0⟩, _, rfl, (by show (s : ByteArray).size ≤ 5; omega), (by show (t : ByteArray).size ≤ 5; omega), by unfold smSt; dsimp only; omega, hr5.grown (put5 HZ.out _ _ _ _ _).2 (by intro b hb; injection hb with hb; omega), by omega, grown_fresh gg5 (put5 HZ.out _ _ _ _ _).2 (Nat.le_refl _)⟩
  · go_wp2_with fail
    refine (aName_any g _ w1 hr1 (by omega)).mono ?_
    rintro e w2 ⟨s, p2, rfl, hs_s, hr2, hp2, hg2⟩
    have hz2 := keep_blk hz1 hg2 (by omega)
    have gg2 := grown_tr gg1 hg2
    have hlw2 : w.heap.size ≤ w2.heap.size := gg2.size
    obtain ⟨e0, e1, e2, e3, e4, f0, f1, f2, f3, f4⟩ := row5 hz2
    have HZ := Lib.hid hz2
    clear hz2
    go_wp2
    refine bodyPost_ret (results_cell_row rfl _ _ w.heap.size 78 _ (0, 0) _ rfl (put5 HZ.out _ _ _ _ _).1 Tryd.underlying78 rfl (by kernel_rfl)) rfl ?_
    exact ⟨⟨2, s, 0, ByteArray.empty, 0⟩, _, rfl, (by show (s : ByteArray).size ≤ 5; omega), (by show (ByteArray.empty : ByteArray).size ≤ 5; decide), by unfold smSt; dsimp only; omega, hr2.grown (put5 HZ.out _ _ _ _ _).2 (by intro b hb; injection hb with hb; omega), by omega, grown_fresh gg2 (put5 HZ.out _ _ _ _ _).2 (Nat.le_refl _)⟩
  · go_wp2_with fail
    refine (of_lit g _ [⟨#[120]⟩, ⟨#[121]⟩, ⟨#[122]⟩, ⟨#[97]⟩] 1 w1 hr1 (by omega) (by decide) (by decide) (by decide)).mono ?_
    rintro e w2 ⟨s, p2, rfl, hs_s, hr2, hp2, hg2⟩
    have hz2 := keep_blk hz1 hg2 (by omega)
    have gg2 := grown_tr gg1 hg2
    have hlw2 : w.heap.size ≤ w2.heap.size := gg2.size
    go_wp2_with fail
    refine (pick_any g _ 100 w2 hr2 (by omega) (by omega)).mono ?_
    rintro e w3 ⟨q, rfl, hlo_q, hhi_q, hr3, hg3⟩
    have hhi_q := hhi_q (by omega)
    have hz3 := keep_blk hz2 hg3 (by omega)
    have gg3 := grown_tr gg2 hg3
    have hlw3 : w.heap.size ≤ w3.heap.size := gg3.size
    obtain ⟨e0, e1, e2, e3, e4, f0, f1, f2, f3, f4⟩ := row5 hz3
    have HZ := Lib.hid hz3
    clear hz3
    go_wp2
    refine bodyPost_ret (results_cell_row rfl _ _ w.heap.size 78 _ (0, 0) _ rfl (put5 HZ.out _ _ _ _ _).1 Tryd.underlying78 rfl (by kernel_rfl)) rfl ?_
    exact ⟨⟨3, ByteArray.empty, 0, s, q⟩, _, rfl, (by show (ByteArray.empty : ByteArray).size ≤ 5; decide), (by show (s : ByteArray).size ≤ 5; omega), by unfold smSt; dsimp only; omega, hr3.grown (put5 HZ.out _ _ _ _ _).2 (by intro b hb; injection hb with hb; omega), by omega, grown_fresh gg3 (put5 HZ.out _ _ _ _ _).2 (Nat.le_refl _)⟩
  · go_wp2_with fail
    refine (of_lit g _ [⟨#[120]⟩, ⟨#[121]⟩, ⟨#[122]⟩, ⟨#[97]⟩] 1 w1 hr1 (by omega) (by decide) (by decide) (by decide)).mono ?_
    rintro e w2 ⟨s, p2, rfl, hs_s, hr2, hp2, hg2⟩
    have hz2 := keep_blk hz1 hg2 (by omega)
    have gg2 := grown_tr gg1 hg2
    have hlw2 : w.heap.size ≤ w2.heap.size := gg2.size
    go_wp2_with fail
    refine (pick_any g _ 100 w2 hr2 (by omega) (by omega)).mono ?_
    rintro e w3 ⟨q, rfl, hlo_q, hhi_q, hr3, hg3⟩
    have hhi_q := hhi_q (by omega)
    have hz3 := keep_blk hz2 hg3 (by omega)
    have gg3 := grown_tr gg2 hg3
    have hlw3 : w.heap.size ≤ w3.heap.size := gg3.size
    obtain ⟨e0, e1, e2, e3, e4, f0, f1, f2, f3, f4⟩ := row5 hz3
    have HZ := Lib.hid hz3
    clear hz3
    go_wp2
    refine bodyPost_ret (results_cell_row rfl _ _ w.heap.size 78 _ (0, 0) _ rfl (put5 HZ.out _ _ _ _ _).1 Tryd.underlying78 rfl (by kernel_rfl)) rfl ?_
    exact ⟨⟨3, ByteArray.empty, 0, s, q⟩, _, rfl, (by show (ByteArray.empty : ByteArray).size ≤ 5; decide), (by show (s : ByteArray).size ≤ 5; omega), by unfold smSt; dsimp only; omega, hr3.grown (put5 HZ.out _ _ _ _ _).2 (by intro b hb; injection hb with hb; omega), by omega, grown_fresh gg3 (put5 HZ.out _ _ _ _ _).2 (Nat.le_refl _)⟩
  · go_wp2_with fail
    refine (of_lit g _ [⟨#[120]⟩, ⟨#[121]⟩, ⟨#[122]⟩, ⟨#[97]⟩] 1 w1 hr1 (by omega) (by decide) (by decide) (by decide)).mono ?_
    rintro e w2 ⟨s, p2, rfl, hs_s, hr2, hp2, hg2⟩
    have hz2 := keep_blk hz1 hg2 (by omega)
    have gg2 := grown_tr gg1 hg2
    have hlw2 : w.heap.size ≤ w2.heap.size := gg2.size
    go_wp2_with fail
    refine (pick_any g _ 100 w2 hr2 (by omega) (by omega)).mono ?_
    rintro e w3 ⟨q, rfl, hlo_q, hhi_q, hr3, hg3⟩
    have hhi_q := hhi_q (by omega)
    have hz3 := keep_blk hz2 hg3 (by omega)
    have gg3 := grown_tr gg2 hg3
    have hlw3 : w.heap.size ≤ w3.heap.size := gg3.size
    obtain ⟨e0, e1, e2, e3, e4, f0, f1, f2, f3, f4⟩ := row5 hz3
    have HZ := Lib.hid hz3
    clear hz3
    go_wp2
    refine bodyPost_ret (results_cell_row rfl _ _ w.heap.size 78 _ (0, 0) _ rfl (put5 HZ.out _ _ _ _ _).1 Tryd.underlying78 rfl (by kernel_rfl)) rfl ?_
    exact ⟨⟨3, ByteArray.empty, 0, s, q⟩, _, rfl, (by show (ByteArray.empty : ByteArray).size ≤ 5; decide), (by show (s : ByteArray).size ≤ 5; omega), by unfold smSt; dsimp only; omega, hr3.grown (put5 HZ.out _ _ _ _ _).2 (by intro b hb; injection hb with hb; omega), by omega, grown_fresh gg3 (put5 HZ.out _ _ _ _ _).2 (Nat.le_refl _)⟩
  · go_wp2_with fail
    refine (of_lit g _ [⟨#[120]⟩, ⟨#[121]⟩, ⟨#[97]⟩, ⟨#[98]⟩, ⟨#[120]⟩] 1 w1 hr1 (by omega) (by decide) (by decide) (by decide)).mono ?_
    rintro e w2 ⟨s, p2, rfl, hs_s, hr2, hp2, hg2⟩
    have hz2 := keep_blk hz1 hg2 (by omega)
    have gg2 := grown_tr gg1 hg2
    have hlw2 : w.heap.size ≤ w2.heap.size := gg2.size
    obtain ⟨e0, e1, e2, e3, e4, f0, f1, f2, f3, f4⟩ := row5 hz2
    have HZ := Lib.hid hz2
    clear hz2
    go_wp2
    refine bodyPost_ret (results_cell_row rfl _ _ w.heap.size 78 _ (0, 0) _ rfl (put5 HZ.out _ _ _ _ _).1 Tryd.underlying78 rfl (by kernel_rfl)) rfl ?_
    exact ⟨⟨4, ByteArray.empty, 0, s, 0⟩, _, rfl, (by show (ByteArray.empty : ByteArray).size ≤ 5; decide), (by show (s : ByteArray).size ≤ 5; omega), by unfold smSt; dsimp only; omega, hr2.grown (put5 HZ.out _ _ _ _ _).2 (by intro b hb; injection hb with hb; omega), by omega, grown_fresh gg2 (put5 HZ.out _ _ _ _ _).2 (Nat.le_refl _)⟩
  · go_wp2_with fail
    refine (pick_any g _ 3 w1 hr1 (by omega) (by omega)).mono ?_
    rintro e w2 ⟨z, rfl, hlo_z, hhi_z, hr2, hg2⟩
    have hhi_z := hhi_z (by omega)
    have hz2 := keep_blk hz1 hg2 (by omega)
    have gg2 := grown_tr gg1 hg2
    have hlw2 : w.heap.size ≤ w2.heap.size := gg2.size
    by_cases hz : z = 0
    · subst hz
      obtain ⟨e0, e1, e2, e3, e4, f0, f1, f2, f3, f4⟩ := row5 hz2
      have HZ := Lib.hid hz2
      clear hz2
      go_wp2
      refine bodyPost_ret (results_cell_row rfl _ _ w.heap.size 78 _ (0, 0) _ rfl (put5 HZ.out _ _ _ _ _).1 Tryd.underlying78 rfl (by kernel_rfl)) rfl ?_
      exact ⟨⟨5, ByteArray.empty, 0, ByteArray.empty, 0⟩, _, rfl, (by show (ByteArray.empty : ByteArray).size ≤ 5; decide), (by show (ByteArray.empty : ByteArray).size ≤ 5; decide), by unfold smSt; dsimp only; omega, hr2.grown (put5 HZ.out _ _ _ _ _).2 (by intro b hb; injection hb with hb; omega), by omega, grown_fresh gg2 (put5 HZ.out _ _ _ _ _).2 (Nat.le_refl _)⟩
    · have hq1 : (z == 0) = false := by simp [hz]
      clear hz
      go_wp2_with fail
      refine (pick_any g _ 100 w2 hr2 (by omega) (by omega)).mono ?_
      rintro e w3 ⟨q, rfl, hlo_q, hhi_q, hr3, hg3⟩
      have hhi_q := hhi_q (by omega)
      have hz3 := keep_blk hz2 hg3 (by omega)
      have gg3 := grown_tr gg2 hg3
      have hlw3 : w.heap.size ≤ w3.heap.size := gg3.size
      obtain ⟨e0, e1, e2, e3, e4, f0, f1, f2, f3, f4⟩ := row5 hz3
      have HZ := Lib.hid hz3
      clear hz3
      go_wp2
      refine bodyPost_ret (results_cell_row rfl _ _ w.heap.size 78 _ (0, 0) _ rfl (put5 HZ.out _ _ _ _ _).1 Tryd.underlying78 rfl (by kernel_rfl)) rfl ?_
      exact ⟨⟨3, ByteArray.empty, 0, ⟨#[120]⟩, q⟩, _, rfl, (by show (ByteArray.empty : ByteArray).size ≤ 5; decide), (by show (⟨#[120]⟩ : ByteArray).size ≤ 5; decide), by unfold smSt; dsimp only; omega, hr3.grown (put5 HZ.out _ _ _ _ _).2 (by intro b hb; injection hb with hb; omega), by omega, grown_fresh gg3 (put5 HZ.out _ _ _ _ _).2 (Nat.le_refl _)⟩
end Go.Proofs.YtepljjaienpepaaDoor
