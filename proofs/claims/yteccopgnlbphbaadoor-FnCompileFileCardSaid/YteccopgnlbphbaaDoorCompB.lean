/-
  Walks: what is compiled of a file, in both packages, and compiled files compared. Printed by compc.py.
-/
import Derived.Test.YteccopgnlbphbaaDoorComp
namespace Imp
open Go Go.RowKit
theorem fSize_at {L : List Stm} (h : okBody L = true) : fSize L = ((3 * L.length + totB L : Nat) : Int) := by unfold fSize; rw [if_pos h]
theorem fHash_at {L : List Stm} (h : okBody L = true) : fHash L = hashP L := by unfold fHash; rw [if_pos h]
theorem fCompile_ok {f : Fil} {mode : Int} (h : okFil f = true) (h1 : 0 ≤ mode) (h2 : mode ≤ 2) : fCompile f mode = cmpOf f mode := by
  unfold fCompile; rw [h, decide_eq_true h1, decide_eq_true h2]; rfl
theorem fCompile_bad {f : Fil} {mode : Int} (h : okFil f = false) : fCompile f mode = noCmp := by
  unfold fCompile; rw [h]; rfl
theorem fCompile_mode {f : Fil} {mode : Int} (h : ¬ (0 ≤ mode ∧ mode ≤ 2)) : fCompile f mode = noCmp := by
  unfold fCompile
  rw [if_neg]
  simp only [Bool.and_eq_true, decide_eq_true_eq]
  exact fun hh => h hh.2
theorem fCompile_len (f : Fil) (mode : Int) : (fCompile f mode).body.length ≤ f.body.length := by
  unfold fCompile
  split
  · exact Nat.le_refl _
  · exact Nat.zero_le _
end Imp
namespace Go.Proofs.YteccopgnlbphbaaDoor
open Go Go.RowKit Imp
set_option linter.unusedVariables false
set_option linter.unusedSimpArgs false
theorem icloneBody_any {lo hi : Nat} (v : Value) (L : List Stm) (w : World) (hv : SlR w lo hi 5 eSt v L) (hhi : hi ≤ w.heap.size) (hn : L.length ≤ 16777216) :
    Calls Tryd.prog 71 #[v] w fun e w' => ∃ u, e = .returned u ∧ Own w' w.heap.size 99 5 eSt u L ∧ Gr w w' := by
  have hlen := hv.len_le
  have hv0 := hv
  obtain ⟨a, c, rfl, _, _⟩ := hv.form
  go_enter Tryd.func71, Tryd.ntmps71
  go_wp2_with (at_builtin
               refine wpList_app _ rfl (.tmp 3) (.tmp 4) ti_stmC rfl (show _ = Value.slice (some ⟨w.heap.size, 0, none⟩) 0 0 from rfl) (Own.empty w w.heap.size 99 5 eSt (Nat.le_refl _)) rfl (hv0.keep (Same.alloc w _ hhi)) (fun _ _ => rfl) (by simp [eSt, Value.oneCell']) (by unfold maxLen; simp; omega) (by simp; omega) (by simp) ?_
               intro v4 w4 hown4 hg4 hat4)
  have hb4 : Gr w w4 := (gr_al w _).grown hg4 (by simp) (by simp [Value.ownBlock])
  go_ret
  exact ⟨_, rfl, hown4, hb4⟩
theorem imodeOk_any (mode : Int) (w : World) :
    Calls Tryd.prog 49 #[.int .i64 mode] w fun e w' => e = .returned (.bool (decide (0 ≤ mode) && decide (mode ≤ 2))) ∧ w = w' := by
  go_enter Tryd.func49, Tryd.ntmps49
  go_wp2_with fail
  refine (within_any _ _ _ _).mono ?_
  rintro e w' ⟨rfl, rfl⟩
  go_wp2
  go_ret
  exact ⟨rfl, rfl⟩
theorem eqCompiled_any {lo hi lo' hi' : Nat} (c : Cmp) (u v : Value) (w : World) (hu : SlR w lo hi 5 eSt u c.body) (hv : SlR w lo' hi' 5 eSt v c.body) (hhi : hi ≤ w.heap.size) (hhi' : hi' ≤ w.heap.size) :
    Calls Tryd.prog 28 #[vCm c u, vCm c v] w fun e w' => e = .returned (.bool true) ∧ Gr w w' := by
  have h := fun o o' => eqStmtS_any u v c.body ((w.alloc o).alloc o') (SlR.below hu (gr_al2 w o o') hhi) (SlR.below hv (gr_al2 w o o') hhi') (by simp; omega) (by simp; omega)
  have H := Lib.hid h
  clear h
  obtain ⟨root, mod, init, mode, stamp, size, hash, body⟩ := c
  have q2 : (mod.toList != mod.toList) = false := by simp
  have q4 : (root != root) = false := by simp
  have q5 : (init != init) = false := by simp
  have q6 : (stamp != stamp) = false := by simp
  have q7 : (mode != mode) = false := by simp
  have q8 : (size != size) = false := by simp
  have q9 : (hash != hash) = false := by simp
  go_enter Tryd.func28, Tryd.ntmps28
  go_wp2_with fail
  refine (H.out _ _).mono ?_
  rintro e w2 ⟨rfl, hb2⟩
  go_wp2
  go_ret
  exact ⟨rfl, (gr_al2 _ _ _).tr hb2⟩
set_option maxHeartbeats 3200000 in
theorem sCompileFile_any {lo hi : Nat} (f : Fil) (bv : Value) (mode : Int) (w : World) (hok : OkW w) (hb : BodyR w lo hi (f, bv)) (hhi : hi ≤ w.heap.size) (hp : f.pkg.size ≤ 4194304) (hn : f.name.size ≤ 4194304) (hl : f.body.length ≤ 16777216) (ht : totB f.body ≤ 16777216) :
    Calls Tryd.prog 37 #[vF (f, bv), .int .i64 mode] w (DComp w (fCompile f mode)) := by
  have hsm : ∀ s ∈ f.body, szSt s ≤ 16777216 := fun s hs => Nat.le_trans (totB_mem hs) ht
  have hg0 : Gr w ((w.alloc (.cells #[.int .i64 f.root, .string f.pkg, .string f.name, .bool f.init, .int .i64 f.stamp, bv] 57)).alloc (.cells #[.int .i64 0, .string ByteArray.empty, .bool false, .int .i64 0, .int .i64 0, .int .i64 0, .int .i64 0, .slice none 0 0] 54)) := gr_al2 w _ _
  have hA := heap_alloc_new w (.cells #[.int .i64 f.root, .string f.pkg, .string f.name, .bool f.init, .int .i64 f.stamp, bv] 57)
  have hA2 := (Below.heap_alloc (w.alloc (.cells #[.int .i64 f.root, .string f.pkg, .string f.name, .bool f.init, .int .i64 f.stamp, bv] 57)) (.cells #[.int .i64 0, .string ByteArray.empty, .bool false, .int .i64 0, .int .i64 0, .int .i64 0, .int .i64 0, .slice none 0 0] 54) w.heap.size (by simp)).trans hA
  have hZ2 := heap_alloc2_new w (.cells #[.int .i64 f.root, .string f.pkg, .string f.name, .bool f.init, .int .i64 f.stamp, bv] 57) (.cells #[.int .i64 0, .string ByteArray.empty, .bool false, .int .i64 0, .int .i64 0, .int .i64 0, .int .i64 0, .slice none 0 0] 54)
  have hc1 := fun W (h : Gr w W) => svalidFile_any (f, bv) W (hok.gr h) (SlR.below hb h hhi) (Nat.le_trans hhi h.size) hp hn hsm
  have hc2 := fun W (h : Gr w W) (q : okFil f = true) => scompiled_any f bv mode W q (SlR.below hb h hhi) (Nat.le_trans hhi h.size) hp hn hl ht
  have HA := Lib.hid hA2
  have HZ := Lib.hid hZ2
  have HC1 := Lib.hid hc1
  have HC2 := Lib.hid hc2
  clear hA hA2 hZ2 hc1 hc2 hb hsm
  obtain ⟨C, hC⟩ : ∃ C, C = fCompile f mode := ⟨_, rfl⟩
  rw [← hC]
  go_enter Tryd.func37, Tryd.ntmps37
  go_wp2_with fail
  refine (HC1.out _ hg0).mono ?_
  rintro e w1 ⟨rfl, hb1⟩
  have hg1 := hg0.tr hb1
  have hs1 := hb1.size
  simp at hs1
  have HZ1 := Lib.hid ((hb1.block (w.heap.size + 1) (by simp)).trans HZ.out)
  obtain ⟨d0, d1, d2, d3, d4, d5⟩ := cells6 HA.out hb1
  by_cases hv : okFil f = true
  · simp only [hv]
    go_wp2_with fail
    refine (inRange_any _ _ _ _).mono ?_
    rintro e w' ⟨rfl, rfl⟩
    by_cases hm : 0 ≤ mode ∧ mode ≤ 2
    · have hCe := hC.trans (fCompile_ok hv hm.1 hm.2)
      clear hC
      subst hCe
      have hm1 : decide (0 ≤ mode) = true := decide_eq_true hm.1
      have hm2 : decide (mode ≤ 2) = true := decide_eq_true hm.2
      clear hm
      go_wp2_with fail
      refine (HC2.out _ hg1 hv).mono ?_
      rintro e w3 ⟨u, rfl, ho3, hb3⟩
      have hg3 := hg1.tr hb3
      obtain ⟨ua, uc, rfl, _, _⟩ := ho3.form
      have HZ3 := Lib.hid ((hb3.block (w.heap.size + 1) (by omega)).trans HZ1.out)
      obtain ⟨⟨a0, a1, a2, a3, a4, a5, a6, a7⟩, b0, b1, b2, b3, b4, b5, b6, b7⟩ := rows8 HZ3.out
      have hput := put8 HZ3.out (.int .i64 (cmpOf f mode).root) (.string (cmpOf f mode).mod) (.bool (cmpOf f mode).init) (.int .i64 (cmpOf f mode).mode) (.int .i64 (cmpOf f mode).stamp) (.int .i64 (cmpOf f mode).size) (.int .i64 (cmpOf f mode).hash) (.slice ua (cmpOf f mode).body.length uc)
      go_wp2
      refine bodyPost_ret (results_cell_row rfl _ _ (w.heap.size + 1) 54 _ (0, 0) _ rfl hput.1 Tryd.underlying54 rfl (by kernel_rfl)) rfl ?_
      refine ⟨_, rfl, Own.keep (ho3.mono hg1.size) (fun b hb => hput.2.block b (ho3.block b hb).2 ?_), hg3.grown hput.2 (by have := hg3.size; omega) (fun b hb => by injection hb with hb; omega)⟩
      intro q; injection q with q; have h1 := (ho3.block b hb).1; omega
    · have hCe := hC.trans (fCompile_mode hm)
      clear hC
      subst hCe
      have hm1 : (decide (0 ≤ mode) && decide (mode ≤ 2)) = false := by
        rw [Bool.eq_false_iff]; simpa using hm
      clear hm
      rw [hm1]
      obtain ⟨⟨a0, a1, a2, a3, a4, a5, a6, a7⟩, b0, b1, b2, b3, b4, b5, b6, b7⟩ := rows8 HZ1.out
      have hput := put8 HZ1.out (.int .i64 0) (.string ByteArray.empty) (.bool false) (.int .i64 0) (.int .i64 0) (.int .i64 0) (.int .i64 0) (.slice none 0 0)
      go_wp2
      refine bodyPost_ret (results_cell_row rfl _ _ (w.heap.size + 1) 54 _ (0, 0) _ rfl hput.1 Tryd.underlying54 rfl (by kernel_rfl)) rfl ?_
      exact ⟨.slice none 0 0, rfl, Own.nil _ _ _ _ _, hg1.grown hput.2 (by have := hg1.size; omega) (fun b hb => by injection hb with hb; omega)⟩
  · have hCe := hC.trans (fCompile_bad ((Bool.not_eq_true _).mp hv))
    clear hC
    subst hCe
    simp only [(Bool.not_eq_true _).mp hv]
    obtain ⟨⟨a0, a1, a2, a3, a4, a5, a6, a7⟩, b0, b1, b2, b3, b4, b5, b6, b7⟩ := rows8 HZ1.out
    have hput := put8 HZ1.out (.int .i64 0) (.string ByteArray.empty) (.bool false) (.int .i64 0) (.int .i64 0) (.int .i64 0) (.int .i64 0) (.slice none 0 0)
    go_wp2
    refine bodyPost_ret (results_cell_row rfl _ _ (w.heap.size + 1) 54 _ (0, 0) _ rfl hput.1 Tryd.underlying54 rfl (by kernel_rfl)) rfl ?_
    exact ⟨.slice none 0 0, rfl, Own.nil _ _ _ _ _, hg1.grown hput.2 (by have := hg1.size; omega) (fun b hb => by injection hb with hb; omega)⟩
set_option maxHeartbeats 3200000 in
theorem iCompileFile_any {lo hi : Nat} (f : Fil) (bv : Value) (mode : Int) (w : World) (hok : OkW w) (hb : BodyR w lo hi (f, bv)) (hhi : hi ≤ w.heap.size) (hp : f.pkg.size ≤ 4194304) (hn : f.name.size ≤ 4194304) (hl : f.body.length ≤ 16777216) (ht : totB f.body ≤ 16777216) :
    Calls Tryd.prog 35 #[vF (f, bv), .int .i64 mode] w (DComp w (fCompile f mode)) := by
  have hsm : ∀ s ∈ f.body, szSt s ≤ 16777216 := fun s hs => Nat.le_trans (totB_mem hs) ht
  have hg0 : Gr w ((w.alloc (.cells #[.int .i64 f.root, .string f.pkg, .string f.name, .bool f.init, .int .i64 f.stamp, bv] 57)).alloc (.cells #[.int .i64 0, .string ByteArray.empty, .bool false, .int .i64 0, .int .i64 0, .int .i64 0, .int .i64 0, .slice none 0 0] 54)) := gr_al2 w _ _
  have hb' : SlR w lo hi 5 eSt bv f.body := hb
  obtain ⟨ua, uc, rfl, _, _⟩ := hb'.form
  clear hb'
  have hA := heap_alloc_new w (.cells #[.int .i64 f.root, .string f.pkg, .string f.name, .bool f.init, .int .i64 f.stamp, .slice ua f.body.length uc] 57)
  have hA2 := (Below.heap_alloc (w.alloc (.cells #[.int .i64 f.root, .string f.pkg, .string f.name, .bool f.init, .int .i64 f.stamp, .slice ua f.body.length uc] 57)) (.cells #[.int .i64 0, .string ByteArray.empty, .bool false, .int .i64 0, .int .i64 0, .int .i64 0, .int .i64 0, .slice none 0 0] 54) w.heap.size (by simp)).trans hA
  have hZ2 := heap_alloc2_new w (.cells #[.int .i64 f.root, .string f.pkg, .string f.name, .bool f.init, .int .i64 f.stamp, .slice ua f.body.length uc] 57) (.cells #[.int .i64 0, .string ByteArray.empty, .bool false, .int .i64 0, .int .i64 0, .int .i64 0, .int .i64 0, .slice none 0 0] 54)
  have hall : ∀ W, Gr ((w.alloc (.cells #[.int .i64 f.root, .string f.pkg, .string f.name, .bool f.init, .int .i64 f.stamp, .slice ua f.body.length uc] 57)).alloc (.cells #[.int .i64 0, .string ByteArray.empty, .bool false, .int .i64 0, .int .i64 0, .int .i64 0, .int .i64 0, .slice none 0 0] 54)) W → Gr w W ∧ (W.cell? ⟨w.heap.size, 0, none⟩ = some (.int .i64 f.root) ∧ W.cell? ⟨w.heap.size, 1, none⟩ = some (.string f.pkg) ∧ W.cell? ⟨w.heap.size, 2, none⟩ = some (.string f.name) ∧ W.cell? ⟨w.heap.size, 3, none⟩ = some (.bool f.init) ∧ W.cell? ⟨w.heap.size, 4, none⟩ = some (.int .i64 f.stamp) ∧ W.cell? ⟨w.heap.size, 5, none⟩ = some (.slice ua f.body.length uc)) :=
    fun W h => ⟨hg0.tr h, cells6 hA2 h⟩
  have hall2 : ∀ W, Gr w W → W.heap[w.heap.size]? = some (.cells #[.int .i64 f.root, .string f.pkg, .string f.name, .bool f.init, .int .i64 f.stamp, .slice ua f.body.length uc] 57 (0, 0)) → Gr w W ∧ (W.cell? ⟨w.heap.size, 0, none⟩ = some (.int .i64 f.root) ∧ W.cell? ⟨w.heap.size, 1, none⟩ = some (.string f.pkg) ∧ W.cell? ⟨w.heap.size, 2, none⟩ = some (.string f.name) ∧ W.cell? ⟨w.heap.size, 3, none⟩ = some (.bool f.init) ∧ W.cell? ⟨w.heap.size, 4, none⟩ = some (.int .i64 f.stamp) ∧ W.cell? ⟨w.heap.size, 5, none⟩ = some (.slice ua f.body.length uc)) :=
    fun W h q => ⟨h, cells6 q (Gr.rfl' W)⟩
  have hrow : ∀ W, Gr ((w.alloc (.cells #[.int .i64 f.root, .string f.pkg, .string f.name, .bool f.init, .int .i64 f.stamp, .slice ua f.body.length uc] 57)).alloc (.cells #[.int .i64 0, .string ByteArray.empty, .bool false, .int .i64 0, .int .i64 0, .int .i64 0, .int .i64 0, .slice none 0 0] 54)) W → W.heap[w.heap.size]? = some (.cells #[.int .i64 f.root, .string f.pkg, .string f.name, .bool f.init, .int .i64 f.stamp, .slice ua f.body.length uc] 57 (0, 0)) :=
    fun W h => (h.block w.heap.size (by simp <;> omega)).trans hA2
  have hzr : ∀ W, Gr ((w.alloc (.cells #[.int .i64 f.root, .string f.pkg, .string f.name, .bool f.init, .int .i64 f.stamp, .slice ua f.body.length uc] 57)).alloc (.cells #[.int .i64 0, .string ByteArray.empty, .bool false, .int .i64 0, .int .i64 0, .int .i64 0, .int .i64 0, .slice none 0 0] 54)) W → W.heap[w.heap.size + 1]? = some (.cells #[.int .i64 0, .string ByteArray.empty, .bool false, .int .i64 0, .int .i64 0, .int .i64 0, .int .i64 0, .slice none 0 0] 54 (0, 0)) := fun W h => (h.block (w.heap.size + 1) (by simp)).trans hZ2
  have hc1 := fun W (h : Gr w W) => ifileOk_any (f, .slice ua f.body.length uc) W (hok.gr h) (SlR.below hb h hhi) (Nat.le_trans hhi h.size) hp hn hsm
  have hc2 := fun W (h : Gr w W) => iModuleOf_any (f, .slice ua f.body.length uc) W (hok.gr h) (SlR.below hb h hhi) (Nat.le_trans hhi h.size) hp hn hsm
  have hc3 := fun W (h : Gr w W) => iSizeOf_any (.slice ua f.body.length uc) f.body W (SlR.below hb h hhi) (Nat.le_trans hhi h.size) hl ht (hok.gr h)
  have hc4 := fun W (h : Gr w W) => iHashOf_any (.slice ua f.body.length uc) f.body W (SlR.below hb h hhi) (Nat.le_trans hhi h.size) hsm (hok.gr h)
  have hc5 := fun W (h : Gr w W) => icloneBody_any (.slice ua f.body.length uc) f.body W (SlR.below hb h hhi) (Nat.le_trans hhi h.size) hl
  have HALL := Lib.hid hall
  have HALL2 := Lib.hid hall2
  have HROW := Lib.hid hrow
  have HZR := Lib.hid hzr
  have HC1 := Lib.hid hc1
  have HC2 := Lib.hid hc2
  have HC3 := Lib.hid hc3
  have HC4 := Lib.hid hc4
  have HC5 := Lib.hid hc5
  clear hall hall2 hrow hzr hA hA2 hZ2 hc1 hc2 hc3 hc4 hc5 hb hsm
  obtain ⟨C, hC⟩ : ∃ C, C = fCompile f mode := ⟨_, rfl⟩
  rw [← hC]
  go_enter Tryd.func35, Tryd.ntmps35
  go_wp2_with fail
  refine (HC1.out _ hg0).mono ?_
  rintro e w1 ⟨rfl, hb1⟩
  have hg1 := hg0.tr hb1
  have hs1 := hb1.size
  simp at hs1
  have HZ1 := Lib.hid (HZR.out _ hb1)
  have hv1 := (HALL.out _ hb1).2
  obtain ⟨d0, d1, d2, d3, d4, d5⟩ := hv1
  by_cases hv : okFil f = true
  · simp only [hv]
    go_wp2_with fail
    refine (imodeOk_any _ _).mono ?_
    rintro e w' ⟨rfl, rfl⟩
    by_cases hm : 0 ≤ mode ∧ mode ≤ 2
    · have hm1 : decide (0 ≤ mode) = true := decide_eq_true hm.1
      have hm2 : decide (mode ≤ 2) = true := decide_eq_true hm.2
      have hbd := okFil_body hv
      obtain ⟨M, hM⟩ : ∃ M, M = mk (nameP f) := ⟨_, rfl⟩
      obtain ⟨Sz, hSz⟩ : ∃ Sz : Int, Sz = ((3 * f.body.length + totB f.body : Nat) : Int) := ⟨_, rfl⟩
      obtain ⟨Hs, hHs⟩ : ∃ Hs, Hs = hashP f.body := ⟨_, rfl⟩
      have hc2 := HC2.out
      have hc3 := HC3.out
      have hc4 := HC4.out
      simp only [fMod_ok hv, fSize_at hbd, fHash_at hbd] at hc2 hc3 hc4
      rw [← hM] at hc2
      rw [← hSz] at hc3
      rw [← hHs] at hc4
      have hCe : C = ⟨f.root, M, f.init, mode, f.stamp, Sz, Hs, f.body⟩ := by rw [hC, fCompile_ok hv hm.1 hm.2, cmpOf, hM, hSz, hHs]
      clear hC
      subst hCe
      have HC2 := Lib.hid hc2
      have HC3 := Lib.hid hc3
      have HC4 := Lib.hid hc4
      clear hm hc2 hc3 hc4 hM hSz hHs hbd
      go_wp2
      refine wp_region_held_drew (S := (fun W => Gr w W ∧ (W.cell? ⟨w.heap.size, 0, none⟩ = some (.int .i64 f.root) ∧ W.cell? ⟨w.heap.size, 1, none⟩ = some (.string f.pkg) ∧ W.cell? ⟨w.heap.size, 2, none⟩ = some (.string f.name) ∧ W.cell? ⟨w.heap.size, 3, none⟩ = some (.bool f.init) ∧ W.cell? ⟨w.heap.size, 4, none⟩ = some (.int .i64 f.stamp) ∧ W.cell? ⟨w.heap.size, 5, none⟩ = some (.slice ua f.body.length uc)))) (by kernel_rfl) (HALL.out _ (below_drewN hb1 1)) (fun hS0 => ?_)
      have hG0 : Gr _ _ := below_drewN hb1 1
      refine wpAnyH_take (i := 0) (v := ?_) rfl (by kernel_rfl) (by kernel_rfl) (by kernel_rfl) (fun _ _ _ h => h) (Or.inl ⟨by rfl, ?_⟩) hS0 ?_
      rotate_left
      · (intro W hSw; (try dsimp only at hSw); go_simp; try (with_reducible rfl))
      try simp only [Act.put, List.getElem_toArray, List.getElem_cons_succ, List.getElem_cons_zero, List.setIfInBounds_toArray, List.set_cons_zero, List.set_cons_succ]
      refine wpAnyH_take (i := 1) (v := ?_) rfl (by kernel_rfl) (by kernel_rfl) (by kernel_rfl) (fun _ _ _ h => h) (Or.inl ⟨by rfl, ?_⟩) hS0 ?_
      rotate_left
      · (intro W hSw; (try dsimp only at hSw); go_simp; try (with_reducible rfl))
      try simp only [Act.put, List.getElem_toArray, List.getElem_cons_succ, List.getElem_cons_zero, List.setIfInBounds_toArray, List.set_cons_zero, List.set_cons_succ]
      refine wpAnyH_take (i := 2) (v := ?_) rfl (by kernel_rfl) (by kernel_rfl) (by kernel_rfl) (fun _ _ _ h => h) (Or.inl ⟨by rfl, ?_⟩) hS0 ?_
      rotate_left
      · (intro W hSw; (try dsimp only at hSw); go_simp; try (with_reducible rfl))
      try simp only [Act.put, List.getElem_toArray, List.getElem_cons_succ, List.getElem_cons_zero, List.setIfInBounds_toArray, List.set_cons_zero, List.set_cons_succ]
      refine wpAnyH_take (i := 4) (v := ?_) rfl (by kernel_rfl) (by kernel_rfl) (by kernel_rfl) (fun _ _ _ h => h) (Or.inl ⟨by rfl, ?_⟩) hS0 ?_
      rotate_left
      · (intro W hSw; (try dsimp only at hSw); go_simp; try (with_reducible rfl))
      try simp only [Act.put, List.getElem_toArray, List.getElem_cons_succ, List.getElem_cons_zero, List.setIfInBounds_toArray, List.set_cons_zero, List.set_cons_succ]
      refine wpAnyH_take (i := 5) (v := ?_) rfl (by kernel_rfl) (by kernel_rfl) (by kernel_rfl) (fun _ _ _ h => h) (Or.inl ⟨by rfl, ?_⟩) hS0 ?_
      rotate_left
      · (intro W hSw; (try dsimp only at hSw); go_simp; try (with_reducible rfl))
      try simp only [Act.put, List.getElem_toArray, List.getElem_cons_succ, List.getElem_cons_zero, List.setIfInBounds_toArray, List.set_cons_zero, List.set_cons_succ]
      refine wpAnyH_take (i := 6) (v := ?_) rfl (by kernel_rfl) (by kernel_rfl) (by kernel_rfl) (fun _ _ _ h => h) (Or.inl ⟨by rfl, ?_⟩) hS0 ?_
      rotate_left
      · (intro W hSw; (try dsimp only at hSw); go_simp; try (with_reducible rfl))
      try simp only [Act.put, List.getElem_toArray, List.getElem_cons_succ, List.getElem_cons_zero, List.setIfInBounds_toArray, List.set_cons_zero, List.set_cons_succ]
      refine wpAnyH_take (i := 7) (v := ?_) rfl (by kernel_rfl) (by kernel_rfl) (by kernel_rfl) (fun _ _ _ h => h) (Or.inl ⟨by rfl, ?_⟩) hS0 ?_
      rotate_left
      · (intro W hSw; (try dsimp only at hSw); go_simp; try (with_reducible rfl))
      try simp only [Act.put, List.getElem_toArray, List.getElem_cons_succ, List.getElem_cons_zero, List.setIfInBounds_toArray, List.set_cons_zero, List.set_cons_succ]
      refine wpAnyH_take (i := 8) (v := ?_) rfl (by kernel_rfl) (by kernel_rfl) (by kernel_rfl) (fun _ _ _ h => h) (Or.inl ⟨by rfl, ?_⟩) hS0 ?_
      rotate_left
      · (intro W hSw; (try dsimp only at hSw); go_simp; try (with_reducible rfl))
      try simp only [Act.put, List.getElem_toArray, List.getElem_cons_succ, List.getElem_cons_zero, List.setIfInBounds_toArray, List.set_cons_zero, List.set_cons_succ]
      refine wpAnyH_take (i := 9) (v := ?_) rfl (by kernel_rfl) (by kernel_rfl) (by kernel_rfl) (fun _ _ _ h => h) (Or.inl ⟨by rfl, ?_⟩) hS0 ?_
      rotate_left
      · (intro W hSw; (try dsimp only at hSw); go_simp; try (with_reducible rfl))
      try simp only [Act.put, List.getElem_toArray, List.getElem_cons_succ, List.getElem_cons_zero, List.setIfInBounds_toArray, List.set_cons_zero, List.set_cons_succ]
      refine wpAnyH_take (i := 10) (v := ?_) rfl (by kernel_rfl) (by kernel_rfl) (by kernel_rfl) (fun _ _ _ h => h) (Or.inl ⟨by rfl, ?_⟩) hS0 ?_
      rotate_left
      · (intro W hSw; (try dsimp only at hSw); go_simp; try (with_reducible rfl))
      try simp only [Act.put, List.getElem_toArray, List.getElem_cons_succ, List.getElem_cons_zero, List.setIfInBounds_toArray, List.set_cons_zero, List.set_cons_succ]
      refine wpAnyH_take (i := 12) (v := ?_) rfl (by kernel_rfl) (by kernel_rfl) (by kernel_rfl) (fun _ _ _ h => h) (Or.inl ⟨by rfl, ?_⟩) hS0 ?_
      rotate_left
      · (intro W hSw; (try dsimp only at hSw); go_simp; try (with_reducible rfl))
      try simp only [Act.put, List.getElem_toArray, List.getElem_cons_succ, List.getElem_cons_zero, List.setIfInBounds_toArray, List.set_cons_zero, List.set_cons_succ]
      refine wpAnyH_take (i := 13) (v := ?_) rfl (by kernel_rfl) (by kernel_rfl) (by kernel_rfl) (fun _ _ _ h => h) (Or.inl ⟨by rfl, ?_⟩) hS0 ?_
      rotate_left
      · (intro W hSw; (try dsimp only at hSw); go_simp; try (with_reducible rfl))
      try simp only [Act.put, List.getElem_toArray, List.getElem_cons_succ, List.getElem_cons_zero, List.setIfInBounds_toArray, List.set_cons_zero, List.set_cons_succ]
      refine wpAnyH_take (i := 15) (v := ?_) rfl (by kernel_rfl) (by kernel_rfl) (by kernel_rfl) (fun _ _ _ h => h) (Or.inl ⟨by rfl, ?_⟩) hS0 ?_
      rotate_left
      · (intro W hSw; (try dsimp only at hSw); go_simp; try (with_reducible rfl))
      try simp only [Act.put, List.getElem_toArray, List.getElem_cons_succ, List.getElem_cons_zero, List.setIfInBounds_toArray, List.set_cons_zero, List.set_cons_succ]
      refine wpAnyH_take (i := 16) (v := ?_) rfl (by kernel_rfl) (by kernel_rfl) (by kernel_rfl) (fun _ _ _ h => h) (Or.inl ⟨by rfl, ?_⟩) hS0 ?_
      rotate_left
      · (intro W hSw; (try dsimp only at hSw); go_simp; try (with_reducible rfl))
      try simp only [Act.put, List.getElem_toArray, List.getElem_cons_succ, List.getElem_cons_zero, List.setIfInBounds_toArray, List.set_cons_zero, List.set_cons_succ]
      refine wpAnyH_ready (rs := [3]) (by kernel_rfl) (by simp) ?_
      refine AllReadyH.cons rfl (fun K hK => ?_) AllReadyH.nil
      go_simp
      refine (HC2.out _ hS0.1).mono ?_
      rintro e w5 ⟨rfl, hb5⟩
      try go_wp2_with fail
      refine hK.out _ _ (HALL.out _ (hG0.tr hb5)) (fun hS1 => ?_)
      clear hK K
      try simp only [Act.put, List.getElem_toArray, List.getElem_cons_succ, List.getElem_cons_zero, List.setIfInBounds_toArray, List.set_cons_zero, List.set_cons_succ]
      have hG1 := hG0.tr hb5
      refine wpAnyH_ready (rs := [11]) (by kernel_rfl) (by simp) ?_
      refine AllReadyH.cons rfl (fun K hK => ?_) AllReadyH.nil
      go_simp
      refine (HC3.out _ hS1.1).mono ?_
      rintro e w6 ⟨rfl, hb6⟩
      try go_wp2_with fail
      refine hK.out _ _ (HALL.out _ (hG1.tr hb6)) (fun hS2 => ?_)
      clear hK K
      try simp only [Act.put, List.getElem_toArray, List.getElem_cons_succ, List.getElem_cons_zero, List.setIfInBounds_toArray, List.set_cons_zero, List.set_cons_succ]
      have hG2 := hG1.tr hb6
      refine wpAnyH_ready (rs := [14]) (by kernel_rfl) (by simp) ?_
      refine AllReadyH.cons rfl (fun K hK => ?_) AllReadyH.nil
      go_simp
      refine (HC4.out _ hS2.1).mono ?_
      rintro e w7 ⟨rfl, hb7⟩
      try go_wp2_with fail
      refine hK.out _ _ (HALL.out _ (hG2.tr hb7)) (fun hS3 => ?_)
      clear hK K
      try simp only [Act.put, List.getElem_toArray, List.getElem_cons_succ, List.getElem_cons_zero, List.setIfInBounds_toArray, List.set_cons_zero, List.set_cons_succ]
      have hG3 := hG2.tr hb7
      refine wpAnyH_ready (rs := [17]) (by kernel_rfl) (by simp) ?_
      refine AllReadyH.cons rfl (fun K hK => ?_) AllReadyH.nil
      go_simp
      refine (HC5.out _ hS3.1).mono ?_
      rintro e wA ⟨u, rfl, hoA, hb8⟩
      try go_wp2_with fail
      refine hK.out _ _ (HALL.out _ (hG3.tr hb8)) (fun hSA => ?_)
      clear hK K
      try simp only [Act.put, List.getElem_toArray, List.getElem_cons_succ, List.getElem_cons_zero, List.setIfInBounds_toArray, List.set_cons_zero, List.set_cons_succ]
      have hGA := hG3.tr hb8
      have hw7s := hG3.size
      simp at hw7s
      obtain ⟨za, zc, rfl, _, _⟩ := hoA.form
      refine wpAnyH_take (i := 18) (v := ?_) rfl (by kernel_rfl) (by kernel_rfl) (by kernel_rfl) (fun _ _ _ h => h) (Or.inl ⟨by rfl, ?_⟩) hSA ?_
      rotate_left
      · (intro W hSw; (try dsimp only at hSw); go_simp; try (with_reducible rfl))
      try simp only [Act.put, List.getElem_toArray, List.getElem_cons_succ, List.getElem_cons_zero, List.setIfInBounds_toArray, List.set_cons_zero, List.set_cons_succ]
      obtain ⟨⟨a0, a1, a2, a3, a4, a5, a6, a7⟩, b0, b1, b2, b3, b4, b5, b6, b7⟩ := rows8 (HZR.out wA hGA)
      have hput := put8 (HZR.out wA hGA) (.int .i64 f.root) (.string M) (.bool f.init) (.int .i64 mode) (.int .i64 f.stamp) (.int .i64 Sz) (.int .i64 Hs) (.slice za f.body.length zc)
      have hne1 : ¬ w.heap.size + 1 = w.heap.size := by omega
      have hSE := HALL2.out _ (hSA.1.grown hput.2 (by have := hSA.1.size; omega) (fun b hb => by injection hb with hb; omega)) ((hput.2.block _ (by have := hGA.size; simp at this; omega) (by intro q; injection q with q; omega)).trans (HROW.out wA hGA))
      refine wpAnyH_ready (rs := [19]) (by kernel_rfl) (by simp) ?_
      refine AllReadyH.cons rfl (fun K hK => ?_) AllReadyH.nil
      go_simp
      refine hK.out _ _ hSE (fun _ => ?_)
      clear hK K
      try simp only [Act.put, List.getElem_toArray, List.getElem_cons_succ, List.getElem_cons_zero, List.setIfInBounds_toArray, List.set_cons_zero, List.set_cons_succ]
      refine wpAnyH_done (by kernel_rfl) ?_ _
      go_wp2
      refine bodyPost_ret (results_cell_row rfl _ _ (w.heap.size + 1) 54 _ (0, 0) _ rfl hput.1 Tryd.underlying54 rfl (by kernel_rfl)) rfl ?_
      refine ⟨_, rfl, Own.keep (hoA.mono (by omega)) (fun b hb => hput.2.block b (hoA.block b hb).2 ?_), hSE.1⟩
      intro q; injection q with q; have h1 := (hoA.block b hb).1; omega
    · have hCe := hC.trans (fCompile_mode hm)
      clear hC
      subst hCe
      have hm1 : (decide (0 ≤ mode) && decide (mode ≤ 2)) = false := by
        rw [Bool.eq_false_iff]; simpa using hm
      clear hm
      rw [hm1]
      obtain ⟨⟨a0, a1, a2, a3, a4, a5, a6, a7⟩, b0, b1, b2, b3, b4, b5, b6, b7⟩ := rows8 HZ1.out
      have hput := put8 HZ1.out (.int .i64 0) (.string ByteArray.empty) (.bool false) (.int .i64 0) (.int .i64 0) (.int .i64 0) (.int .i64 0) (.slice none 0 0)
      go_wp2
      refine bodyPost_ret (results_cell_row rfl _ _ (w.heap.size + 1) 54 _ (0, 0) _ rfl hput.1 Tryd.underlying54 rfl (by kernel_rfl)) rfl ?_
      exact ⟨.slice none 0 0, rfl, Own.nil _ _ _ _ _, hg1.grown hput.2 (by have := hg1.size; omega) (fun b hb => by injection hb with hb; omega)⟩
  · have hCe := hC.trans (fCompile_bad ((Bool.not_eq_true _).mp hv))
    clear hC
    subst hCe
    simp only [(Bool.not_eq_true _).mp hv]
    obtain ⟨⟨a0, a1, a2, a3, a4, a5, a6, a7⟩, b0, b1, b2, b3, b4, b5, b6, b7⟩ := rows8 HZ1.out
    have hput := put8 HZ1.out (.int .i64 0) (.string ByteArray.empty) (.bool false) (.int .i64 0) (.int .i64 0) (.int .i64 0) (.int .i64 0) (.slice none 0 0)
    go_wp2
    refine bodyPost_ret (results_cell_row rfl _ _ (w.heap.size + 1) 54 _ (0, 0) _ rfl hput.1 Tryd.underlying54 rfl (by kernel_rfl)) rfl ?_
    exact ⟨.slice none 0 0, rfl, Own.nil _ _ _ _ _, hg1.grown hput.2 (by have := hg1.size; omega) (fun b hb => by injection hb with hb; omega)⟩
end Go.Proofs.YteccopgnlbphbaaDoor
