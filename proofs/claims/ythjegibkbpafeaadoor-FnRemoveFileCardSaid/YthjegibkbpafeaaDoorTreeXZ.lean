/-
  Walk of the law on files removed: the others stay. Printed by treew.py.
-/
import Derived.Test.YthjegibkbpafeaaDoorTreeWZ
import Derived.Test.YthjegibkbpafeaaDoorZ7
namespace Imp
open Go Go.RowKit
theorem without_at {T : List Fil} {j k : Nat} (h : k < (T.take j ++ T.drop (j + 1)).length) (hj : j < T.length) : (T.take j ++ T.drop (j + 1))[k] = T[if k < j then k else k + 1]'(by rw [List.length_append, List.length_take, List.length_drop] at h; split <;> omega) := by
  by_cases hk : k < j
  · rw [List.getElem_append_left (by rw [List.length_take]; omega), List.getElem_take]
    simp only [if_pos hk]
  · rw [List.getElem_append_right (by rw [List.length_take]; omega), List.getElem_drop]
    simp only [if_neg hk, List.length_take]
    congr 1
    omega
end Imp
namespace Go.Proofs.YthjegibkbpafeaaDoor
open Go Go.RowKit Imp
set_option linter.unusedVariables false
set_option linter.unusedSimpArgs false
def DrawnTreeI (w : World) (e : Ending) (w' : World) : Prop :=
  ∃ u, ∃ M : List FR, ∃ i : Int, e = .returned (.tuple #[.agg #[u], .int .i64 i]) ∧ FlR w' 0 w'.heap.size u M ∧ M.length ≤ 11 ∧ (∀ r ∈ M, SmFt r.1) ∧ (-1 ≤ i ∧ i ≤ 12) ∧ Gr w w'
set_option maxHeartbeats 1600000 in
theorem DrawRemoveFile_any {lo hi : Nat} (v : Value) (L : List UInt8) (w : World) (hv : SlR w lo hi 1 eB v L) (hhi : hi ≤ w.heap.size) (hl : L.length ≤ 1048576) :
    Calls Tryd.prog 13 #[v] w (DrawnTreeI w) := by
  have hg0 := gr_al w (.cells #[.slice none 0 0] 29)
  have hr0 := newReader_any v L (w.alloc (.cells #[.slice none 0 0] 29)) (hv.below hg0 hhi) (by simp; omega) hl
  have HR0 := Lib.hid hr0
  clear hr0
  go_enter Tryd.func13, Tryd.ntmps13
  go_wp2_with fail
  refine HR0.out.mono ?_
  rintro e w1 ⟨rfl, hr, hsz, hb⟩
  have hsz' : w1.heap.size = w.heap.size + 1 + 1 := by rw [hsz]; simp
  have hz1 := (hb.block w.heap.size (by simp)).trans (heap_alloc_new w _)
  simp only [World.size_alloc] at hr
  go_wp2_with fail
  refine (anyTree_any (w.heap.size + 1) 0 w1 hr (by omega)).mono ?_
  rintro e w2 ⟨u, M, p', rfl, hfl, hll, hsm, hr2, hp', hg⟩
  obtain ⟨ua, uc, rfl, _, _⟩ := hfl.1.form
  have hz2 := keep_blk hz1 hg (by omega)
  have hs2 : w.heap.size + 2 ≤ w2.heap.size := by have := hg.size; omega
  have hgU := gr_al w2 (.cells #[.slice ua M.length uc] 29)
  have hzU := heap_alloc_new w2 (.cells #[.slice ua M.length uc] 29)
  have hz3 := (hgU.block w.heap.size (lt_of_block hz2)).trans hz2
  have hr3 := hr2.al (.cells #[.slice ua M.length uc] 29)
  have hfl3 := Imp.FlR.keepS hfl (Same.of_below hgU (Nat.le_refl _))
  obtain ⟨n, hn⟩ : ∃ n, n = M.length := ⟨_, rfl⟩
  have hwr : IntKind.i64.wrap ((M.length : Int) + 1) = (M.length : Int) + 1 := IntWalk.i64_in _ (by omega)
  have hgg := hg0.tr hb
  obtain ⟨x5, xf5⟩ := row1 hzU
  have HPK := Lib.hid (pick_any (w.heap.size + 1) _ ((M.length : Int) + 1) ((w2.alloc (.cells #[.slice ua M.length uc] 29)).drewN 1) hr3 (by omega) (by omega))
  have HZ := Lib.hid hz3
  have HZU := Lib.hid hzU
  have HSM := Lib.hid hsm
  have HFL := Lib.hid hfl3
  clear hz1 hz2 hz3 hsm hfl hfl3 hzU hr hr2
  go_wp2
  refine wp_region_held_drew (S := (fun W => W.cell? ⟨w2.heap.size, 0, none⟩ = some (.slice ua M.length uc))) (by kernel_rfl) x5 (fun hS0 => ?_)
  refine wpAnyH_take (i := 0) (v := ?_) rfl (by kernel_rfl) (by kernel_rfl) (by kernel_rfl) (fun _ _ _ h => h) (Or.inl ⟨by rfl, ?_⟩) hS0 ?_
  rotate_left
  · (intro W hSw; (try dsimp only at hSw); go_simp; try (with_reducible rfl))
  try simp only [Act.put, List.getElem_toArray, List.getElem_cons_succ, List.getElem_cons_zero, List.setIfInBounds_toArray, List.set_cons_zero, List.set_cons_succ]
  refine wpAnyH_take (i := 1) (v := ?_) rfl (by kernel_rfl) (by kernel_rfl) (by kernel_rfl) (fun _ _ _ h => h) (Or.inl ⟨by rfl, ?_⟩) hS0 ?_
  rotate_left
  · (intro W hSw; (try dsimp only at hSw); go_simp; try (with_reducible rfl))
  try simp only [Act.put, List.getElem_toArray, List.getElem_cons_succ, List.getElem_cons_zero, List.setIfInBounds_toArray, List.set_cons_zero, List.set_cons_succ]
  refine wpAnyH_take (i := 2) (v := ?_) rfl (by kernel_rfl) (by kernel_rfl) (by kernel_rfl) (fun _ _ _ h => h) (Or.inl ⟨by rfl, ?_⟩) hS0 ?_
  rotate_left
  · (intro W hSw; (try dsimp only at hSw); go_simp; try (with_reducible rfl))
  try simp only [Act.put, List.getElem_toArray, List.getElem_cons_succ, List.getElem_cons_zero, List.setIfInBounds_toArray, List.set_cons_zero, List.set_cons_succ]
  refine wpAnyH_take (i := 3) (v := ?_) rfl (by kernel_rfl) (by kernel_rfl) (by kernel_rfl) (fun _ _ _ h => h) (Or.inl ⟨by rfl, ?_⟩) hS0 ?_
  rotate_left
  · (intro W hSw; (try dsimp only at hSw); go_simp; try (with_reducible rfl))
  try simp only [Act.put, List.getElem_toArray, List.getElem_cons_succ, List.getElem_cons_zero, List.setIfInBounds_toArray, List.set_cons_zero, List.set_cons_succ]
  refine wpAnyH_take (i := 4) (v := ?_) rfl (by kernel_rfl) (by kernel_rfl) (by kernel_rfl) (fun _ _ _ h => h) (Or.inl ⟨by rfl, ?_⟩) hS0 ?_
  rotate_left
  · (intro W hSw; (try dsimp only at hSw); go_simp; try (with_reducible rfl))
  try simp only [Act.put, List.getElem_toArray, List.getElem_cons_succ, List.getElem_cons_zero, List.setIfInBounds_toArray, List.set_cons_zero, List.set_cons_succ]
  refine wpAnyH_take (i := 5) (v := ?_) rfl (by kernel_rfl) (by kernel_rfl) (by kernel_rfl) (fun _ _ _ h => h) (Or.inl ⟨by rfl, ?_⟩) hS0 ?_
  rotate_left
  · (intro W hSw; (try dsimp only at hSw); go_simp; try (with_reducible rfl))
  try simp only [Act.put, List.getElem_toArray, List.getElem_cons_succ, List.getElem_cons_zero, List.setIfInBounds_toArray, List.set_cons_zero, List.set_cons_succ]
  refine wpAnyH_take (i := 6) (v := ?_) rfl (by kernel_rfl) (by kernel_rfl) (by kernel_rfl) (fun _ _ _ h => h) (Or.inl ⟨by rfl, ?_⟩) hS0 ?_
  rotate_left
  · (intro W hSw; (try dsimp only at hSw); go_simp; try (with_reducible rfl))
  try simp only [Act.put, List.getElem_toArray, List.getElem_cons_succ, List.getElem_cons_zero, List.setIfInBounds_toArray, List.set_cons_zero, List.set_cons_succ]
  refine wpAnyH_ready (rs := [7]) (by kernel_rfl) (by simp) ?_
  refine AllReadyH.cons rfl (fun K hK => ?_) AllReadyH.nil
  go_simp
  refine (HPK.out).mono ?_
  rintro e w4 ⟨q, rfl, hq0, hq1, hr4, hg4⟩
  try go_wp2_with fail
  refine hK.out _ _ (row1 (keep_blk HZU.out ⟨hg4.os, hg4.tape, hg4.output, hg4.size, hg4.block⟩ (by omega))).1 (fun hS1 => ?_)
  clear hK K
  try simp only [Act.put, List.getElem_toArray, List.getElem_cons_succ, List.getElem_cons_zero, List.setIfInBounds_toArray, List.set_cons_zero, List.set_cons_succ]
  have hg4' : (w2.alloc (.cells #[.slice ua M.length uc] 29)).grownBy w4 (some (w.heap.size + 1)) := ⟨hg4.os, hg4.tape, hg4.output, hg4.size, hg4.block⟩
  have hzU4 := keep_blk HZU.out hg4' (by omega)
  have HON := Lib.hid (one_lit (w.heap.size + 1) _ [0, q, 1, -1] w4 hr4 (by omega) (by simp) (by simp))
  refine wpAnyH_ready (rs := [8]) (by kernel_rfl) (by simp) ?_
  refine AllReadyH.cons rfl (fun K hK => ?_) (AllReadyH.nil)
  go_simp
  have gA := gr_al w4 (.cells #[.int .i64 0, .int .i64 q, .int .i64 1, .int .i64 (-1)] 3)
  refine hK.out _ _ (row1 ((gA.block _ (lt_of_block hzU4)).trans hzU4)).1 (fun hS2 => ?_)
  clear hK K
  try simp only [Act.put, List.getElem_toArray, List.getElem_cons_succ, List.getElem_cons_zero, List.setIfInBounds_toArray, List.set_cons_zero, List.set_cons_succ]
  refine wpAnyH_ready (rs := [9]) (by kernel_rfl) (by simp) ?_
  refine AllReadyH.cons rfl (fun K hK => ?_) AllReadyH.nil
  go_simp
  refine (HON.out).mono ?_
  rintro e w5 ⟨i, rfl, hi, hr5, hg5⟩
  try go_wp2_with fail
  refine hK.out _ _ (row1 (keep_blk hzU4 hg5 (by omega))).1 (fun hS3 => ?_)
  clear hK K
  try simp only [Act.put, List.getElem_toArray, List.getElem_cons_succ, List.getElem_cons_zero, List.setIfInBounds_toArray, List.set_cons_zero, List.set_cons_succ]
  have hz5 := keep_blk (keep_blk HZ.out hg4' (by omega)) hg5 (by omega)
  obtain ⟨x0, xf0⟩ := row1 hz5
  refine wpAnyH_ready (rs := [10]) (by kernel_rfl) (by simp) ?_
  refine AllReadyH.cons rfl (fun K hK => ?_) (AllReadyH.nil)
  go_simp
  refine hK.out _ _ (by rw [World.cell?_setCell_far _ _ _ _ (by show w.heap.size ≠ w2.heap.size; omega)]; exact hS3) (fun hS4 => ?_)
  clear hK K
  try simp only [Act.put, List.getElem_toArray, List.getElem_cons_succ, List.getElem_cons_zero, List.setIfInBounds_toArray, List.set_cons_zero, List.set_cons_succ]
  refine wpAnyH_take (i := 11) (v := ?_) rfl (by kernel_rfl) (by kernel_rfl) (by kernel_rfl) (fun _ _ _ h => h) (Or.inl ⟨by rfl, ?_⟩) hS4 ?_
  rotate_left
  · (intro W hSw; (try dsimp only at hSw); go_simp; try (with_reducible rfl))
  try simp only [Act.put, List.getElem_toArray, List.getElem_cons_succ, List.getElem_cons_zero, List.setIfInBounds_toArray, List.set_cons_zero, List.set_cons_succ]
  refine wpAnyH_done (by kernel_rfl) ?_ _
  have HZ5 := Lib.hid hz5
  clear hz5
  go_wp2
  refine bodyPost_ret (results_row_tmp rfl _ _ w.heap.size 29 _ (0, 0) _ _ rfl rfl (heap_set1 HZ5.out) Tryd.underlying29 rfl (by kernel_rfl)) rfl ?_
  have hq1 := hq1 (by omega)
  have hs4 := hg4'.size
  simp only [World.size_alloc] at hs4
  have hf4 := Imp.FlR.keepS HFL.out (Same.of_grown hg4' (by simp) (fun k hk => by injection hk with hk; left; omega))
  have hf5 := Imp.FlR.keepS hf4 (Same.of_grown hg5 (by omega) (fun k hk => by injection hk with hk; left; omega))
  refine ⟨_, M, i, rfl, ((hf5.setB (b := w.heap.size) (o := 0) (by omega)).mono' (Nat.zero_le _) (by have := hg5.size; simp [World.setCell]; omega)), hll, HSM.out, ?_, ?_⟩
  · simp only [List.mem_cons, List.not_mem_nil, or_false] at hi
    omega
  · have h1 := Gr.tr (hgg.grown hg (by omega) (fun b hb => by injection hb with hb; omega)) hgU
    have h2 := h1.grown hg4' h1.size (fun b hb => by injection hb with hb; omega)
    have h3 := h2.grown hg5 h2.size (fun b hb => by injection hb with hb; omega)
    exact h3.setCell (by show w.heap.size ≤ w.heap.size; omega) _
set_option maxRecDepth 100000 in
set_option maxHeartbeats 6400000 in
theorem walk_FnRemoveFile (w : World) (hok : OkW w) (v : Value) (L : List UInt8) (hv : SlR w 0 w.heap.size 1 eB v L) :
    Calls Tryd.prog 5 #[v] w fun e w' => e = .returned (.bool true) ∧ Below w.heap.size w w' := by
  have hlen := hv.len_le
  have hv0 := hv
  obtain ⟨a, c, rfl, _, _⟩ := hv.form
  unfold maxLen at hlen
  by_cases hbig : L.length ≤ 1048576
  · have hd : decide ((1048576 : Int) < (L.length : Int)) = false := decide_eq_false (by omega)
    go_enter Tryd.func5, Tryd.ntmps5
    go_wp2_with fail
    refine (DrawRemoveFile_any _ L _ hv0 (Nat.le_refl _) hbig).mono ?_
    rintro e w1 ⟨u, M, i, rfl, r1, hml, hms, hi, hb1⟩
    obtain ⟨a1, c1, rfl, hcc, hc2⟩ := r1.1.form
    have hok := hok.gr hb1
    have hst : ∀ s ∈ M, SmF s := fun s hs => smF_t (hms s hs)
    have hgT := gr_al w1 (.cells #[.slice a1 M.length c1] 29)
    have hzT := heap_alloc_new w1 (.cells #[.slice a1 M.length c1] 29)
    have hcT : ∀ W, Gr (w1.alloc (.cells #[.slice a1 M.length c1] 29)) W → W.cell? ⟨w1.heap.size, 0, none⟩ = some (.slice a1 M.length c1) := fun W h => (row1 ((h.block w1.heap.size (by simp)).trans hzT)).1
    obtain ⟨B, hB⟩ : ∃ B, B = (okTree (M.map (·.1)) && (decide (0 ≤ i) && decide (i ≤ (M.length : Int) - 1))) := ⟨_, rfl⟩
    have h1 := fun W (h : Gr w1 W) => iRemoveFile_any _ M i W (hok.gr h) (r1.below h (Nat.le_refl _)) h.size (by omega) (fun r hr => by have := (hms r hr).1; omega) hst
    have h2 := fun W (h : Gr w1 W) => sRemoveFile_any _ M i W (hok.gr h) (r1.below h (Nat.le_refl _)) h.size (by omega) (fun r hr => by have := (hms r hr).1; omega) hst
    simp only [← hB] at h1 h2
    obtain ⟨T, hT⟩ : ∃ T, T = ((M.map (·.1)).take i.toNat ++ (M.map (·.1)).drop (i.toNat + 1)) := ⟨_, rfl⟩
    simp only [← hT] at h1 h2
    have hc0 := hcT _ (Gr.rfl' _)
    have H1 := Lib.hid h1
    have H2 := Lib.hid h2
    have HCT := Lib.hid hcT
    have HB := Lib.hid hB
    have HT := Lib.hid hT
    have R1 := Lib.hid r1
    clear h1 h2 hcT hB hT r1 hzT hst hms
    go_wp2_with fail
    refine (H1.out _ hgT).mono ?_
    rintro e w3 ⟨u3, M3, rfl, hM3, ho3, hb3⟩
    obtain ⟨a3, c3, rfl, _, _⟩ := ho3.1.form
    have hg3 := gr_al w3 (.cells #[.slice a3 M3.length c3] 29)
    have hz3 := heap_alloc_new w3 (.cells #[.slice a3 M3.length c3] 29)
    have hr3 := ho3.flR2.mono' (Nat.zero_le _) (Nat.le_refl _)
    have hgA := hb3.tr hg3
    have hc3 := HCT.out _ hgA
    have HR3 := Lib.hid hr3
    have HZ3 := Lib.hid hz3
    have HM3 := Lib.hid hM3
    clear hc0 ho3 hr3 hz3 hM3
    go_wp2_with fail
    refine (H2.out _ (hgT.tr hgA)).mono ?_
    rintro e w4 ⟨u4, M4, rfl, hM4, ho4, hb4⟩
    obtain ⟨a4, c4, rfl, _, _⟩ := ho4.1.form
    have hg4 := gr_al w4 (.cells #[.slice a4 M4.length c4] 29)
    have hz4 := heap_alloc_new w4 (.cells #[.slice a4 M4.length c4] 29)
    have hr4 := ho4.flR2.mono' (Nat.zero_le _) (Nat.le_refl _)
    have hgB := hb4.tr hg4
    have he34 : M3.map (·.1) = M4.map (·.1) := by rw [HM3.out, hM4]
    have heq := fun W (h : Gr (w4.alloc (.cells #[.slice a4 M4.length c4] 29)) W) => equalTree_any _ _ M3 M4 W (HR3.out.below ((hg3.tr hgB).tr h) (Nat.le_refl _)) (hr4.below (hg4.tr h) (Nat.le_refl _)) he34 ((hg3.tr hgB).tr h).size (hg4.tr h).size
    have hcell : ∀ W, Gr (w4.alloc (.cells #[.slice a4 M4.length c4] 29)) W → W.cell? ⟨w1.heap.size, 0, none⟩ = some (.slice a1 M.length c1) ∧ W.cell? ⟨w3.heap.size, 0, none⟩ = some (.slice a3 M3.length c3) ∧ W.cell? ⟨w4.heap.size, 0, none⟩ = some (.slice a4 M4.length c4) := fun W h =>
      ⟨HCT.out W ((hgA.tr hgB).tr h), (row1 (((hgB.tr h).block w3.heap.size (by simp)).trans HZ3.out)).1, (row1 ((h.block w4.heap.size (by simp)).trans hz4)).1⟩
    have HEQ := Lib.hid heq
    have HCELL := Lib.hid hcell
    obtain ⟨x1, x3, x4⟩ := hcell _ (Gr.rfl' _)
    clear heq hcell hr4 hz4 ho4 he34 hM4 hc3
    go_wp2_with fail
    refine (HEQ.out _ (Gr.rfl' _)).mono ?_
    rintro e w5 ⟨rfl, hb5⟩
    obtain ⟨y1, y3, y4⟩ := HCELL.out _ hb5
    clear x1 x3 x4
    cases B
    · go_wp2_with fail
      refine (HEQ.out _ hb5).mono ?_
      rintro e w6 ⟨rfl, hb6⟩
      go_wp2
      go_ret
      exact ⟨rfl, ((((hb1.tr hgT).tr hgA).tr hgB).tr hb5).tr hb6⟩
    · have hBs := HB.out.symm
      simp only [Bool.and_eq_true, decide_eq_true_eq] at hBs
      obtain ⟨hB0, hi0, hi1⟩ := hBs
      obtain ⟨j, rfl⟩ : ∃ j : Nat, i = j := ⟨i.toNat, by omega⟩
      have hjl : j < M.length := by omega
      have hM3 := HM3.out
      simp only [if_true] at hM3
      rw [HT.out] at hM3
      simp only [Int.toNat_natCast] at hM3
      have hl3 : M3.length + 1 = M.length := by
        have h5 := without_len (T := M.map (·.1)) (j := j) (by rw [List.length_map]; exact hjl)
        rw [← hM3, List.length_map, List.length_map] at h5
        exact h5
      have hat : ∀ k (h : k < M3.length) q (h' : q < M.length), q = (if k < j then k else k + 1) → M3[k].1 = M[q].1 := by
        intro k h q h' hq
        subst hq
        have e1 : (M3.map (·.1))[k]'(by rw [List.length_map]; exact h) = ((M.map (·.1)).take j ++ (M.map (·.1)).drop (j + 1))[k]'(by rw [← hM3, List.length_map]; exact h) := by simp only [hM3]
        rw [without_at (by rw [← hM3, List.length_map]; exact h) (by rw [List.length_map]; exact hjl), List.getElem_map, List.getElem_map] at e1
        exact e1
      obtain ⟨h3w, h3b⟩ := HR3.out
      obtain ⟨hmw, hmb⟩ := R1.out
      obtain ⟨a3', c3', e3', h31, h32, h3⟩ := h3w
      injection e3' with e31 e32 e33
      subst e31; subst e33
      clear e32
      obtain ⟨a1', c1', e1', h11, h12, h3'⟩ := hmw
      injection e1' with e11 e12 e13
      subst e11; subst e13
      clear e12
      unfold maxLen at h32 h12
      have HAT := Lib.hid hat
      have HVB := Lib.hid h3b
      have HUB := Lib.hid hmb
      have HL3 := Lib.hid hl3
      clear hat h3b hmb hM3 hl3 hB0
      go_wp2
      go_loopw [9] (fun i wr => ∃ k : Nat, k ≤ M3.length ∧ i = .int .i64 k ∧ Gr (w4.alloc (.cells #[.slice a4 M4.length c4] 29)) wr) (fun i _ => M3.length - (intOf i).toNat)
      case atStart => exact ⟨0, Nat.zero_le _, rfl, hb5⟩
      case round =>
        obtain ⟨k, hk, rfl, hg6⟩ := hrel
        obtain ⟨z1, z3, z4⟩ := HCELL.out _ hg6
        have hgr1 : Gr w1 wr := ((hgT.tr hgA).tr hgB).tr hg6
        have hgr3 : Gr w3 wr := (hg3.tr hgB).tr hg6
        clear y1 y3 y4
        by_cases hlt : k < M3.length
        · by_cases hkj : k < j
          · have hlm : k < M.length := by omega
            have hkd : decide ((j : Int) ≤ (k : Int)) = false := decide_eq_false (by omega)
            obtain ⟨b, o, rfl, hbb, hc⟩ := h3 k hlt
            obtain ⟨b', o', rfl, hbb', hc'⟩ := h3' k hlm
            obtain ⟨x, hx⟩ : ∃ x, x = M3[k] := ⟨_, rfl⟩
            obtain ⟨y, hy⟩ : ∃ y, y = M[k] := ⟨_, rfl⟩
            obtain ⟨c0, c1_, c2_, c3_, c4_, c5_⟩ := cells_fil (w := wr) (b := b) (o := o) (k := k) (x := x) (fun j u hu => (hgr3.cell (p := ⟨b, o + k * 6 + j, none⟩) hbb.2).trans (hc j u (by rw [← hx]; exact hu)))
            obtain ⟨d0, d1, d2, d3, d4, d5⟩ := cells_fil (w := wr) (b := b') (o := o') (k := k) (x := y) (fun j u hu => (hgr1.cell (p := ⟨b', o' + k * 6 + j, none⟩) hbb'.2).trans (hc' j u (by rw [← hy]; exact hu)))
            have hbx := HVB.out _ (List.getElem_mem hlt)
            have hby := HUB.out _ (List.getElem_mem hlm)
            rw [← hx] at hbx
            rw [← hy] at hby
            have hxy := HAT.out k hlt k hlm (by rw [if_pos hkj])
            rw [← hx, ← hy] at hxy
            obtain ⟨f, bx⟩ := x
            obtain ⟨g, by'⟩ := y
            simp only at hxy
            subst hxy
            have hgs1 := hgr1.size
            have hgs3 := hgr3.size
            have hcall := fun n => equalFile_any f bx by' (wr.drewN n) (SlR.drewN (SlR.below hbx hgr3 (Nat.le_refl _)) n) (SlR.drewN (SlR.below hby hgr1 (Nat.le_refl _)) n) hgs3 hgs1
            have HC := Lib.hid hcall
            clear hc h3 hc' h3' hx hy hbx hby hcall
            go_wp2
            go_region_law (go_simp
                           go_at_call 16
                           refine (HC.out 1).mono ?_
                           rintro e w9 ⟨rfl, hb9⟩)
            all_goals go_wp2
            all_goals go_roundw
            all_goals first
              | exact ⟨k + 1, by omega, by go_num, Gr.tr (below_drewN hg6 1) hb9⟩
              | (simp [intOf]; omega)
          · have hlm : k + 1 < M.length := by have := HL3.out; omega
            have hkd : decide ((j : Int) ≤ (k : Int)) = true := decide_eq_true (by omega)
            have hwr : IntKind.i64.wrap ((k : Int) + 1) = (k : Int) + 1 := IntWalk.i64_in _ (by omega)
            have hn1 : ((k : Int) + 1).toNat = k + 1 := by omega
            have hk0 : 0 ≤ (k : Int) + 1 := by omega
            have hk2 : (k : Int) + 1 < (M.length : Int) := by omega
            obtain ⟨b, o, rfl, hbb, hc⟩ := h3 k hlt
            obtain ⟨b', o', rfl, hbb', hc'⟩ := h3' (k + 1) hlm
            obtain ⟨x, hx⟩ : ∃ x, x = M3[k] := ⟨_, rfl⟩
            obtain ⟨y, hy⟩ : ∃ y, y = M[(k + 1)] := ⟨_, rfl⟩
            obtain ⟨c0, c1_, c2_, c3_, c4_, c5_⟩ := cells_fil (w := wr) (b := b) (o := o) (k := k) (x := x) (fun j u hu => (hgr3.cell (p := ⟨b, o + k * 6 + j, none⟩) hbb.2).trans (hc j u (by rw [← hx]; exact hu)))
            obtain ⟨d0, d1, d2, d3, d4, d5⟩ := cells_fil (w := wr) (b := b') (o := o') (k := (k + 1)) (x := y) (fun j u hu => (hgr1.cell (p := ⟨b', o' + (k + 1) * 6 + j, none⟩) hbb'.2).trans (hc' j u (by rw [← hy]; exact hu)))
            have hbx := HVB.out _ (List.getElem_mem hlt)
            have hby := HUB.out _ (List.getElem_mem hlm)
            rw [← hx] at hbx
            rw [← hy] at hby
            have hxy := HAT.out k hlt (k + 1) hlm (by rw [if_neg hkj])
            rw [← hx, ← hy] at hxy
            obtain ⟨f, bx⟩ := x
            obtain ⟨g, by'⟩ := y
            simp only at hxy
            subst hxy
            have hgs1 := hgr1.size
            have hgs3 := hgr3.size
            have hcall := fun n => equalFile_any f bx by' (wr.drewN n) (SlR.drewN (SlR.below hbx hgr3 (Nat.le_refl _)) n) (SlR.drewN (SlR.below hby hgr1 (Nat.le_refl _)) n) hgs3 hgs1
            have HC := Lib.hid hcall
            clear hc h3 hc' h3' hx hy hbx hby hcall
            go_wp2
            go_region_law (go_simp
                           go_at_call 16
                           refine (HC.out 1).mono ?_
                           rintro e w9 ⟨rfl, hb9⟩)
            all_goals go_wp2
            all_goals go_roundw
            all_goals first
              | exact ⟨k + 1, by omega, by go_num, Gr.tr (below_drewN hg6 1) hb9⟩
              | (simp [intOf]; omega)
        · have heq2 : ((M3.length : Int) == (M.length : Int) - 1) = true := by rw [beq_iff_eq]; have := HL3.out; omega
          have hwm : IntKind.i64.wrap ((M.length : Int) - 1) = (M.length : Int) - 1 := IntWalk.i64_in _ (by omega)
          clear hi1 hi0 hml hjl
          go_wp2
          go_ret
          exact ⟨rfl, (((hb1.tr hgT).tr hgA).tr hgB).tr hg6⟩
  · go_enter Tryd.func5, Tryd.ntmps5
    go_wp2
    go_ret
    exact ⟨rfl, Below.refl _ _⟩
end Go.Proofs.YthjegibkbpafeaaDoor
