/-
  Walks: disks changed, by a file that is removed. Printed by diskr.py.
-/
import Derived.Test.YtepljjaienpepaaDoorDiskEZ
namespace Go.Proofs.YtepljjaienpepaaDoor
open Go Go.RowKit Imp
set_option linter.unusedVariables false
set_option linter.unusedSimpArgs false
set_option maxHeartbeats 6400000 in
set_option maxRecDepth 10000 in
theorem sDiskRemove_any {lo hi : Nat} (tv dv : Value) (T : List FR) (clock : Int) (D : List DR) (k : Nat) (ticks : Int) (w : World) (hok : OkW w) (ht : FlR w lo hi tv T) (hd : DsR w lo hi dv D) (hhi : hi ≤ w.heap.size)
    (hv : okDisk (T.map (·.1)) clock (D.map (·.1)) = true) (hst : ∀ r ∈ T, SmFd r.1) (hk : k < T.length) (htk : 0 ≤ ticks ∧ ticks ≤ 200) :
    Calls Tryd.prog 36 #[vDk tv clock dv, .int .i64 (k : Int), .int .i64 ticks] w (DDk w) := by
  obtain ⟨ta, tc, rfl, _, _⟩ := ht.1.form
  obtain ⟨da, dc, rfl, _, _⟩ := hd.1.form
  obtain ⟨b, o, hta⟩ : ∃ b o, ta = some ⟨b, o, none⟩ := by
    obtain ⟨a', c', ee, _, _, hcl⟩ := ht.1
    injection ee with e1 e2 e3
    obtain ⟨b', o', eb, _, _⟩ := hcl k hk
    exact ⟨b', o', e1.trans eb⟩
  subst hta
  obtain ⟨hv1, hv2, hv3⟩ := (okDisk_iff _ _ _).1 hv
  obtain ⟨hdl, hdd⟩ := okDirs_small hv3
  have hTl : T.length ≤ 12 := by have := ((okTree_iff _).1 hv1).2.2; simpa using this
  have hDl : D.length ≤ 20 := by simpa using hdl
  have hDm : ∀ r ∈ D, r.1.pkg.size ≤ 11 ∧ (r.1.names.length : Int) ≤ 0 := fun r hr => hdd r.1 (List.mem_map_of_mem hr)
  obtain ⟨x, hx⟩ : ∃ x, x = T[k] := ⟨_, rfl⟩
  have hxm : x ∈ T := by rw [hx]; exact List.getElem_mem hk
  have hpk : vPkg (bs x.1.pkg) = true := okFil_pkg (okTree_mem hv1 (List.mem_map_of_mem hxm))
  have hg2 : Gr w ((w.alloc (.cells #[.slice (some ⟨b, o, none⟩) T.length tc, .int .i64 clock, .slice da D.length dc] 28)).alloc (.cells #[.slice none 0 0, .int .i64 0, .slice none 0 0] 28)) := gr_al2 w _ _
  have hz0 : ((w.alloc (.cells #[.slice (some ⟨b, o, none⟩) T.length tc, .int .i64 clock, .slice da D.length dc] 28)).alloc (.cells #[.slice none 0 0, .int .i64 0, .slice none 0 0] 28)).heap[w.heap.size]? = some (.cells #[.slice (some ⟨b, o, none⟩) T.length tc, .int .i64 clock, .slice da D.length dc] 28) := (Below.heap_alloc (w.alloc (.cells #[.slice (some ⟨b, o, none⟩) T.length tc, .int .i64 clock, .slice da D.length dc] 28)) (.cells #[.slice none 0 0, .int .i64 0, .slice none 0 0] 28) w.heap.size (by simp)).trans (heap_alloc_new w (.cells #[.slice (some ⟨b, o, none⟩) T.length tc, .int .i64 clock, .slice da D.length dc] 28))
  have hz2 : ((w.alloc (.cells #[.slice (some ⟨b, o, none⟩) T.length tc, .int .i64 clock, .slice da D.length dc] 28)).alloc (.cells #[.slice none 0 0, .int .i64 0, .slice none 0 0] 28)).heap[w.heap.size + 1]? = some (.cells #[.slice none 0 0, .int .i64 0, .slice none 0 0] 28) := heap_alloc2_new w _ _
  have hWs : ((w.alloc (.cells #[.slice (some ⟨b, o, none⟩) T.length tc, .int .i64 clock, .slice da D.length dc] 28)).alloc (.cells #[.slice none 0 0, .int .i64 0, .slice none 0 0] 28)).heap.size = w.heap.size + 2 := by simp
  have hcx : ∀ W, Gr w W → W.cell? ⟨b, o + k * 6, none⟩ = some (.int .i64 x.1.root) ∧ W.cell? ⟨b, o + k * 6 + 1, none⟩ = some (.string x.1.pkg) ∧ W.cell? ⟨b, o + k * 6 + 2, none⟩ = some (.string x.1.name) ∧ W.cell? ⟨b, o + k * 6 + 3, none⟩ = some (.bool x.1.init) ∧ W.cell? ⟨b, o + k * 6 + 4, none⟩ = some (.int .i64 x.1.stamp) ∧ W.cell? ⟨b, o + k * 6 + 5, none⟩ = some (x.2) := fun W h => by
    have f := (ht.below h hhi).1
    obtain ⟨a', c', ee, _, _, hcl⟩ := f
    injection ee with e1 e2 e3
    obtain ⟨b', o', eb, _, hc⟩ := hcl k hk
    rw [← e1] at eb
    injection eb with eb
    injection eb with e4 e5
    subst e4; subst e5
    exact cells_fil (fun i u hu => hc i u (by rw [← hx]; exact hu))
  have hvd := fun W (h : Gr w W) => svalidDisk_any _ _ T clock D W (hok.gr h) (ht.below h hhi) (hd.below h hhi) (Nat.le_trans hhi h.size) (fun r hr => smF_Fd (hst r hr)) (fun r hr => by have := (hDm r hr).1; unfold SmD; omega)
  rw [hv] at hvd
  have hrg : ∀ W, Calls Tryd.prog 19 #[.int .i64 ticks, .int .i64 0, .int .i64 200] W fun e w' => e = .returned (.bool true) ∧ w' = W := fun W => (inRange_any ticks 0 200 W).mono (fun e w' h => by
    obtain ⟨h1, h2⟩ := h
    rw [decide_eq_true htk.1, decide_eq_true htk.2] at h1
    exact ⟨h1, by first | exact h2 | exact h2.symm⟩)
  have haf := fun W (h : Gr w W) => sRemoveFile_any _ T (k : Int) W (hok.gr h) (ht.below h hhi) (Nat.le_trans hhi h.size) (by omega) (fun r hr => by have := (hst r hr).1; omega) (fun r hr => smF_Fd (hst r hr))
  rw [hv1, decide_eq_true (show (0 : Int) ≤ (k : Int) by omega), decide_eq_true (show (k : Int) ≤ (T.length : Int) - 1 by omega)] at haf
  simp only [Bool.and_self] at haf
  have hch := fun (u : Value) (M : List FR) lo3 hi3 W (h : Gr w W) (hM : FlR W lo3 hi3 u M) (h3 : hi3 ≤ W.heap.size) (hs : ∀ r ∈ M, SmFd r.1) => schanged_any (some ⟨b, o, none⟩) T.length tc clock (.slice da D.length dc) D u M x.1.root x.1.pkg ticks W (hok.gr h) (hd.below h hhi) (Nat.le_trans hhi h.size) hM h3 (by omega) (fun r hr => by have := (hDm r hr).2; omega) (fun r hr => (hDm r hr).1) (fun r hr => smF_Fd (hs r hr)) hpk ⟨hv2.1, by omega⟩ ⟨htk.1, by omega⟩
  have hkT : (k : Int) < (T.length : Int) := by omega
  obtain ⟨⟨x0, x1, x2⟩, _⟩ := rows3 hz0
  have HZ0 := Lib.hid hz0
  have HZ2 := Lib.hid hz2
  have HV := Lib.hid hvd
  have HRG := Lib.hid hrg
  have HAF := Lib.hid haf
  have HCH := Lib.hid hch
  have HST := Lib.hid hst
  have HWS := Lib.hid hWs
  have HCX := Lib.hid hcx
  clear hz0 hz2 hvd hrg haf hch hst hDm hdd hv hv1 hv3 hdl hWs hcx hx
  go_enter Tryd.func36, Tryd.ntmps36
  go_wp2_with fail
  refine (HV.out _ hg2).mono ?_
  rintro e w2 ⟨rfl, hb2⟩
  have hg2 := hg2.tr hb2
  clear x0 x1 x2
  have y0 := (hb2.block _ (lt_of_block HZ0.out)).trans HZ0.out
  have y2 := (hb2.block _ (lt_of_block HZ2.out)).trans HZ2.out
  obtain ⟨⟨x0, x1, x2⟩, _⟩ := rows3 y0
  have hs2 := hb2.size
  rw [HWS.out] at hs2
  have HY0 := Lib.hid y0
  have HY2 := Lib.hid y2
  clear y0 y2
  go_wp2_with fail
  refine (HRG.out _).mono ?_
  rintro e w' ⟨rfl, rfl⟩
  go_wp2_with fail
  refine (HAF.out _ hg2).mono ?_
  rintro e w3 ⟨u, M, rfl, hM, hO, hb3⟩
  obtain ⟨ua, uc, rfl, _, _⟩ := hO.1.form
  have g8 := gr_al w3 (.cells #[.slice ua M.length uc] 25)
  have z8 := heap_alloc_new w3 (.cells #[.slice ua M.length uc] 25)
  have hg8 := hb3.tr g8
  have hgw8 := hg2.tr hg8
  have hs3 := hb3.size
  have y0 := (hg8.block _ (lt_of_block HY0.out)).trans HY0.out
  have y2 := (hg8.block _ (lt_of_block HY2.out)).trans HY2.out
  have hMs : ∀ r ∈ M, SmFd r.1 := fun r hr => by
    have h9 : r.1 ∈ (T.map (·.1)).take k ++ (T.map (·.1)).drop (k + 1) := by have := hM; simp only [↓reduceIte, Int.toNat_natCast] at this; rw [← this]; exact List.mem_map_of_mem hr
    have h9 : r.1 ∈ T.map (·.1) := by
      rw [List.mem_append] at h9
      rcases h9 with h9 | h9
      · exact List.mem_of_mem_take h9
      · exact List.mem_of_mem_drop h9
    rw [List.mem_map] at h9
    obtain ⟨r', hr', e'⟩ := h9
    rw [← e']; exact HST.out r' hr'
  have hfl := (OwnN.flR hO).below g8 (Nat.le_refl _)
  have hcs : ∀ W, Gr (w3.alloc (.cells #[.slice ua M.length uc] 25)) W → (W.cell? ⟨w.heap.size, 0, none⟩ = some (.slice (some ⟨b, o, none⟩) T.length tc) ∧ W.cell? ⟨w.heap.size, 1, none⟩ = some (.int .i64 clock) ∧ W.cell? ⟨w.heap.size, 2, none⟩ = some (.slice da D.length dc)) ∧ W.cell? ⟨w3.heap.size, 0, none⟩ = some (.slice ua M.length uc) ∧ W.cell? ⟨b, o + k * 6, none⟩ = some (.int .i64 x.1.root) ∧ W.cell? ⟨b, o + k * 6 + 1, none⟩ = some (.string x.1.pkg) ∧ W.cell? ⟨b, o + k * 6 + 2, none⟩ = some (.string x.1.name) ∧ W.cell? ⟨b, o + k * 6 + 3, none⟩ = some (.bool x.1.init) ∧ W.cell? ⟨b, o + k * 6 + 4, none⟩ = some (.int .i64 x.1.stamp) ∧ W.cell? ⟨b, o + k * 6 + 5, none⟩ = some (x.2) := fun W h => ⟨(rows3 ((h.block _ (lt_of_block y0)).trans y0)).1, (row1 ((h.block _ (lt_of_block z8)).trans z8)).1, HCX.out _ (hgw8.tr h)⟩
  have hob := hO.block
  clear x0 x1 x2
  have HFL := Lib.hid hfl
  have HMS := Lib.hid hMs
  have HO := Lib.hid hO
  have HY2b := Lib.hid y2
  have HCS := Lib.hid hcs
  obtain ⟨⟨x0, x1, x2⟩, _⟩ := rows3 y0
  obtain ⟨t8, _⟩ := row1 z8
  clear hM hO y0 y2 z8 hfl hMs hcs HCX
  go_wp2
  refine wp_region_held_drew (S := (fun W => (W.cell? ⟨w.heap.size, 0, none⟩ = some (.slice (some ⟨b, o, none⟩) T.length tc) ∧ W.cell? ⟨w.heap.size, 1, none⟩ = some (.int .i64 clock) ∧ W.cell? ⟨w.heap.size, 2, none⟩ = some (.slice da D.length dc)) ∧ W.cell? ⟨w3.heap.size, 0, none⟩ = some (.slice ua M.length uc) ∧ W.cell? ⟨b, o + k * 6, none⟩ = some (.int .i64 x.1.root) ∧ W.cell? ⟨b, o + k * 6 + 1, none⟩ = some (.string x.1.pkg) ∧ W.cell? ⟨b, o + k * 6 + 2, none⟩ = some (.string x.1.name) ∧ W.cell? ⟨b, o + k * 6 + 3, none⟩ = some (.bool x.1.init) ∧ W.cell? ⟨b, o + k * 6 + 4, none⟩ = some (.int .i64 x.1.stamp) ∧ W.cell? ⟨b, o + k * 6 + 5, none⟩ = some (x.2))) (by kernel_rfl) (HCS.out _ (below_drewN (Gr.rfl' _) 1)) (fun hS0 => ?_)
  refine wpAnyH_take (i := 0) (v := ?_) rfl (by kernel_rfl) (by kernel_rfl) (by kernel_rfl) (fun _ _ _ h => h) (Or.inl ⟨by rfl, ?_⟩) hS0 ?_
  rotate_left
  · (intro W hSw; (try dsimp only at hSw); go_simp; try (with_reducible rfl))
  try simp only [Act.put, List.getElem_toArray, List.getElem_cons_succ, List.getElem_cons_zero, List.setIfInBounds_toArray, List.set_cons_zero, List.set_cons_succ]
  refine wpAnyH_take (i := 1) (v := ?_) rfl (by kernel_rfl) (by kernel_rfl) (by kernel_rfl) (fun _ _ _ h => h) (Or.inl ⟨by rfl, ?_⟩) hS0 ?_
  rotate_left
  · (intro W hSw; (try dsimp only at hSw); go_simp; try (with_reducible rfl))
  try simp only [Act.put, List.getElem_toArray, List.getElem_cons_succ, List.getElem_cons_zero, List.setIfInBounds_toArray, List.set_cons_zero, List.set_cons_succ]
  refine wpAnyH_take (i := 2) (v := ?_) rfl (by kernel_rfl) (by kernel_rfl) (by kernel_rfl) (fun _ _ _ h => h) (Or.inl ⟨by rfl, ?_⟩) hS0 ?_
  rotate_left
  · (intro W hSw; (try dsimp only at hSw); go_simp; try (with_reducible rfl))
  try simp only [Act.put, List.getElem_toArray, List.getElem_cons_succ, List.getElem_cons_zero, List.setIfInBounds_toArray, List.set_cons_zero, List.set_cons_succ]
  refine wpAnyH_take (i := 3) (v := ?_) rfl (by kernel_rfl) (by kernel_rfl) (by kernel_rfl) (fun _ _ _ h => h) (Or.inl ⟨by rfl, ?_⟩) hS0 ?_
  rotate_left
  · (intro W hSw; (try dsimp only at hSw); go_simp; try (with_reducible rfl))
  try simp only [Act.put, List.getElem_toArray, List.getElem_cons_succ, List.getElem_cons_zero, List.setIfInBounds_toArray, List.set_cons_zero, List.set_cons_succ]
  refine wpAnyH_take (i := 4) (v := ?_) rfl (by kernel_rfl) (by kernel_rfl) (by kernel_rfl) (fun _ _ _ h => h) (Or.inl ⟨by rfl, ?_⟩) hS0 ?_
  rotate_left
  · (intro W hSw; (try dsimp only at hSw); go_simp; try (with_reducible rfl))
  try simp only [Act.put, List.getElem_toArray, List.getElem_cons_succ, List.getElem_cons_zero, List.setIfInBounds_toArray, List.set_cons_zero, List.set_cons_succ]
  refine wpAnyH_take (i := 5) (v := ?_) rfl (by kernel_rfl) (by kernel_rfl) (by kernel_rfl) (fun _ _ _ h => h) (Or.inl ⟨by rfl, ?_⟩) hS0 ?_
  rotate_left
  · (intro W hSw; (try dsimp only at hSw); go_simp; try (with_reducible rfl))
  try simp only [Act.put, List.getElem_toArray, List.getElem_cons_succ, List.getElem_cons_zero, List.setIfInBounds_toArray, List.set_cons_zero, List.set_cons_succ]
  refine wpAnyH_take (i := 6) (v := ?_) rfl (by kernel_rfl) (by kernel_rfl) (by kernel_rfl) (fun _ _ _ h => h) (Or.inl ⟨by rfl, ?_⟩) hS0 ?_
  rotate_left
  · (intro W hSw; (try dsimp only at hSw); go_simp; try (with_reducible rfl))
  try simp only [Act.put, List.getElem_toArray, List.getElem_cons_succ, List.getElem_cons_zero, List.setIfInBounds_toArray, List.set_cons_zero, List.set_cons_succ]
  refine wpAnyH_take (i := 7) (v := ?_) rfl (by kernel_rfl) (by kernel_rfl) (by kernel_rfl) (fun _ _ _ h => h) (Or.inl ⟨by rfl, ?_⟩) hS0 ?_
  rotate_left
  · (intro W hSw; (try dsimp only at hSw); go_simp; try (with_reducible rfl))
  try simp only [Act.put, List.getElem_toArray, List.getElem_cons_succ, List.getElem_cons_zero, List.setIfInBounds_toArray, List.set_cons_zero, List.set_cons_succ]
  refine wpAnyH_take (i := 8) (v := ?_) rfl (by kernel_rfl) (by kernel_rfl) (by kernel_rfl) (fun _ _ _ h => h) (Or.inl ⟨by rfl, ?_⟩) hS0 ?_
  rotate_left
  · (intro W hSw; (try dsimp only at hSw); go_simp; try (with_reducible rfl))
  try simp only [Act.put, List.getElem_toArray, List.getElem_cons_succ, List.getElem_cons_zero, List.setIfInBounds_toArray, List.set_cons_zero, List.set_cons_succ]
  refine wpAnyH_take (i := 9) (v := ?_) rfl (by kernel_rfl) (by kernel_rfl) (by kernel_rfl) (fun _ _ _ h => h) (Or.inl ⟨by rfl, ?_⟩) hS0 ?_
  rotate_left
  · (intro W hSw; (try dsimp only at hSw); go_simp; try (with_reducible rfl))
  try simp only [Act.put, List.getElem_toArray, List.getElem_cons_succ, List.getElem_cons_zero, List.setIfInBounds_toArray, List.set_cons_zero, List.set_cons_succ]
  refine wpAnyH_take (i := 10) (v := ?_) rfl (by kernel_rfl) (by kernel_rfl) (by kernel_rfl) (fun _ _ _ h => h) (Or.inl ⟨by rfl, ?_⟩) hS0 ?_
  rotate_left
  · (intro W hSw; (try dsimp only at hSw); go_simp; try (with_reducible rfl))
  try simp only [Act.put, List.getElem_toArray, List.getElem_cons_succ, List.getElem_cons_zero, List.setIfInBounds_toArray, List.set_cons_zero, List.set_cons_succ]
  refine wpAnyH_take (i := 11) (v := ?_) rfl (by kernel_rfl) (by kernel_rfl) (by kernel_rfl) (fun _ _ _ h => h) (Or.inl ⟨by rfl, ?_⟩) hS0 ?_
  rotate_left
  · (intro W hSw; (try dsimp only at hSw); go_simp; try (with_reducible rfl))
  try simp only [Act.put, List.getElem_toArray, List.getElem_cons_succ, List.getElem_cons_zero, List.setIfInBounds_toArray, List.set_cons_zero, List.set_cons_succ]
  refine wpAnyH_take (i := 12) (v := ?_) rfl (by kernel_rfl) (by kernel_rfl) (by kernel_rfl) (fun _ _ _ h => h) (Or.inl ⟨by rfl, ?_⟩) hS0 ?_
  rotate_left
  · (intro W hSw; (try dsimp only at hSw); go_simp; try (with_reducible rfl))
  try simp only [Act.put, List.getElem_toArray, List.getElem_cons_succ, List.getElem_cons_zero, List.setIfInBounds_toArray, List.set_cons_zero, List.set_cons_succ]
  refine wpAnyH_take (i := 13) (v := ?_) rfl (by kernel_rfl) (by kernel_rfl) (by kernel_rfl) (fun _ _ _ h => h) (Or.inl ⟨by rfl, ?_⟩) hS0 ?_
  rotate_left
  · (intro W hSw; (try dsimp only at hSw); go_simp; try (with_reducible rfl))
  try simp only [Act.put, List.getElem_toArray, List.getElem_cons_succ, List.getElem_cons_zero, List.setIfInBounds_toArray, List.set_cons_zero, List.set_cons_succ]
  refine wpAnyH_take (i := 14) (v := ?_) rfl (by kernel_rfl) (by kernel_rfl) (by kernel_rfl) (fun _ _ _ h => h) (Or.inl ⟨by rfl, ?_⟩) hS0 ?_
  rotate_left
  · (intro W hSw; (try dsimp only at hSw); go_simp; try (with_reducible rfl))
  try simp only [Act.put, List.getElem_toArray, List.getElem_cons_succ, List.getElem_cons_zero, List.setIfInBounds_toArray, List.set_cons_zero, List.set_cons_succ]
  refine wpAnyH_take (i := 15) (v := ?_) rfl (by kernel_rfl) (by kernel_rfl) (by kernel_rfl) (fun _ _ _ h => h) (Or.inl ⟨by rfl, ?_⟩) hS0 ?_
  rotate_left
  · (intro W hSw; (try dsimp only at hSw); go_simp; try (with_reducible rfl))
  try simp only [Act.put, List.getElem_toArray, List.getElem_cons_succ, List.getElem_cons_zero, List.setIfInBounds_toArray, List.set_cons_zero, List.set_cons_succ]
  refine wpAnyH_take (i := 16) (v := ?_) rfl (by kernel_rfl) (by kernel_rfl) (by kernel_rfl) (fun _ _ _ h => h) (Or.inl ⟨by rfl, ?_⟩) hS0 ?_
  rotate_left
  · (intro W hSw; (try dsimp only at hSw); go_simp; try (with_reducible rfl))
  try simp only [Act.put, List.getElem_toArray, List.getElem_cons_succ, List.getElem_cons_zero, List.setIfInBounds_toArray, List.set_cons_zero, List.set_cons_succ]
  refine wpAnyH_ready (rs := [17]) (by kernel_rfl) (by simp) ?_
  refine AllReadyH.cons rfl (fun K hK => ?_) (AllReadyH.nil)
  go_simp
  have g8d : Gr (w3.alloc (.cells #[.slice ua M.length uc] 25)) ((w3.alloc (.cells #[.slice ua M.length uc] 25)).drewN 1) := below_drewN (Gr.rfl' _) 1
  refine (HCH.out _ M _ _ _ (hgw8.tr g8d) (HFL.out.below g8d g8.size) g8.size HMS.out).mono ?_
  rintro e w5 ⟨hg5, hcase⟩
  have hg58 : Gr (w3.alloc (.cells #[.slice ua M.length uc] 25)) w5 := g8d.tr hg5
  have y5 := (hg58.block _ (lt_of_block HY2b.out)).trans HY2b.out
  have hgw5 := hgw8.tr hg58
  have hl5 := hg58.size
  have hl8 : w.heap.size + 2 ≤ w3.heap.size := by omega
  obtain ⟨⟨p0, p1, p2⟩, n0, n1, n2⟩ := rows3 y5
  have hS5 := HCS.out w5 hg58
  have hcw : ∀ W, w5.grownBy W (some (w.heap.size + 1)) → (W.cell? ⟨w.heap.size, 0, none⟩ = some (.slice (some ⟨b, o, none⟩) T.length tc) ∧ W.cell? ⟨w.heap.size, 1, none⟩ = some (.int .i64 clock) ∧ W.cell? ⟨w.heap.size, 2, none⟩ = some (.slice da D.length dc)) ∧ W.cell? ⟨w3.heap.size, 0, none⟩ = some (.slice ua M.length uc) ∧ W.cell? ⟨b, o + k * 6, none⟩ = some (.int .i64 x.1.root) ∧ W.cell? ⟨b, o + k * 6 + 1, none⟩ = some (.string x.1.pkg) ∧ W.cell? ⟨b, o + k * 6 + 2, none⟩ = some (.string x.1.name) ∧ W.cell? ⟨b, o + k * 6 + 3, none⟩ = some (.bool x.1.init) ∧ W.cell? ⟨b, o + k * 6 + 4, none⟩ = some (.int .i64 x.1.stamp) ∧ W.cell? ⟨b, o + k * 6 + 5, none⟩ = some (x.2) := fun W h => by
    obtain ⟨⟨q0, q1, q2⟩, q3, q4, q5, q6, q7, q8, q9⟩ := hS5
    have hbt : b ≠ w.heap.size + 1 := by
      intro y
      obtain ⟨a', c', ee, _, _, hcl⟩ := ht.1
      injection ee with e1 e2 e3
      obtain ⟨b', o', eb, hlt, _⟩ := hcl k hk
      rw [← e1] at eb
      injection eb with eb
      injection eb with e4 e5
      omega
    have hbs : ∀ o', (⟨b, o', none⟩ : Addr).block ≠ w.heap.size + 1 := fun _ => hbt
    exact ⟨⟨h.cell q0 (by intro y; injection y with y; have y : w.heap.size = w.heap.size + 1 := y; omega), h.cell q1 (by intro y; injection y with y; have y : w.heap.size = w.heap.size + 1 := y; omega), h.cell q2 (by intro y; injection y with y; have y : w.heap.size = w.heap.size + 1 := y; omega)⟩,
      h.cell q3 (by intro y; injection y with y; have y : w3.heap.size = w.heap.size + 1 := y; omega), h.cell q4 (by intro y; injection y with y; exact hbt y), h.cell q5 (by intro y; injection y with y; exact hbt y), h.cell q6 (by intro y; injection y with y; exact hbt y), h.cell q7 (by intro y; injection y with y; exact hbt y), h.cell q8 (by intro y; injection y with y; exact hbt y), h.cell q9 (by intro y; injection y with y; exact hbt y)⟩
  have HCW := Lib.hid hcw
  have hpz := put3 y5 (.slice none 0 0) (.int .i64 0) (.slice none 0 0)
  clear hcw
  rcases hcase with ⟨u5, M5, rfl, hO5, hok5⟩ | rfl
  · obtain ⟨ub, uc5, rfl, _, _⟩ := hO5.1.form
    have HP := Lib.hid (put3 y5 (.slice ua M.length uc) (.int .i64 (clock + ticks)) (.slice ub M5.length uc5))
    have HO5 := Lib.hid hO5
    have HK5 := Lib.hid hok5
    clear y5 hO5 hok5 hpz
    refine hK.out _ _ hS5 (fun hS1 => ?_)
    clear hK K hS5
    try simp only [Act.put, List.getElem_toArray, List.getElem_cons_succ, List.getElem_cons_zero, List.setIfInBounds_toArray, List.set_cons_zero, List.set_cons_succ]
    refine wpAnyH_take (i := 18) (v := ?_) rfl (by kernel_rfl) (by kernel_rfl) (by kernel_rfl) (fun _ _ _ h => h) (Or.inl ⟨by rfl, ?_⟩) hS1 ?_
    rotate_left
    · (intro W hSw; (try dsimp only at hSw); go_simp; try (with_reducible rfl))
    try simp only [Act.put, List.getElem_toArray, List.getElem_cons_succ, List.getElem_cons_zero, List.setIfInBounds_toArray, List.set_cons_zero, List.set_cons_succ]
    refine wpAnyH_take (i := 19) (v := ?_) rfl (by kernel_rfl) (by kernel_rfl) (by kernel_rfl) (fun _ _ _ h => h) (Or.inl ⟨by rfl, ?_⟩) hS1 ?_
    rotate_left
    · (intro W hSw; (try dsimp only at hSw); go_simp; try (with_reducible rfl))
    try simp only [Act.put, List.getElem_toArray, List.getElem_cons_succ, List.getElem_cons_zero, List.setIfInBounds_toArray, List.set_cons_zero, List.set_cons_succ]
    refine wpAnyH_ready (rs := [20]) (by kernel_rfl) (by simp) ?_
    refine AllReadyH.cons rfl (fun K hK => ?_) (AllReadyH.nil)
    go_simp
    refine hK.out _ _ (HCW.out _ HP.out.2) (fun hS2 => ?_)
    clear hK K
    try simp only [Act.put, List.getElem_toArray, List.getElem_cons_succ, List.getElem_cons_zero, List.setIfInBounds_toArray, List.set_cons_zero, List.set_cons_succ]
    refine wpAnyH_take (i := 21) (v := ?_) rfl (by kernel_rfl) (by kernel_rfl) (by kernel_rfl) (fun _ _ _ h => h) (Or.inl ⟨by rfl, ?_⟩) hS2 ?_
    rotate_left
    · (intro W hSw; (try dsimp only at hSw); go_simp; try (with_reducible rfl))
    try simp only [Act.put, List.getElem_toArray, List.getElem_cons_succ, List.getElem_cons_zero, List.setIfInBounds_toArray, List.set_cons_zero, List.set_cons_succ]
    refine wpAnyH_done (by kernel_rfl) ?_ _
    go_wp2
    refine bodyPost_ret (results_row_tmpD rfl _ _ (w.heap.size + 1) 28 _ (0, 0) _ _ rfl rfl HP.out.1 Tryd.underlying28 rfl (by kernel_rfl)) rfl ?_
    refine ⟨hgw5.grown HP.out.2 hgw5.size (fun b hb => by injection hb with hb; omega), _, _, _, M, M5, _, rfl, ?_, ?_, HK5.out, HMS.out⟩
    · exact (((OwnN.gr HO.out g8).gr hg58).chg (p := fun b => b = w.heap.size + 1) (ChgN.of_grown HP.out.2 (fun b hb => by injection hb with hb; exact hb.symm)) (fun b hb y => by have := (HO.out.block b hb).1; omega)).mono (by omega)
    · exact (HO5.out.chg (p := fun b => b = w.heap.size + 1) (ChgN.of_grown HP.out.2 (fun b hb => by injection hb with hb; exact hb.symm)) (fun b hb y => by have h9 := (HO5.out.block b hb).1; simp only [World.size_alloc, World.drewN, World.drew] at h9; omega)).mono (by simp only [World.size_alloc, World.drewN, World.drew]; omega)
  · have HP := Lib.hid hpz
    clear y5 hpz
    refine hK.out _ _ hS5 (fun hS1 => ?_)
    clear hK K hS5
    try simp only [Act.put, List.getElem_toArray, List.getElem_cons_succ, List.getElem_cons_zero, List.setIfInBounds_toArray, List.set_cons_zero, List.set_cons_succ]
    refine wpAnyH_take (i := 18) (v := ?_) rfl (by kernel_rfl) (by kernel_rfl) (by kernel_rfl) (fun _ _ _ h => h) (Or.inl ⟨by rfl, ?_⟩) hS1 ?_
    rotate_left
    · (intro W hSw; (try dsimp only at hSw); go_simp; try (with_reducible rfl))
    try simp only [Act.put, List.getElem_toArray, List.getElem_cons_succ, List.getElem_cons_zero, List.setIfInBounds_toArray, List.set_cons_zero, List.set_cons_succ]
    refine wpAnyH_take (i := 19) (v := ?_) rfl (by kernel_rfl) (by kernel_rfl) (by kernel_rfl) (fun _ _ _ h => h) (Or.inl ⟨by rfl, ?_⟩) hS1 ?_
    rotate_left
    · (intro W hSw; (try dsimp only at hSw); go_simp; try (with_reducible rfl))
    try simp only [Act.put, List.getElem_toArray, List.getElem_cons_succ, List.getElem_cons_zero, List.setIfInBounds_toArray, List.set_cons_zero, List.set_cons_succ]
    refine wpAnyH_ready (rs := [20]) (by kernel_rfl) (by simp) ?_
    refine AllReadyH.cons rfl (fun K hK => ?_) (AllReadyH.nil)
    go_simp
    refine hK.out _ _ (HCW.out _ HP.out.2) (fun hS2 => ?_)
    clear hK K
    try simp only [Act.put, List.getElem_toArray, List.getElem_cons_succ, List.getElem_cons_zero, List.setIfInBounds_toArray, List.set_cons_zero, List.set_cons_succ]
    refine wpAnyH_take (i := 21) (v := ?_) rfl (by kernel_rfl) (by kernel_rfl) (by kernel_rfl) (fun _ _ _ h => h) (Or.inl ⟨by rfl, ?_⟩) hS2 ?_
    rotate_left
    · (intro W hSw; (try dsimp only at hSw); go_simp; try (with_reducible rfl))
    try simp only [Act.put, List.getElem_toArray, List.getElem_cons_succ, List.getElem_cons_zero, List.setIfInBounds_toArray, List.set_cons_zero, List.set_cons_succ]
    refine wpAnyH_done (by kernel_rfl) ?_ _
    go_wp2
    refine bodyPost_ret (results_row_tmpD rfl _ _ (w.heap.size + 1) 28 _ (0, 0) _ _ rfl rfl HP.out.1 Tryd.underlying28 rfl (by kernel_rfl)) rfl ?_
    exact ⟨hgw5.grown HP.out.2 hgw5.size (fun b hb => by injection hb with hb; omega), _, _, _, [], [], _, rfl, dkO_nil _ _⟩
end Go.Proofs.YtepljjaienpepaaDoor
