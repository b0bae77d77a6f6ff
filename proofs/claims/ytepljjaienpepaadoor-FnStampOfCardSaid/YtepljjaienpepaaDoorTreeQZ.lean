/-
  Walks: trees copied, each with a body of its own. Printed by treeo.py.
-/
import Derived.Test.YtepljjaienpepaaDoorZ5
namespace Go.Proofs.YtepljjaienpepaaDoor
open Go Go.RowKit Imp
set_option linter.unusedVariables false
set_option linter.unusedSimpArgs false
/-- A tree copied. -/
def DCpt (w : World) (L : List FR) (e : Ending) (w' : World) : Prop := ∃ u, ∃ M : List FR, e = .returned (.agg #[u]) ∧ M.map (·.1) = L.map (·.1) ∧ OwnN w' (w.heap.size + 2) 55 6 eF 78 5 eSt Fil.body u M ∧ Gr w w'

set_option maxHeartbeats 3200000 in
theorem scopyTree_own {lo hi : Nat} (v : Value) (L : List FR) (w : World) (hv : FlR w lo hi v L) (hhi : hi ≤ w.heap.size) (hl : L.length ≤ 1048576) (hn : ∀ r ∈ L, r.1.body.length ≤ 1048576) :
    Calls Tryd.prog 61 #[.agg #[v]] w (DCpt w L) := by
  obtain ⟨hv, hbod⟩ := hv
  have HV := Lib.hid hv
  have HB := Lib.hid hbod
  have HN := Lib.hid hn
  obtain ⟨a, c, rfl, h1, h2, h3⟩ := hv
  unfold maxLen at h2
  clear hbod hn
  have iz2 : (((w.alloc (.cells #[.slice a L.length c] 25)).alloc (.cells #[.slice none 0 0] 25)).alloc (.cells #[.slice none 0 0] 25)).heap[w.heap.size + 2]? = some (.cells #[.slice none 0 0] 25) := heap_alloc3_new w (.cells #[.slice a L.length c] 25) (.cells #[.slice none 0 0] 25) (.cells #[.slice none 0 0] 25)
  have iz1 : (((w.alloc (.cells #[.slice a L.length c] 25)).alloc (.cells #[.slice none 0 0] 25)).alloc (.cells #[.slice none 0 0] 25)).heap[w.heap.size + 1]? = some (.cells #[.slice none 0 0] 25) := heap_alloc3_mid w (.cells #[.slice a L.length c] 25) (.cells #[.slice none 0 0] 25) (.cells #[.slice none 0 0] 25)
  have iz0 : (((w.alloc (.cells #[.slice a L.length c] 25)).alloc (.cells #[.slice none 0 0] 25)).alloc (.cells #[.slice none 0 0] 25)).heap[w.heap.size]? = some (.cells #[.slice a L.length c] 25) := ((gr_al ((w.alloc (.cells #[.slice a L.length c] 25)).alloc (.cells #[.slice none 0 0] 25)) (.cells #[.slice none 0 0] 25)).block w.heap.size (by simp <;> omega)).trans ((Below.heap_alloc (w.alloc (.cells #[.slice a L.length c] 25)) (.cells #[.slice none 0 0] 25) w.heap.size (by simp)).trans (heap_alloc_new w (.cells #[.slice a L.length c] 25)))
  have ig0 := gr_alloc3 w (.cells #[.slice a L.length c] 25) (.cells #[.slice none 0 0] 25) (.cells #[.slice none 0 0] 25)
  go_enter Tryd.func61, Tryd.ntmps61
  go_wp2
  go_loopw [4] (fun i wr => ∃ k : Nat, k ≤ L.length ∧ i = .int .i64 k ∧ ∃ u, ∃ M : List FR, M.map (·.1) = (L.map (·.1)).take k ∧ M.length = k ∧ wr.heap[w.heap.size]? = some (.cells #[.slice a L.length c] 25) ∧ wr.heap[w.heap.size + 1]? = some (.cells #[.slice none 0 0] 25) ∧ wr.heap[w.heap.size + 2]? = some (.cells #[u] 25) ∧
      OwnN wr (w.heap.size + 2) 55 6 eF 78 5 eSt Fil.body u M ∧ (∀ b, ownsN u M b → b ≠ w.heap.size + 2) ∧ Gr w wr) (fun i _ => L.length - (intOf i).toNat)
  case atStart => exact ⟨0, Nat.zero_le _, rfl, _, [], by simp, rfl, iz0, iz1, iz2, OwnN.nil _ (Own.nil _ _ _ _ _), (fun b hb => by rcases hb with hb | ⟨r, hr, _⟩ <;> first | cases hb | cases hr), ig0⟩
  case round =>
    clear iz0 iz1 iz2 ig0
    obtain ⟨k, hk, rfl, u, M, hMm, hMl, hz0, hz1, hz2, hown, hne, hgw⟩ := hrel
    have HMm := Lib.hid hMm
    have HMl := Lib.hid hMl
    clear hMm hMl
    by_cases hlt : k < L.length
    · obtain ⟨b, o, rfl, hbb, hc⟩ := h3 k hlt
      have hMle : M.length ≤ 1048576 := by have := HMl.out; omega
      obtain ⟨ua, uc, rfl, _, _⟩ := hown.1.form
      obtain ⟨x, hx⟩ : ∃ x, x = L[k] := ⟨_, rfl⟩
      have hbx := HB.out _ (List.getElem_mem hlt)
      have hnx := HN.out _ (List.getElem_mem hlt)
      rw [← hx] at hbx hnx
      have cc : ∀ W, Gr w W → _ := fun W h => cells_fil (w := W) (b := b) (o := o) (k := k) (x := x) (fun j u hu => (h.cell (p := ⟨b, o + k * 6 + j, none⟩) (Nat.lt_of_lt_of_le hbb.2 hhi)).trans (hc j u (by rw [← hx]; exact hu)))
      have hki : (k : Int) < (L.length : Int) := by omega
      have HX := Lib.hid hx
      clear hc h3 hx
      obtain ⟨f, fv⟩ := x
      have hbx : SlR w lo hi 5 eSt fv f.body := hbx
      obtain ⟨fa, fc, rfl, _, _⟩ := hbx.form
      obtain ⟨c0, c1, c2, c3, c4, c5⟩ := cc _ hgw
      have hcp := fun W (h : Gr w W) => scopyFile_own f (.slice fa f.body.length fc) W (SlR.below hbx h hhi) (Nat.le_trans hhi h.size) hnx
      have HC := Lib.hid hcp
      clear hcp hbx hnx
      have hgw2 := hgw
      have hs0 : w.heap.size + 2 < wr.heap.size := lt_of_block hz2
      have hobl := hown.block
      obtain ⟨x0, _⟩ := row1 hz0
      obtain ⟨x2, xf2⟩ := row1 hz2
      have hl0 := lt_of_block hz0
      have hl1 := lt_of_block hz1
      have hl2 := lt_of_block hz2
      have HZ0 := Lib.hid hz0
      have HZ1 := Lib.hid hz1
      have HZ2 := Lib.hid hz2
      have HO := Lib.hid hown
      have HNE := Lib.hid hne
      have HOB := Lib.hid hobl
      have HCC := Lib.hid cc
      clear hz0 hz1 hz2 hown hne hobl cc
      have hs0' : w.heap.size + 2 < wr.heap.size := Nat.lt_of_lt_of_le hs0 (by first | exact Nat.le_refl _ | simp)
      have hS : ∀ W, ChgN (fun b => w.heap.size + 2 ≤ b) wr W → ChgN (fun b => w.heap.size + 2 ≤ b) wr W ∧ W.cell? ⟨w.heap.size, 0, none⟩ = some (.slice (some ⟨b, o, none⟩) L.length c) ∧ (W.cell? ⟨b, o + k * 6, none⟩ = some (.int .i64 f.root) ∧ W.cell? ⟨b, o + k * 6 + 1, none⟩ = some (.string f.pkg) ∧ W.cell? ⟨b, o + k * 6 + 2, none⟩ = some (.string f.name) ∧ W.cell? ⟨b, o + k * 6 + 3, none⟩ = some (.bool f.init) ∧ W.cell? ⟨b, o + k * 6 + 4, none⟩ = some (.int .i64 f.stamp) ∧ W.cell? ⟨b, o + k * 6 + 5, none⟩ = some (.slice fa f.body.length fc)) := fun W h => by
        have hW : Gr w W := Imp.Below.chg hgw h hgw.size (fun i q => by omega)
        exact ⟨h, (row1 ((h.block _ hl0 (by omega)).trans HZ0.out)).1, HCC.out _ hW⟩
      have HS := Lib.hid hS
      clear hS
      go_wp2
      refine wp_region_held_drew (S := (fun W => ChgN (fun b => w.heap.size + 2 ≤ b) wr W ∧ W.cell? ⟨w.heap.size, 0, none⟩ = some (.slice (some ⟨b, o, none⟩) L.length c) ∧ (W.cell? ⟨b, o + k * 6, none⟩ = some (.int .i64 f.root) ∧ W.cell? ⟨b, o + k * 6 + 1, none⟩ = some (.string f.pkg) ∧ W.cell? ⟨b, o + k * 6 + 2, none⟩ = some (.string f.name) ∧ W.cell? ⟨b, o + k * 6 + 3, none⟩ = some (.bool f.init) ∧ W.cell? ⟨b, o + k * 6 + 4, none⟩ = some (.int .i64 f.stamp) ∧ W.cell? ⟨b, o + k * 6 + 5, none⟩ = some (.slice fa f.body.length fc)))) (by kernel_rfl) (HS.out _ (ChgN.of_gr (below_drewN (Gr.rfl' _) 1))) (fun hS0 => ?_)
      refine wpAnyH_take (i := 0) (v := ?_) rfl (by kernel_rfl) (by kernel_rfl) (by kernel_rfl) (fun _ _ _ h => h) (Or.inl ⟨by rfl, ?_⟩) hS0 ?_
      rotate_left
      · (intro W hSw; (try dsimp only at hSw); go_simp; try (with_reducible rfl))
      try simp only [Act.put, List.getElem_toArray, List.getElem_cons_succ, List.getElem_cons_zero, List.setIfInBounds_toArray, List.set_cons_zero, List.set_cons_succ]
      refine wpAnyH_take (i := 2) (v := ?_) rfl (by kernel_rfl) (by kernel_rfl) (by kernel_rfl) (fun _ _ _ h => h) (Or.inl ⟨by rfl, ?_⟩) hS0 ?_
      rotate_left
      · (intro W hSw; (try dsimp only at hSw); go_simp; try (with_reducible rfl))
      try simp only [Act.put, List.getElem_toArray, List.getElem_cons_succ, List.getElem_cons_zero, List.setIfInBounds_toArray, List.set_cons_zero, List.set_cons_succ]
      refine wpAnyH_take (i := 3) (v := ?_) rfl (by kernel_rfl) (by kernel_rfl) (by kernel_rfl) (fun _ _ _ h => h) (Or.inl ⟨by rfl, ?_⟩) hS0 ?_
      rotate_left
      · (intro W hSw; (try dsimp only at hSw); go_simp; try (with_reducible rfl))
      try simp only [Act.put, List.getElem_toArray, List.getElem_cons_succ, List.getElem_cons_zero, List.setIfInBounds_toArray, List.set_cons_zero, List.set_cons_succ]
      refine wpAnyH_take (i := 4) (v := ?_) rfl (by kernel_rfl) (by kernel_rfl) (by kernel_rfl) (fun _ _ _ h => h) (Or.inl ⟨by rfl, ?_⟩) hS0 ?_
      rotate_left
      · (intro W hSw; (try dsimp only at hSw); go_simp; try (with_reducible rfl))
      try simp only [Act.put, List.getElem_toArray, List.getElem_cons_succ, List.getElem_cons_zero, List.setIfInBounds_toArray, List.set_cons_zero, List.set_cons_succ]
      refine wpAnyH_take (i := 5) (v := ?_) rfl (by kernel_rfl) (by kernel_rfl) (by kernel_rfl) (fun _ _ _ h => h) (Or.inl ⟨by rfl, ?_⟩) hS0 ?_
      rotate_left
      · (intro W hSw; (try dsimp only at hSw); go_simp; try (with_reducible rfl))
      try simp only [Act.put, List.getElem_toArray, List.getElem_cons_succ, List.getElem_cons_zero, List.setIfInBounds_toArray, List.set_cons_zero, List.set_cons_succ]
      refine wpAnyH_take (i := 6) (v := ?_) rfl (by kernel_rfl) (by kernel_rfl) (by kernel_rfl) (fun _ _ _ h => h) (Or.inl ⟨by rfl, ?_⟩) hS0 ?_
      rotate_left
      · (intro W hSw; (try dsimp only at hSw); go_simp; try (with_reducible rfl))
      try simp only [Act.put, List.getElem_toArray, List.getElem_cons_succ, List.getElem_cons_zero, List.setIfInBounds_toArray, List.set_cons_zero, List.set_cons_succ]
      refine wpAnyH_ready (rs := [1, 7]) (by kernel_rfl) (by simp) ?_
      refine AllReadyH.cons rfl (fun K hK => ?_) (AllReadyH.cons rfl (fun K hK => ?_) (AllReadyH.nil))
      · skip
        go_simp
        refine hK.out _ _ (HS.out _ (ChgN.of_gr (below_drewN (Gr.rfl' _) 1))) (fun _ => ?_)
        clear hK K
        try simp only [Act.put, List.getElem_toArray, List.getElem_cons_succ, List.getElem_cons_zero, List.setIfInBounds_toArray, List.set_cons_zero, List.set_cons_succ]
        refine wpAnyH_ready (rs := [7]) (by kernel_rfl) (by simp) ?_
        refine AllReadyH.cons rfl (fun K hK => ?_) (AllReadyH.nil)
        go_simp
        refine (HC.out _ (below_drewN hgw2 1)).mono ?_
        rintro e w5 ⟨u5, rfl, ho5, hb5⟩
        obtain ⟨a5, k5, e5, _, _⟩ := ho5.form
        subst e5
        have hgA : Gr wr w5 := (below_drewN (Gr.rfl' _) 1).trans hb5
        obtain ⟨x5, xf5⟩ := row1 ((hgA.block _ hl2).trans HZ2.out)
        refine hK.out _ _ (HS.out _ (ChgN.of_gr hgA)) (fun _ => ?_)
        clear hK K
        try simp only [Act.put, List.getElem_toArray, List.getElem_cons_succ, List.getElem_cons_zero, List.setIfInBounds_toArray, List.set_cons_zero, List.set_cons_succ]
        refine wpAnyH_ready (rs := [8]) (by kernel_rfl) (by simp) ?_
        refine AllReadyH.cons rfl (fun K hK => ?_) (AllReadyH.nil)
        go_simp
        have hgB := hgA.tr (gr_al w5 (.cells #[.int .i64 f.root, .string f.pkg, .string f.name, .bool f.init, .int .i64 f.stamp, .slice a5 f.body.length k5] 55))
        obtain ⟨x6, xf6⟩ := row1 ((hgB.block _ hl2).trans HZ2.out)
        refine hK.out _ _ (HS.out _ (ChgN.of_gr hgB)) (fun _ => ?_)
        clear hK K
        try simp only [Act.put, List.getElem_toArray, List.getElem_cons_succ, List.getElem_cons_zero, List.setIfInBounds_toArray, List.set_cons_zero, List.set_cons_succ]
        refine wpAnyH_ready (rs := [9]) (by kernel_rfl) (by simp) ?_
        refine AllReadyH.cons rfl (fun K hK => ?_) (AllReadyH.nil)
        have hown5 := HO.out.gr hgB
        have hsrc5 := SlR.oneO w5 w.heap.size w5.heap.size (f, .slice a5 f.body.length k5) 55 (enc := eF) (k := 6) rfl (by have := hgA.size; (try simp at this); omega) rfl
        have hz2a := (hgB.block _ hl2).trans HZ2.out
        have hl2b := lt_of_block hz2a
        have hbase5 : w.heap.size + 2 ≤ (w5.alloc (.cells #[.int .i64 f.root, .string f.pkg, .string f.name, .bool f.init, .int .i64 f.stamp, .slice a5 f.body.length k5] 55)).heap.size := by have := hgB.size; (try simp at this ⊢); omega
        refine step_app _ rfl (.tmp 14) (.tmp 21) ti_filO rfl (by simp [Act.eval]) hown5.1 (by simp [Act.eval]) hsrc5 (fun _ _ => rfl) (by simp [eF, Value.oneCell']) (by unfold maxLen; simp; omega) (by simp; omega) hbase5 ?_
        intro v9 w9 hown9 hg9 hat9
        obtain ⟨va9, vc9, hv9, _, _⟩ := hown9.form
        have hv9' : v9 = .slice va9 (M.length + 1) vc9 := by rw [hv9, List.length_append]; rfl
        clear hv9
        subst hv9'
        have hz2b := (hg9.block _ hl2b (by intro q; exact HNE.out _ (Or.inl q.symm) rfl)).trans hz2a
        obtain ⟨y2, yf2⟩ := row1 hz2b
        have hch9 := (ChgN.of_gr (p := (fun b => w.heap.size + 2 ≤ b)) hgB).trans (ChgN.of_grown hg9 (fun b hb => by have := HOB.out b (Or.inl hb); (try dsimp only); omega))
        refine hK.out _ _ (HS.out _ hch9) (fun hS9 => ?_)
        clear hK K
        try simp only [Act.put, List.getElem_toArray, List.getElem_cons_succ, List.getElem_cons_zero, List.setIfInBounds_toArray, List.set_cons_zero, List.set_cons_succ]
        refine wpAnyH_take (i := 10) (v := ?_) rfl (by kernel_rfl) (by kernel_rfl) (by kernel_rfl) (fun _ _ _ h => h) (Or.inl ⟨by rfl, ?_⟩) hS9 ?_
        rotate_left
        · (intro W hSw; (try dsimp only at hSw); go_simp; try (with_reducible rfl))
        try simp only [Act.put, List.getElem_toArray, List.getElem_cons_succ, List.getElem_cons_zero, List.setIfInBounds_toArray, List.set_cons_zero, List.set_cons_succ]
        refine wpAnyH_ready (rs := [11]) (by kernel_rfl) (by simp) ?_
        refine AllReadyH.cons rfl (fun K hK => ?_) (AllReadyH.nil)
        go_simp
        refine hK.out _ _ (HS.out _ (hch9.trans (ChgN.set _ (w.heap.size + 2) 0 _ (by (try dsimp only); omega)))) (fun _ => ?_)
        clear hK K
        try simp only [Act.put, List.getElem_toArray, List.getElem_cons_succ, List.getElem_cons_zero, List.setIfInBounds_toArray, List.set_cons_zero, List.set_cons_succ]
        refine wpAnyH_done (by kernel_rfl) ?_ _
        go_wp2
        go_roundw
        case rel =>
          refine ⟨k + 1, by omega, by go_num, _, M ++ [(f, .slice a5 f.body.length k5)], ?_, by rw [List.length_append, HMl.out]; rfl, ?_, ?_, heap_set1 hz2b, ?_, ?_, ?_⟩
          · rw [List.map_append, HMm.out, List.take_succ_eq_append_getElem (by rw [List.length_map]; exact hlt), List.getElem_map, ← HX.out]; rfl
          · exact set_othero ((hg9.block _ (lt_of_block ((hgB.block _ hl0).trans HZ0.out)) (by intro q; have := (HOB.out _ (Or.inl q.symm)).1; omega)).trans ((hgB.block _ hl0).trans HZ0.out)) (by omega)
          · exact set_othero ((hg9.block _ (lt_of_block ((hgB.block _ hl1).trans HZ1.out)) (by intro q; have := (HOB.out _ (Or.inl q.symm)).1; omega)).trans ((hgB.block _ hl1).trans HZ1.out)) (by omega)
          · have hlo5 : ∀ b, Value.ownBlock (.slice a5 f.body.length k5) = some b → wr.heap.size + 2 ≤ b := fun b hb => by
              have := (ho5.block b hb).1
              first | exact this | ((try simp at this); omega)
            have ho5' := (ho5.mono (base' := w.heap.size + 2) (by simp; omega)).alloc (.cells #[.int .i64 f.root, .string f.pkg, .string f.name, .bool f.init, .int .i64 f.stamp, .slice a5 f.body.length k5] 55)
            have o9 := OwnN.app (x := (f, .slice a5 f.body.length k5)) hown5 ho5' (fun b hb q => by have h1 := hlo5 b hb; have h2 := (HOB.out b q).2; omega) hown9 hg9 hat9
            exact o9.chg (ChgN.set _ _ _ _ (p := fun b => b = w.heap.size + 2) rfl) (fun b hb q => by
              rcases hb with hb | ⟨r, hr, hb⟩
              · rcases hat9 with e | e
                · rw [e] at hb; exact HNE.out b (Or.inl hb) q
                · rw [e] at hb; injection hb with hb; have := hgB.size; (try simp at this hb); omega
              · rw [List.mem_append, List.mem_singleton] at hr
                rcases hr with hr | rfl
                · exact HNE.out b (Or.inr ⟨r, hr, hb⟩) q
                · have := hlo5 b hb; omega)
          · intro b hb q
            have hlo5 : ∀ b, Value.ownBlock (.slice a5 f.body.length k5) = some b → wr.heap.size + 2 ≤ b := fun b hb => by
              have := (ho5.block b hb).1
              first | exact this | ((try simp at this); omega)
            rcases hb with hb | ⟨r, hr, hb⟩
            · rcases hat9 with e | e
              · rw [e] at hb; exact HNE.out b (Or.inl hb) q
              · rw [e] at hb; injection hb with hb; have := hgB.size; (try simp at this hb); omega
            · rw [List.mem_append, List.mem_singleton] at hr
              rcases hr with hr | rfl
              · exact HNE.out b (Or.inr ⟨r, hr, hb⟩) q
              · have := hlo5 b hb; omega
          · exact ((hgw2.tr hgB).grown hg9 (hgw2.tr hgB).size (fun b hb => by have := (HOB.out b (Or.inl hb)).1; omega)).setCell (by show w.heap.size ≤ w.heap.size + 2; omega) _
        case measure => simp [intOf]; omega
      · skip
        go_simp
        refine (HC.out _ (below_drewN hgw2 1)).mono ?_
        rintro e w5 ⟨u5, rfl, ho5, hb5⟩
        obtain ⟨a5, k5, e5, _, _⟩ := ho5.form
        subst e5
        have hgA : Gr wr w5 := (below_drewN (Gr.rfl' _) 1).trans hb5
        obtain ⟨x5, xf5⟩ := row1 ((hgA.block _ hl2).trans HZ2.out)
        refine hK.out _ _ (HS.out _ (ChgN.of_gr hgA)) (fun _ => ?_)
        clear hK K
        try simp only [Act.put, List.getElem_toArray, List.getElem_cons_succ, List.getElem_cons_zero, List.setIfInBounds_toArray, List.set_cons_zero, List.set_cons_succ]
        refine wpAnyH_ready (rs := [1, 8]) (by kernel_rfl) (by simp) ?_
        refine AllReadyH.cons rfl (fun K hK => ?_) (AllReadyH.cons rfl (fun K hK => ?_) (AllReadyH.nil))
        · skip
          go_simp
          refine hK.out _ _ (HS.out _ (ChgN.of_gr hgA)) (fun _ => ?_)
          clear hK K
          try simp only [Act.put, List.getElem_toArray, List.getElem_cons_succ, List.getElem_cons_zero, List.setIfInBounds_toArray, List.set_cons_zero, List.set_cons_succ]
          refine wpAnyH_ready (rs := [8]) (by kernel_rfl) (by simp) ?_
          refine AllReadyH.cons rfl (fun K hK => ?_) (AllReadyH.nil)
          go_simp
          have hgB := hgA.tr (gr_al w5 (.cells #[.int .i64 f.root, .string f.pkg, .string f.name, .bool f.init, .int .i64 f.stamp, .slice a5 f.body.length k5] 55))
          obtain ⟨x6, xf6⟩ := row1 ((hgB.block _ hl2).trans HZ2.out)
          refine hK.out _ _ (HS.out _ (ChgN.of_gr hgB)) (fun _ => ?_)
          clear hK K
          try simp only [Act.put, List.getElem_toArray, List.getElem_cons_succ, List.getElem_cons_zero, List.setIfInBounds_toArray, List.set_cons_zero, List.set_cons_succ]
          refine wpAnyH_ready (rs := [9]) (by kernel_rfl) (by simp) ?_
          refine AllReadyH.cons rfl (fun K hK => ?_) (AllReadyH.nil)
          have hown5 := HO.out.gr hgB
          have hsrc5 := SlR.oneO w5 w.heap.size w5.heap.size (f, .slice a5 f.body.length k5) 55 (enc := eF) (k := 6) rfl (by have := hgA.size; (try simp at this); omega) rfl
          have hz2a := (hgB.block _ hl2).trans HZ2.out
          have hl2b := lt_of_block hz2a
          have hbase5 : w.heap.size + 2 ≤ (w5.alloc (.cells #[.int .i64 f.root, .string f.pkg, .string f.name, .bool f.init, .int .i64 f.stamp, .slice a5 f.body.length k5] 55)).heap.size := by have := hgB.size; (try simp at this ⊢); omega
          refine step_app _ rfl (.tmp 14) (.tmp 21) ti_filO rfl (by simp [Act.eval]) hown5.1 (by simp [Act.eval]) hsrc5 (fun _ _ => rfl) (by simp [eF, Value.oneCell']) (by unfold maxLen; simp; omega) (by simp; omega) hbase5 ?_
          intro v9 w9 hown9 hg9 hat9
          obtain ⟨va9, vc9, hv9, _, _⟩ := hown9.form
          have hv9' : v9 = .slice va9 (M.length + 1) vc9 := by rw [hv9, List.length_append]; rfl
          clear hv9
          subst hv9'
          have hz2b := (hg9.block _ hl2b (by intro q; exact HNE.out _ (Or.inl q.symm) rfl)).trans hz2a
          obtain ⟨y2, yf2⟩ := row1 hz2b
          have hch9 := (ChgN.of_gr (p := (fun b => w.heap.size + 2 ≤ b)) hgB).trans (ChgN.of_grown hg9 (fun b hb => by have := HOB.out b (Or.inl hb); (try dsimp only); omega))
          refine hK.out _ _ (HS.out _ hch9) (fun hS9 => ?_)
          clear hK K
          try simp only [Act.put, List.getElem_toArray, List.getElem_cons_succ, List.getElem_cons_zero, List.setIfInBounds_toArray, List.set_cons_zero, List.set_cons_succ]
          refine wpAnyH_take (i := 10) (v := ?_) rfl (by kernel_rfl) (by kernel_rfl) (by kernel_rfl) (fun _ _ _ h => h) (Or.inl ⟨by rfl, ?_⟩) hS9 ?_
          rotate_left
          · (intro W hSw; (try dsimp only at hSw); go_simp; try (with_reducible rfl))
          try simp only [Act.put, List.getElem_toArray, List.getElem_cons_succ, List.getElem_cons_zero, List.setIfInBounds_toArray, List.set_cons_zero, List.set_cons_succ]
          refine wpAnyH_ready (rs := [11]) (by kernel_rfl) (by simp) ?_
          refine AllReadyH.cons rfl (fun K hK => ?_) (AllReadyH.nil)
          go_simp
          refine hK.out _ _ (HS.out _ (hch9.trans (ChgN.set _ (w.heap.size + 2) 0 _ (by (try dsimp only); omega)))) (fun _ => ?_)
          clear hK K
          try simp only [Act.put, List.getElem_toArray, List.getElem_cons_succ, List.getElem_cons_zero, List.setIfInBounds_toArray, List.set_cons_zero, List.set_cons_succ]
          refine wpAnyH_done (by kernel_rfl) ?_ _
          go_wp2
          go_roundw
          case rel =>
            refine ⟨k + 1, by omega, by go_num, _, M ++ [(f, .slice a5 f.body.length k5)], ?_, by rw [List.length_append, HMl.out]; rfl, ?_, ?_, heap_set1 hz2b, ?_, ?_, ?_⟩
            · rw [List.map_append, HMm.out, List.take_succ_eq_append_getElem (by rw [List.length_map]; exact hlt), List.getElem_map, ← HX.out]; rfl
            · exact set_othero ((hg9.block _ (lt_of_block ((hgB.block _ hl0).trans HZ0.out)) (by intro q; have := (HOB.out _ (Or.inl q.symm)).1; omega)).trans ((hgB.block _ hl0).trans HZ0.out)) (by omega)
            · exact set_othero ((hg9.block _ (lt_of_block ((hgB.block _ hl1).trans HZ1.out)) (by intro q; have := (HOB.out _ (Or.inl q.symm)).1; omega)).trans ((hgB.block _ hl1).trans HZ1.out)) (by omega)
            · have hlo5 : ∀ b, Value.ownBlock (.slice a5 f.body.length k5) = some b → wr.heap.size + 2 ≤ b := fun b hb => by
                have := (ho5.block b hb).1
                first | exact this | ((try simp at this); omega)
              have ho5' := (ho5.mono (base' := w.heap.size + 2) (by simp; omega)).alloc (.cells #[.int .i64 f.root, .string f.pkg, .string f.name, .bool f.init, .int .i64 f.stamp, .slice a5 f.body.length k5] 55)
              have o9 := OwnN.app (x := (f, .slice a5 f.body.length k5)) hown5 ho5' (fun b hb q => by have h1 := hlo5 b hb; have h2 := (HOB.out b q).2; omega) hown9 hg9 hat9
              exact o9.chg (ChgN.set _ _ _ _ (p := fun b => b = w.heap.size + 2) rfl) (fun b hb q => by
                rcases hb with hb | ⟨r, hr, hb⟩
                · rcases hat9 with e | e
                  · rw [e] at hb; exact HNE.out b (Or.inl hb) q
                  · rw [e] at hb; injection hb with hb; have := hgB.size; (try simp at this hb); omega
                · rw [List.mem_append, List.mem_singleton] at hr
                  rcases hr with hr | rfl
                  · exact HNE.out b (Or.inr ⟨r, hr, hb⟩) q
                  · have := hlo5 b hb; omega)
            · intro b hb q
              have hlo5 : ∀ b, Value.ownBlock (.slice a5 f.body.length k5) = some b → wr.heap.size + 2 ≤ b := fun b hb => by
                have := (ho5.block b hb).1
                first | exact this | ((try simp at this); omega)
              rcases hb with hb | ⟨r, hr, hb⟩
              · rcases hat9 with e | e
                · rw [e] at hb; exact HNE.out b (Or.inl hb) q
                · rw [e] at hb; injection hb with hb; have := hgB.size; (try simp at this hb); omega
              · rw [List.mem_append, List.mem_singleton] at hr
                rcases hr with hr | rfl
                · exact HNE.out b (Or.inr ⟨r, hr, hb⟩) q
                · have := hlo5 b hb; omega
            · exact ((hgw2.tr hgB).grown hg9 (hgw2.tr hgB).size (fun b hb => by have := (HOB.out b (Or.inl hb)).1; omega)).setCell (by show w.heap.size ≤ w.heap.size + 2; omega) _
          case measure => simp [intOf]; omega
        · skip
          go_simp
          have hgB := hgA.tr (gr_al w5 (.cells #[.int .i64 f.root, .string f.pkg, .string f.name, .bool f.init, .int .i64 f.stamp, .slice a5 f.body.length k5] 55))
          obtain ⟨x6, xf6⟩ := row1 ((hgB.block _ hl2).trans HZ2.out)
          refine hK.out _ _ (HS.out _ (ChgN.of_gr hgB)) (fun _ => ?_)
          clear hK K
          try simp only [Act.put, List.getElem_toArray, List.getElem_cons_succ, List.getElem_cons_zero, List.setIfInBounds_toArray, List.set_cons_zero, List.set_cons_succ]
          refine wpAnyH_ready (rs := [1]) (by kernel_rfl) (by simp) ?_
          refine AllReadyH.cons rfl (fun K hK => ?_) (AllReadyH.nil)
          go_simp
          refine hK.out _ _ (HS.out _ (ChgN.of_gr hgB)) (fun _ => ?_)
          clear hK K
          try simp only [Act.put, List.getElem_toArray, List.getElem_cons_succ, List.getElem_cons_zero, List.setIfInBounds_toArray, List.set_cons_zero, List.set_cons_succ]
          refine wpAnyH_ready (rs := [9]) (by kernel_rfl) (by simp) ?_
          refine AllReadyH.cons rfl (fun K hK => ?_) (AllReadyH.nil)
          have hown5 := HO.out.gr hgB
          have hsrc5 := SlR.oneO w5 w.heap.size w5.heap.size (f, .slice a5 f.body.length k5) 55 (enc := eF) (k := 6) rfl (by have := hgA.size; (try simp at this); omega) rfl
          have hz2a := (hgB.block _ hl2).trans HZ2.out
          have hl2b := lt_of_block hz2a
          have hbase5 : w.heap.size + 2 ≤ (w5.alloc (.cells #[.int .i64 f.root, .string f.pkg, .string f.name, .bool f.init, .int .i64 f.stamp, .slice a5 f.body.length k5] 55)).heap.size := by have := hgB.size; (try simp at this ⊢); omega
          refine step_app _ rfl (.tmp 14) (.tmp 21) ti_filO rfl (by simp [Act.eval]) hown5.1 (by simp [Act.eval]) hsrc5 (fun _ _ => rfl) (by simp [eF, Value.oneCell']) (by unfold maxLen; simp; omega) (by simp; omega) hbase5 ?_
          intro v9 w9 hown9 hg9 hat9
          obtain ⟨va9, vc9, hv9, _, _⟩ := hown9.form
          have hv9' : v9 = .slice va9 (M.length + 1) vc9 := by rw [hv9, List.length_append]; rfl
          clear hv9
          subst hv9'
          have hz2b := (hg9.block _ hl2b (by intro q; exact HNE.out _ (Or.inl q.symm) rfl)).trans hz2a
          obtain ⟨y2, yf2⟩ := row1 hz2b
          have hch9 := (ChgN.of_gr (p := (fun b => w.heap.size + 2 ≤ b)) hgB).trans (ChgN.of_grown hg9 (fun b hb => by have := HOB.out b (Or.inl hb); (try dsimp only); omega))
          refine hK.out _ _ (HS.out _ hch9) (fun hS9 => ?_)
          clear hK K
          try simp only [Act.put, List.getElem_toArray, List.getElem_cons_succ, List.getElem_cons_zero, List.setIfInBounds_toArray, List.set_cons_zero, List.set_cons_succ]
          refine wpAnyH_take (i := 10) (v := ?_) rfl (by kernel_rfl) (by kernel_rfl) (by kernel_rfl) (fun _ _ _ h => h) (Or.inl ⟨by rfl, ?_⟩) hS9 ?_
          rotate_left
          · (intro W hSw; (try dsimp only at hSw); go_simp; try (with_reducible rfl))
          try simp only [Act.put, List.getElem_toArray, List.getElem_cons_succ, List.getElem_cons_zero, List.setIfInBounds_toArray, List.set_cons_zero, List.set_cons_succ]
          refine wpAnyH_ready (rs := [11]) (by kernel_rfl) (by simp) ?_
          refine AllReadyH.cons rfl (fun K hK => ?_) (AllReadyH.nil)
          go_simp
          refine hK.out _ _ (HS.out _ (hch9.trans (ChgN.set _ (w.heap.size + 2) 0 _ (by (try dsimp only); omega)))) (fun _ => ?_)
          clear hK K
          try simp only [Act.put, List.getElem_toArray, List.getElem_cons_succ, List.getElem_cons_zero, List.setIfInBounds_toArray, List.set_cons_zero, List.set_cons_succ]
          refine wpAnyH_done (by kernel_rfl) ?_ _
          go_wp2
          go_roundw
          case rel =>
            refine ⟨k + 1, by omega, by go_num, _, M ++ [(f, .slice a5 f.body.length k5)], ?_, by rw [List.length_append, HMl.out]; rfl, ?_, ?_, heap_set1 hz2b, ?_, ?_, ?_⟩
            · rw [List.map_append, HMm.out, List.take_succ_eq_append_getElem (by rw [List.length_map]; exact hlt), List.getElem_map, ← HX.out]; rfl
            · exact set_othero ((hg9.block _ (lt_of_block ((hgB.block _ hl0).trans HZ0.out)) (by intro q; have := (HOB.out _ (Or.inl q.symm)).1; omega)).trans ((hgB.block _ hl0).trans HZ0.out)) (by omega)
            · exact set_othero ((hg9.block _ (lt_of_block ((hgB.block _ hl1).trans HZ1.out)) (by intro q; have := (HOB.out _ (Or.inl q.symm)).1; omega)).trans ((hgB.block _ hl1).trans HZ1.out)) (by omega)
            · have hlo5 : ∀ b, Value.ownBlock (.slice a5 f.body.length k5) = some b → wr.heap.size + 2 ≤ b := fun b hb => by
                have := (ho5.block b hb).1
                first | exact this | ((try simp at this); omega)
              have ho5' := (ho5.mono (base' := w.heap.size + 2) (by simp; omega)).alloc (.cells #[.int .i64 f.root, .string f.pkg, .string f.name, .bool f.init, .int .i64 f.stamp, .slice a5 f.body.length k5] 55)
              have o9 := OwnN.app (x := (f, .slice a5 f.body.length k5)) hown5 ho5' (fun b hb q => by have h1 := hlo5 b hb; have h2 := (HOB.out b q).2; omega) hown9 hg9 hat9
              exact o9.chg (ChgN.set _ _ _ _ (p := fun b => b = w.heap.size + 2) rfl) (fun b hb q => by
                rcases hb with hb | ⟨r, hr, hb⟩
                · rcases hat9 with e | e
                  · rw [e] at hb; exact HNE.out b (Or.inl hb) q
                  · rw [e] at hb; injection hb with hb; have := hgB.size; (try simp at this hb); omega
                · rw [List.mem_append, List.mem_singleton] at hr
                  rcases hr with hr | rfl
                  · exact HNE.out b (Or.inr ⟨r, hr, hb⟩) q
                  · have := hlo5 b hb; omega)
            · intro b hb q
              have hlo5 : ∀ b, Value.ownBlock (.slice a5 f.body.length k5) = some b → wr.heap.size + 2 ≤ b := fun b hb => by
                have := (ho5.block b hb).1
                first | exact this | ((try simp at this); omega)
              rcases hb with hb | ⟨r, hr, hb⟩
              · rcases hat9 with e | e
                · rw [e] at hb; exact HNE.out b (Or.inl hb) q
                · rw [e] at hb; injection hb with hb; have := hgB.size; (try simp at this hb); omega
              · rw [List.mem_append, List.mem_singleton] at hr
                rcases hr with hr | rfl
                · exact HNE.out b (Or.inr ⟨r, hr, hb⟩) q
                · have := hlo5 b hb; omega
            · exact ((hgw2.tr hgB).grown hg9 (hgw2.tr hgB).size (fun b hb => by have := (HOB.out b (Or.inl hb)).1; omega)).setCell (by show w.heap.size ≤ w.heap.size + 2; omega) _
          case measure => simp [intOf]; omega
    · obtain ⟨ua, uc, rfl, _, _⟩ := hown.1.form
      obtain ⟨x0, _⟩ := row1 hz0
      obtain ⟨x1, xf1⟩ := row1 hz1
      obtain ⟨x2, xf2⟩ := row1 hz2
      have HZ1 := Lib.hid hz1
      have HO := Lib.hid hown
      have HNE := Lib.hid hne
      clear hz0 hz1 hz2 hown hne
      go_wp2
      refine bodyPost_ret (results_cell_row rfl _ _ (w.heap.size + 1) 25 _ (0, 0) _ rfl (heap_set1 HZ1.out) Tryd.underlying25 rfl (by kernel_rfl)) rfl ?_
      refine ⟨_, M, rfl, ?_, HO.out.chg (ChgN.set _ _ _ _ (p := fun b => b = w.heap.size + 1) rfl) (fun b hb q => by have := (HO.out.block b hb).1; omega), hgw.setCell (by show w.heap.size ≤ w.heap.size + 1; omega) _⟩
      rw [HMm.out, List.take_of_length_le (by rw [List.length_map]; omega)]
end Go.Proofs.YtepljjaienpepaaDoor
