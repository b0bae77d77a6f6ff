/-
  Walks: disks drawn. Printed by diskf.py.
-/
import Derived.Test.YtepljjaienpepaaDoorDiskRZ
namespace Go.Proofs.YtepljjaienpepaaDoor
open Go Go.RowKit Imp
set_option linter.unusedVariables false
set_option linter.unusedSimpArgs false
theorem OkW.grown {w w' : World} {g : Nat} (h : OkW w) (hg : w.grownBy w' (some g)) (hne : g ≠ 0) : OkW w' := by
  obtain ⟨m, hm⟩ := h
  exact ⟨m, hg.cell hm (by intro y; injection y with y; exact hne y.symm)⟩
theorem grown_al' (w : World) (g : Nat) : w.grownBy (w.drewN 1) (some g) := ⟨rfl, rfl, rfl, Nat.le_refl _, fun _ _ _ => rfl⟩
theorem OkW.lt {w : World} (h : OkW w) : 0 < w.heap.size := by
  obtain ⟨m, hm⟩ := h
  exact World.block_lt_of_cell? w _ hm
theorem DkO.keep {w w' : World} {base : Nat} {tv dv : Value} {c : Int} {T : List FR} {D : List DR} (h : DkO w base tv c dv T D) (hs : Same base w.heap.size w w') (hz : w.heap.size ≤ w'.heap.size) : DkO w' base tv c dv T D :=
  ⟨⟨h.1.1.keep (fun b hb => hs b (h.1.1.block b hb).1 (h.1.1.block b hb).2), fun r hr => (h.1.2.1 r hr).keep (fun b hb => hs b ((h.1.2.1 r hr).block b hb).1 ((h.1.2.1 r hr).block b hb).2), h.1.2.2⟩, ⟨h.2.1.1.keep (fun b hb => hs b (h.2.1.1.block b hb).1 (h.2.1.1.block b hb).2), fun r hr => (h.2.1.2.1 r hr).keep (fun b hb => hs b ((h.2.1.2.1 r hr).block b hb).1 ((h.2.1.2.1 r hr).block b hb).2), h.2.1.2.2⟩, h.2.2⟩
theorem DkO.mono {w : World} {base base' : Nat} {tv dv : Value} {c : Int} {T : List FR} {D : List DR} (h : DkO w base tv c dv T D) (hb : base' ≤ base) : DkO w base' tv c dv T D :=
  ⟨OwnN.mono h.1 hb, OwnN.mono h.2.1 hb, h.2.2⟩
theorem snewDisk_any (w : World) : Calls Tryd.prog 35 #[] w fun e w' => e = .returned (vDk (.slice none 0 0) 0 (.slice none 0 0)) ∧ Gr w w' := by
  have hz := heap_alloc_new w (.cells #[.slice none 0 0, .int .i64 0, .slice none 0 0] 28)
  obtain ⟨⟨x0, x1, x2⟩, f0, f1, f2⟩ := rows3 hz
  have HP := Lib.hid (put3 hz (.slice none 0 0) (.int .i64 0) (.slice none 0 0))
  clear hz
  go_enter Tryd.func35, Tryd.ntmps35
  go_wp2
  first
    | (refine bodyPost_ret (results_cell_row rfl _ _ w.heap.size 28 _ (0, 0) _ rfl HP.out.1 Tryd.underlying28 rfl (by kernel_rfl)) rfl ?_
       exact ⟨rfl, (gr_al w _).grown HP.out.2 (gr_al w _).size (fun b hb => by injection hb with hb; omega)⟩)
    | (refine bodyPost_ret (results_cell_row rfl _ _ w.heap.size 28 _ (0, 0) _ rfl (heap_alloc_new w (.cells #[.slice none 0 0, .int .i64 0, .slice none 0 0] 28)) Tryd.underlying28 rfl (by kernel_rfl)) rfl ?_
       exact ⟨rfl, gr_al w _⟩)
def DDskS (w : World) (g p c : Nat) (e : Ending) (w' : World) : Prop :=
  ∃ tv cl dv, ∃ T : List FR, ∃ D : List DR, ∃ p', e = .returned (vDk tv cl dv) ∧ DkO w' w.heap.size tv cl dv T D ∧ Rdr w' g p' ∧ p' ≤ p + c ∧ w.grownBy w' (some g)
set_option maxHeartbeats 12800000 in
set_option maxRecDepth 10000 in
theorem someDisk_any (g p : Nat) (w : World) (h : Rdr w g p) (hok : OkW w) (hgl : g ≠ 0) (hp : p < 240000000) :
    Calls Tryd.prog 24 #[.pointer (some ⟨g, 0, none⟩)] w (DDskS w g p 1100) := by
  have hlt := h.lt
  have HND := Lib.hid (snewDisk_any (w.alloc (.cells #[.slice none 0 0, .int .i64 0, .slice none 0 0] 28)))
  have hz0 := heap_alloc_new w (.cells #[.slice none 0 0, .int .i64 0, .slice none 0 0] 28)
  have gg0 := grown_al w (.cells #[.slice none 0 0, .int .i64 0, .slice none 0 0] 28) (some g)
  go_enter Tryd.func24, Tryd.ntmps24
  go_wp2_with fail
  refine HND.out.mono ?_
  rintro e w1 ⟨rfl, hb1⟩
  have hz0 := (hb1.block _ (lt_of_block hz0)).trans hz0
  have hlo := lt_of_block hz0
  have g3 := gr_al w1 (.cells #[.slice none 0 0, .int .i64 0, .slice none 0 0] 28)
  have hz3 := heap_alloc_new w1 (.cells #[.slice none 0 0, .int .i64 0, .slice none 0 0] 28)
  have hz0 := (g3.block _ hlo).trans hz0
  have gg1 : w.grownBy (w1.alloc (.cells #[.slice none 0 0, .int .i64 0, .slice none 0 0] 28)) (some g) := grown_tr (grown_tr gg0 ⟨hb1.os, hb1.tape, hb1.output, hb1.size, fun i hi _ => hb1.block i hi⟩) (grown_al w1 (.cells #[.slice none 0 0, .int .i64 0, .slice none 0 0] 28) (some g))
  have hr1 := ((h.al (.cells #[.slice none 0 0, .int .i64 0, .slice none 0 0] 28)).gr hb1).al (.cells #[.slice none 0 0, .int .i64 0, .slice none 0 0] 28)
  have hone := one_lit g p [5, 4, 6, 3, 8, 1, 0] (w1.alloc (.cells #[.slice none 0 0, .int .i64 0, .slice none 0 0] 28)) hr1 (by omega) (by decide) (by decide)
  rw [World.size_alloc] at hone
  have HONE := Lib.hid hone
  have HZ0 := Lib.hid hz0
  have HZ3 := Lib.hid hz3
  clear hone hz0 hz3 HND gg0 hr1
  go_wp2_with fail
  refine HONE.out.mono ?_
  rintro e w2 ⟨n, rfl, hin, hr2, hg2⟩
  have hn : 0 ≤ n ∧ n ≤ 8 := by simp at hin; omega
  obtain ⟨m, rfl⟩ : ∃ m : Nat, n = m := ⟨n.toNat, by omega⟩
  have hz0 := keep_blk HZ0.out hg2 (by omega)
  have hz3 := keep_blk HZ3.out hg2 (by omega)
  have gg2 := grown_tr gg1 hg2
  have hs2 := hg2.size
  simp only [World.size_alloc] at hs2
  have hdn : DkO w2 (w1.heap.size + 1) (.slice none 0 0) 0 (.slice none 0 0) [] [] := dkO_nil _ _
  clear hin hg2 HONE HZ0 HZ3 gg1
  go_wp2
  go_loopw [4] (fun i wr => ∃ j : Nat, i = .int .i64 j ∧ ∃ tv cl dv, ∃ T : List FR, ∃ D : List DR, ∃ p', wr.heap[w.heap.size]? = some (.cells #[.slice none 0 0, .int .i64 0, .slice none 0 0] 28) ∧ wr.heap[w1.heap.size]? = some (.cells #[tv, .int .i64 cl, dv] 28) ∧ DkO wr (w1.heap.size + 1) tv cl dv T D ∧ Rdr wr g p' ∧ p' + 125 * j ≤ p + 1100 ∧ w.grownBy wr (some g)) (fun i _ => (intOf i).toNat)
  case atStart => exact ⟨m, rfl, _, _, _, [], [], _, hz0, hz3, hdn, hr2, by omega, gg2⟩
  case round =>
    clear hz0 hz3 hdn hr2 gg2
    obtain ⟨j, rfl, tv, cl, dv, T, D, p', hz0, hz3, hdk, hR, hp', gg⟩ := hrel
    obtain ⟨ta, tc, rfl, _, _⟩ := hdk.1.1.form
    obtain ⟨da, dc, rfl, _, _⟩ := hdk.2.1.1.form
    have hok1 := OkW.grown hok gg hgl
    have hl3 := lt_of_block hz3
    by_cases hlt2 : 0 < j
    · have hjw : IntKind.i64.wrap ((j : Int) - 1) = (j : Int) - 1 := IntWalk.i64_in _ (by omega)
      have HO1 := Lib.hid (one_lit g p' [1, 1, 2, 0] wr hR (by omega) (by decide) (by decide))
      go_wp2_with fail
      refine HO1.out.mono ?_
      rintro e w2 ⟨ticks, rfl, hin, hr2, hg2⟩
      have htk : 0 ≤ ticks ∧ ticks ≤ 200 := by simp at hin; omega
      have hz0 := keep_blk hz0 hg2 (by omega)
      have hz3 := keep_blk hz3 hg2 (by omega)
      have hsa : Same (w1.heap.size + 1) wr.heap.size wr w2 := Same.of_grown hg2 (Nat.le_refl _) (fun k hk => by injection hk with hk; left; omega)
      have gg := grown_tr gg hg2
      have hs2 := hg2.size
      have hok2 := OkW.grown hok1 hg2 hgl
      have g6 := gr_al w2 (.cells #[.slice none 0 0, .int .i64 0, .slice none 0 0] 28)
      have hz6 := heap_alloc_new w2 (.cells #[.slice none 0 0, .int .i64 0, .slice none 0 0] 28)
      have hz0 := (g6.block _ (lt_of_block hz0)).trans hz0
      have hz3 := (g6.block _ (lt_of_block hz3)).trans hz3
      have hsa := hsa.trans (Same.of_below g6 hs2)
      have hok2 := hok2.gr g6
      have gg := grown_tr gg (grown_al w2 (.cells #[.slice none 0 0, .int .i64 0, .slice none 0 0] 28) (some g))
      have hr2 := hr2.al (.cells #[.slice none 0 0, .int .i64 0, .slice none 0 0] 28)
      have HPK := Lib.hid (pick_any g _ 6 (w2.alloc (.cells #[.slice none 0 0, .int .i64 0, .slice none 0 0] 28)) hr2 (by omega) (by omega))
      clear hin hg2 HO1 hR
      go_wp2_with fail
      refine HPK.out.mono ?_
      rintro e w3 ⟨q, rfl, hq0, hq1, hr3, hg3⟩
      have hq1 := hq1 (by omega)
      have hz0 := keep_blk hz0 hg3 (by omega)
      have hz3 := keep_blk hz3 hg3 (by omega)
      have hz6 := keep_blk hz6 hg3 (by omega)
      have hs3 := hg3.size
      simp only [World.size_alloc] at hs3
      have hsa := hsa.trans (Same.of_grown hg3 (by simp; omega) (fun k hk => by injection hk with hk; left; omega))
      have gg := grown_tr gg hg3
      have hok3 := OkW.grown hok2 hg3 hgl
      have hdk3 : DkO w3 (w1.heap.size + 1) (.slice ta T.length tc) cl (.slice da D.length dc) T D := hdk.keep hsa (by omega)
      obtain ⟨⟨x0, x1, x2⟩, _⟩ := rows3 hz3
      have HZ0 := Lib.hid hz0
      have HZ3 := Lib.hid hz3
      have HZ6 := Lib.hid hz6
      have HDK := Lib.hid hdk3
      have hcs : ∀ W, (w3.grownBy W (some g) ∨ w3.grownBy W (some w2.heap.size)) → W.cell? ⟨w1.heap.size, 0, none⟩ = some (.slice ta T.length tc) ∧ W.cell? ⟨w1.heap.size, 1, none⟩ = some (.int .i64 cl) ∧ W.cell? ⟨w1.heap.size, 2, none⟩ = some (.slice da D.length dc) := fun W hW => by
        rcases hW with hW | hW
        · exact (rows3 (keep_blk HZ3.out hW (by omega))).1
        · exact (rows3 (keep_blk HZ3.out hW (by omega))).1
      have HCS := Lib.hid hcs
      have HDKR := Lib.hid hdk
      clear hz0 hz3 hz6 hg3 HPK hdk3 hcs hdk
      by_cases hc : q = 0 ∧ 0 < T.length

      · obtain ⟨hc1, hc2⟩ := hc
        subst hc1
        have hci : (0 : Int) < (T.length : Int) := by omega
        have HPR := Lib.hid (pick_any g _ (T.length : Int) (w3.drewN 1) hr3 (by omega) (by have := ((okTree_iff _).1 ((okDisk_iff _ _ _).1 HDK.out.2.2.1).1).2.2; simp only [List.length_map] at this; omega))
        go_wp2
        refine wp_region_held_drew (S := (fun W => (W.cell? ⟨w1.heap.size, 0, none⟩ = some (.slice ta T.length tc) ∧ W.cell? ⟨w1.heap.size, 1, none⟩ = some (.int .i64 cl) ∧ W.cell? ⟨w1.heap.size, 2, none⟩ = some (.slice da D.length dc)))) (by kernel_rfl) (HCS.out _ (Or.inl (grown_al' w3 g))) (fun hS0 => ?_)
        refine wpAnyH_take (i := 0) (v := ?_) rfl (by kernel_rfl) (by kernel_rfl) (by kernel_rfl) (fun _ _ _ h => h) (Or.inl ⟨by rfl, ?_⟩) hS0 ?_
        rotate_left
        · (intro W hSw; (try dsimp only at hSw); go_simp; try (with_reducible rfl))
        try simp only [Act.put, List.getElem_toArray, List.getElem_cons_succ, List.getElem_cons_zero, List.setIfInBounds_toArray, List.set_cons_zero, List.set_cons_succ]
        refine wpAnyH_take (i := 1) (v := ?_) rfl (by kernel_rfl) (by kernel_rfl) (by kernel_rfl) (fun _ _ _ h => h) (Or.inl ⟨by rfl, ?_⟩) hS0 ?_
        rotate_left
        · (intro W hSw; (try dsimp only at hSw); go_simp; try (with_reducible rfl))
        try simp only [Act.put, List.getElem_toArray, List.getElem_cons_succ, List.getElem_cons_zero, List.setIfInBounds_toArray, List.set_cons_zero, List.set_cons_succ]
        refine wpAnyH_take (i := 2) (v := ?_) rfl (by kernel_rfl) (by kernel_rfl) (by kernel_rfl) (fun _ _ _ h => h) (Or.inl ⟨by rfl, ?_⟩) hS0 ?_
        rotate_left
        · (intro W hSw; (try dsimp only at hSw); go_simp; try (with_reducible rfl))
        try simp only [Act.put, List.getElem_toArray, List.getElem_cons_succ, List.getElem_cons_zero, List.setIfInBounds_toArray, List.set_cons_zero, List.set_cons_succ]
        refine wpAnyH_take (i := 3) (v := ?_) rfl (by kernel_rfl) (by kernel_rfl) (by kernel_rfl) (fun _ _ _ h => h) (Or.inl ⟨by rfl, ?_⟩) hS0 ?_
        rotate_left
        · (intro W hSw; (try dsimp only at hSw); go_simp; try (with_reducible rfl))
        try simp only [Act.put, List.getElem_toArray, List.getElem_cons_succ, List.getElem_cons_zero, List.setIfInBounds_toArray, List.set_cons_zero, List.set_cons_succ]
        refine wpAnyH_take (i := 4) (v := ?_) rfl (by kernel_rfl) (by kernel_rfl) (by kernel_rfl) (fun _ _ _ h => h) (Or.inl ⟨by rfl, ?_⟩) hS0 ?_
        rotate_left
        · (intro W hSw; (try dsimp only at hSw); go_simp; try (with_reducible rfl))
        try simp only [Act.put, List.getElem_toArray, List.getElem_cons_succ, List.getElem_cons_zero, List.setIfInBounds_toArray, List.set_cons_zero, List.set_cons_succ]
        refine wpAnyH_take (i := 5) (v := ?_) rfl (by kernel_rfl) (by kernel_rfl) (by kernel_rfl) (fun _ _ _ h => h) (Or.inl ⟨by rfl, ?_⟩) hS0 ?_
        rotate_left
        · (intro W hSw; (try dsimp only at hSw); go_simp; try (with_reducible rfl))
        try simp only [Act.put, List.getElem_toArray, List.getElem_cons_succ, List.getElem_cons_zero, List.setIfInBounds_toArray, List.set_cons_zero, List.set_cons_succ]
        refine wpAnyH_take (i := 7) (v := ?_) rfl (by kernel_rfl) (by kernel_rfl) (by kernel_rfl) (fun _ _ _ h => h) (Or.inl ⟨by rfl, ?_⟩) hS0 ?_
        rotate_left
        · (intro W hSw; (try dsimp only at hSw); go_simp; try (with_reducible rfl))
        try simp only [Act.put, List.getElem_toArray, List.getElem_cons_succ, List.getElem_cons_zero, List.setIfInBounds_toArray, List.set_cons_zero, List.set_cons_succ]
        refine wpAnyH_ready (rs := [6]) (by kernel_rfl) (by simp) ?_
        refine AllReadyH.cons rfl (fun K hK => ?_) AllReadyH.nil
        go_simp
        refine (HPR.out).mono ?_
        rintro e w4 ⟨q4, rfl, hq40, hq41, hr4, hg4⟩
        try go_wp2_with fail
        refine hK.out _ _ (HCS.out _ (Or.inl ⟨hg4.os, hg4.tape, hg4.output, hg4.size, hg4.block⟩)) (fun hS1 => ?_)
        clear hK K
        try simp only [Act.put, List.getElem_toArray, List.getElem_cons_succ, List.getElem_cons_zero, List.setIfInBounds_toArray, List.set_cons_zero, List.set_cons_succ]
        have g34 : w3.grownBy w4 (some g) := ⟨hg4.os, hg4.tape, hg4.output, hg4.size, hg4.block⟩
        have hq41 := hq41 (by omega)
        obtain ⟨k4, rfl⟩ : ∃ k4 : Nat, q4 = k4 := ⟨q4.toNat, by omega⟩
        have gg4 := grown_tr gg g34
        have hs4 := g34.size
        have hok4 := OkW.grown hok3 g34 hgl
        have hdk4 := HDK.out.keep (Same.of_grown g34 (Nat.le_refl _) (fun k hk => by injection hk with hk; left; omega)) hs4
        have HDR := Lib.hid (sDiskRemove_any (.slice ta T.length tc) (.slice da D.length dc) T cl D k4 ticks w4 hok4 (OwnN.flR hdk4.1) (OwnD.reads hdk4.2.1) (Nat.le_refl _) hdk4.2.2.1 hdk4.2.2.2 (by omega) htk)
        clear hdk4
        refine wpAnyH_ready (rs := [8]) (by kernel_rfl) (by simp) ?_
        refine AllReadyH.cons rfl (fun K hK => ?_) (AllReadyH.nil)
        go_simp
        refine HDR.out.mono ?_
        rintro e w5 ⟨hg5, tv5, c5, dv5, T5, D5, ok5, rfl, hD5⟩
        obtain ⟨t5a, t5c, rfl, _, _⟩ := hD5.1.1.form
        obtain ⟨d5a, d5c, rfl, _, _⟩ := hD5.2.1.1.form
        have gg5 := grown_tr gg4 ⟨hg5.os, hg5.tape, hg5.output, hg5.size, fun i hi _ => hg5.block i hi⟩
        have g35 : w3.grownBy w5 (some g) := grown_tr g34 ⟨hg5.os, hg5.tape, hg5.output, hg5.size, fun i hi _ => hg5.block i hi⟩
        have hs5 := hg5.size
        have y0 := keep_blk HZ0.out g35 (by omega)
        have y3 := keep_blk HZ3.out g35 (by omega)
        have y6 := keep_blk HZ6.out g35 (by omega)
        have hr5 := hr4.gr hg5
        obtain ⟨⟨p0, p1, p2⟩, n0, n1, n2⟩ := rows3 y6
        have hput := put3 y6 (.slice t5a T5.length t5c) (.int .i64 c5) (.slice d5a D5.length d5c)
        have hS5 := HCS.out w5 (Or.inl g35)
        obtain ⟨W6, hW6⟩ : ∃ W6, W6 = (((w5.setCell ⟨w2.heap.size, 0, none⟩ (.slice t5a T5.length t5c)).setCell ⟨w2.heap.size, 1, none⟩ (.int .i64 c5)).setCell ⟨w2.heap.size, 2, none⟩ (.slice d5a D5.length d5c)) := ⟨_, rfl⟩
        rw [← hW6] at hput
        have y06 := keep_blk y0 hput.2 (by omega)
        have y36 := keep_blk y3 hput.2 (by omega)
        have hr6 := hr5.grown hput.2 (fun b hb => by injection hb with hb; omega)
        have gg6 := grown_fresh gg5 hput.2 (by omega)
        have hs6 := hput.2.size
        have hD6 : DkO W6 (w1.heap.size + 1) _ c5 _ T5 D5 := (hD5.keep (Same.of_grown hput.2 (Nat.le_refl _) (fun k hk => by injection hk with hk; left; omega)) hs6).mono (by omega)
        have hdk6 : DkO W6 (w1.heap.size + 1) _ cl _ T D := HDKR.out.keep ((hsa.trans (Same.of_grown g35 (by omega) (fun k hk => by injection hk with hk; left; omega))).trans (Same.of_grown hput.2 (by omega) (fun k hk => by injection hk with hk; right; omega))) (by omega)
        have hS6 : (W6.cell? ⟨w1.heap.size, 0, none⟩ = some (.slice ta T.length tc) ∧ W6.cell? ⟨w1.heap.size, 1, none⟩ = some (.int .i64 cl) ∧ W6.cell? ⟨w1.heap.size, 2, none⟩ = some (.slice da D.length dc)) := (rows3 y36).1
        have HW6 := Lib.hid hW6
        have HS6 := Lib.hid hS6
        have HP6 := Lib.hid hput.1
        have HD6 := Lib.hid hD6
        have HDK6 := Lib.hid hdk6
        have HY06 := Lib.hid y06
        have HY36 := Lib.hid y36
        clear hW6 hput hD6 hdk6 y0 y3 y6 y06 y36 hS6 hD5
        refine hK.out _ _ hS5 (fun hS1 => ?_)
        clear hK K hS5
        try simp only [Act.put, List.getElem_toArray, List.getElem_cons_succ, List.getElem_cons_zero, List.setIfInBounds_toArray, List.set_cons_zero, List.set_cons_succ]
        refine wpAnyH_take (i := 9) (v := ?_) rfl (by kernel_rfl) (by kernel_rfl) (by kernel_rfl) (fun _ _ _ h => h) (Or.inl ⟨by rfl, ?_⟩) hS1 ?_
        rotate_left
        · (intro W hSw; (try dsimp only at hSw); go_simp; try (with_reducible rfl))
        try simp only [Act.put, List.getElem_toArray, List.getElem_cons_succ, List.getElem_cons_zero, List.setIfInBounds_toArray, List.set_cons_zero, List.set_cons_succ]
        refine wpAnyH_take (i := 10) (v := ?_) rfl (by kernel_rfl) (by kernel_rfl) (by kernel_rfl) (fun _ _ _ h => h) (Or.inl ⟨by rfl, ?_⟩) hS1 ?_
        rotate_left
        · (intro W hSw; (try dsimp only at hSw); go_simp; try (with_reducible rfl))
        try simp only [Act.put, List.getElem_toArray, List.getElem_cons_succ, List.getElem_cons_zero, List.setIfInBounds_toArray, List.set_cons_zero, List.set_cons_succ]
        refine wpAnyH_take (i := 11) (v := ?_) rfl (by kernel_rfl) (by kernel_rfl) (by kernel_rfl) (fun _ _ _ h => h) (Or.inl ⟨by rfl, ?_⟩) hS1 ?_
        rotate_left
        · (intro W hSw; (try dsimp only at hSw); go_simp; try (with_reducible rfl))
        try simp only [Act.put, List.getElem_toArray, List.getElem_cons_succ, List.getElem_cons_zero, List.setIfInBounds_toArray, List.set_cons_zero, List.set_cons_succ]
        refine wpAnyH_ready (rs := [12]) (by kernel_rfl) (by simp) ?_
        refine AllReadyH.cons rfl (fun K hK => ?_) (AllReadyH.nil)
        go_simp
        rw [← HW6.out]
        refine hK.out _ _ HS6.out (fun hS2 => ?_)
        clear hK K
        try simp only [Act.put, List.getElem_toArray, List.getElem_cons_succ, List.getElem_cons_zero, List.setIfInBounds_toArray, List.set_cons_zero, List.set_cons_succ]
        refine wpAnyH_take (i := 13) (v := ?_) rfl (by kernel_rfl) (by kernel_rfl) (by kernel_rfl) (fun _ _ _ h => h) (Or.inl ⟨by rfl, ?_⟩) hS2 ?_
        rotate_left
        · (intro W hSw; (try dsimp only at hSw); go_simp; try (with_reducible rfl))
        try simp only [Act.put, List.getElem_toArray, List.getElem_cons_succ, List.getElem_cons_zero, List.setIfInBounds_toArray, List.set_cons_zero, List.set_cons_succ]
        refine wpAnyH_done (by kernel_rfl) ?_ _
        clear x0 x1 x2 p0 p1 p2 n0 n1 n2
        obtain ⟨⟨p0, p1, p2⟩, n0, n1, n2⟩ := rows3 HP6.out
        obtain ⟨⟨x0, x1, x2⟩, f0, f1, f2⟩ := rows3 HY36.out
        cases ok5
        · go_wp2
          go_roundw
          case rel => exact ⟨j - 1, by go_num, _, _, _, T, D, _, HY06.out, HY36.out, HDK6.out, hr6, by omega, gg6⟩
          case measure => simp [intOf]; omega
        · have hp7 := put3 HY36.out (.slice t5a T5.length t5c) (.int .i64 c5) (.slice d5a D5.length d5c)
          have HP7 := Lib.hid hp7
          clear hp7
          go_wp2
          go_roundw
          case rel =>
            refine ⟨j - 1, by go_num, _, _, _, T5, D5, _, keep_blk HY06.out HP7.out.2 (by omega), HP7.out.1, HD6.out.keep (Same.of_grown HP7.out.2 (Nat.le_refl _) (fun k hk => by injection hk with hk; left; omega)) HP7.out.2.size, hr6.grown HP7.out.2 (fun b hb => by injection hb with hb; omega), by omega, grown_fresh gg6 HP7.out.2 (by omega)⟩
          case measure => simp [intOf]; omega
      · have hcb : ((q == 0) && decide ((0 : Int) < (T.length : Int))) = false := by
          rw [Bool.and_eq_false_iff]
          by_cases h1 : q = 0
          · right; exact decide_eq_false (by omega)
          · left; simp [h1]
        have HSF := Lib.hid (someFile_sm g _ (w3.drewN 1) hr3 (by omega))
        by_cases h1 : q = 0
        · subst h1
          have hcn : ¬ 0 < T.length := fun y => hc ⟨rfl, y⟩
          have hci : decide ((0 : Int) < (T.length : Int)) = false := decide_eq_false (by omega)
          clear hcb hc
          go_wp2
          refine wp_region_held_drew (S := (fun W => (W.cell? ⟨w1.heap.size, 0, none⟩ = some (.slice ta T.length tc) ∧ W.cell? ⟨w1.heap.size, 1, none⟩ = some (.int .i64 cl) ∧ W.cell? ⟨w1.heap.size, 2, none⟩ = some (.slice da D.length dc)))) (by kernel_rfl) (HCS.out _ (Or.inl (grown_al' w3 g))) (fun hS0 => ?_)
          refine wpAnyH_take (i := 0) (v := ?_) rfl (by kernel_rfl) (by kernel_rfl) (by kernel_rfl) (fun _ _ _ h => h) (Or.inl ⟨by rfl, ?_⟩) hS0 ?_
          rotate_left
          · (intro W hSw; (try dsimp only at hSw); go_simp; try (with_reducible rfl))
          try simp only [Act.put, List.getElem_toArray, List.getElem_cons_succ, List.getElem_cons_zero, List.setIfInBounds_toArray, List.set_cons_zero, List.set_cons_succ]
          refine wpAnyH_take (i := 1) (v := ?_) rfl (by kernel_rfl) (by kernel_rfl) (by kernel_rfl) (fun _ _ _ h => h) (Or.inl ⟨by rfl, ?_⟩) hS0 ?_
          rotate_left
          · (intro W hSw; (try dsimp only at hSw); go_simp; try (with_reducible rfl))
          try simp only [Act.put, List.getElem_toArray, List.getElem_cons_succ, List.getElem_cons_zero, List.setIfInBounds_toArray, List.set_cons_zero, List.set_cons_succ]
          refine wpAnyH_take (i := 3) (v := ?_) rfl (by kernel_rfl) (by kernel_rfl) (by kernel_rfl) (fun _ _ _ h => h) (Or.inl ⟨by rfl, ?_⟩) hS0 ?_
          rotate_left
          · (intro W hSw; (try dsimp only at hSw); go_simp; try (with_reducible rfl))
          try simp only [Act.put, List.getElem_toArray, List.getElem_cons_succ, List.getElem_cons_zero, List.setIfInBounds_toArray, List.set_cons_zero, List.set_cons_succ]
          refine wpAnyH_ready (rs := [2]) (by kernel_rfl) (by simp) ?_
          refine AllReadyH.cons rfl (fun K hK => ?_) AllReadyH.nil
          go_simp
          refine (HSF.out).mono ?_
          rintro e w4 ⟨f, fv, p4, rfl, hof, hfl, hfs, hfp, hfn, hr4, hp4, hg4⟩
          try go_wp2_with fail
          refine hK.out _ _ (HCS.out _ (Or.inl ⟨hg4.os, hg4.tape, hg4.output, hg4.size, hg4.block⟩)) (fun hS1 => ?_)
          clear hK K
          try simp only [Act.put, List.getElem_toArray, List.getElem_cons_succ, List.getElem_cons_zero, List.setIfInBounds_toArray, List.set_cons_zero, List.set_cons_succ]
          obtain ⟨fa, fc, rfl, _, _⟩ := hof.form
          have g34 : w3.grownBy w4 (some g) := ⟨hg4.os, hg4.tape, hg4.output, hg4.size, hg4.block⟩
          have gg4 := grown_tr gg g34
          have hs4 := g34.size
          have hok4 := OkW.grown hok3 g34 hgl
          have hdk4 := HDK.out.keep (Same.of_grown g34 (Nat.le_refl _) (fun k hk => by injection hk with hk; left; omega)) hs4
          have HDR := Lib.hid (sDiskAdd_any (.slice ta T.length tc) (.slice da D.length dc) T cl D f (.slice fa f.body.length fc) ticks w4 hok4 (OwnN.flR hdk4.1) (OwnD.reads hdk4.2.1) (Nat.le_refl _) (hof.reads (fun _ _ => rfl)) (Nat.le_refl _) hdk4.2.2.1 hdk4.2.2.2 ⟨by omega, hfs, hfp, hfn⟩ htk)
          clear hdk4 hfs
          refine wpAnyH_ready (rs := [4]) (by kernel_rfl) (by simp) ?_
          refine AllReadyH.cons rfl (fun K hK => ?_) (AllReadyH.nil)
          go_simp
          refine HDR.out.mono ?_
          rintro e w5 ⟨hg5, tv5, c5, dv5, T5, D5, ok5, rfl, hD5⟩
          obtain ⟨t5a, t5c, rfl, _, _⟩ := hD5.1.1.form
          obtain ⟨d5a, d5c, rfl, _, _⟩ := hD5.2.1.1.form
          have gg5 := grown_tr gg4 ⟨hg5.os, hg5.tape, hg5.output, hg5.size, fun i hi _ => hg5.block i hi⟩
          have g35 : w3.grownBy w5 (some g) := grown_tr g34 ⟨hg5.os, hg5.tape, hg5.output, hg5.size, fun i hi _ => hg5.block i hi⟩
          have hs5 := hg5.size
          have y0 := keep_blk HZ0.out g35 (by omega)
          have y3 := keep_blk HZ3.out g35 (by omega)
          have y6 := keep_blk HZ6.out g35 (by omega)
          have hr5 := hr4.gr hg5
          obtain ⟨⟨p0, p1, p2⟩, n0, n1, n2⟩ := rows3 y6
          have hput := put3 y6 (.slice t5a T5.length t5c) (.int .i64 c5) (.slice d5a D5.length d5c)
          have hS5 := HCS.out w5 (Or.inl g35)
          obtain ⟨W6, hW6⟩ : ∃ W6, W6 = (((w5.setCell ⟨w2.heap.size, 0, none⟩ (.slice t5a T5.length t5c)).setCell ⟨w2.heap.size, 1, none⟩ (.int .i64 c5)).setCell ⟨w2.heap.size, 2, none⟩ (.slice d5a D5.length d5c)) := ⟨_, rfl⟩
          rw [← hW6] at hput
          have y06 := keep_blk y0 hput.2 (by omega)
          have y36 := keep_blk y3 hput.2 (by omega)
          have hr6 := hr5.grown hput.2 (fun b hb => by injection hb with hb; omega)
          have gg6 := grown_fresh gg5 hput.2 (by omega)
          have hs6 := hput.2.size
          have hD6 : DkO W6 (w1.heap.size + 1) _ c5 _ T5 D5 := (hD5.keep (Same.of_grown hput.2 (Nat.le_refl _) (fun k hk => by injection hk with hk; left; omega)) hs6).mono (by omega)
          have hdk6 : DkO W6 (w1.heap.size + 1) _ cl _ T D := HDKR.out.keep ((hsa.trans (Same.of_grown g35 (by omega) (fun k hk => by injection hk with hk; left; omega))).trans (Same.of_grown hput.2 (by omega) (fun k hk => by injection hk with hk; right; omega))) (by omega)
          have hS6 : (W6.cell? ⟨w1.heap.size, 0, none⟩ = some (.slice ta T.length tc) ∧ W6.cell? ⟨w1.heap.size, 1, none⟩ = some (.int .i64 cl) ∧ W6.cell? ⟨w1.heap.size, 2, none⟩ = some (.slice da D.length dc)) := (rows3 y36).1
          have HW6 := Lib.hid hW6
          have HS6 := Lib.hid hS6
          have HP6 := Lib.hid hput.1
          have HD6 := Lib.hid hD6
          have HDK6 := Lib.hid hdk6
          have HY06 := Lib.hid y06
          have HY36 := Lib.hid y36
          clear hW6 hput hD6 hdk6 y0 y3 y6 y06 y36 hS6 hD5
          refine hK.out _ _ hS5 (fun hS1 => ?_)
          clear hK K hS5
          try simp only [Act.put, List.getElem_toArray, List.getElem_cons_succ, List.getElem_cons_zero, List.setIfInBounds_toArray, List.set_cons_zero, List.set_cons_succ]
          refine wpAnyH_take (i := 5) (v := ?_) rfl (by kernel_rfl) (by kernel_rfl) (by kernel_rfl) (fun _ _ _ h => h) (Or.inl ⟨by rfl, ?_⟩) hS1 ?_
          rotate_left
          · (intro W hSw; (try dsimp only at hSw); go_simp; try (with_reducible rfl))
          try simp only [Act.put, List.getElem_toArray, List.getElem_cons_succ, List.getElem_cons_zero, List.setIfInBounds_toArray, List.set_cons_zero, List.set_cons_succ]
          refine wpAnyH_take (i := 6) (v := ?_) rfl (by kernel_rfl) (by kernel_rfl) (by kernel_rfl) (fun _ _ _ h => h) (Or.inl ⟨by rfl, ?_⟩) hS1 ?_
          rotate_left
          · (intro W hSw; (try dsimp only at hSw); go_simp; try (with_reducible rfl))
          try simp only [Act.put, List.getElem_toArray, List.getElem_cons_succ, List.getElem_cons_zero, List.setIfInBounds_toArray, List.set_cons_zero, List.set_cons_succ]
          refine wpAnyH_take (i := 7) (v := ?_) rfl (by kernel_rfl) (by kernel_rfl) (by kernel_rfl) (fun _ _ _ h => h) (Or.inl ⟨by rfl, ?_⟩) hS1 ?_
          rotate_left
          · (intro W hSw; (try dsimp only at hSw); go_simp; try (with_reducible rfl))
          try simp only [Act.put, List.getElem_toArray, List.getElem_cons_succ, List.getElem_cons_zero, List.setIfInBounds_toArray, List.set_cons_zero, List.set_cons_succ]
          refine wpAnyH_ready (rs := [8]) (by kernel_rfl) (by simp) ?_
          refine AllReadyH.cons rfl (fun K hK => ?_) (AllReadyH.nil)
          go_simp
          rw [← HW6.out]
          refine hK.out _ _ HS6.out (fun hS2 => ?_)
          clear hK K
          try simp only [Act.put, List.getElem_toArray, List.getElem_cons_succ, List.getElem_cons_zero, List.setIfInBounds_toArray, List.set_cons_zero, List.set_cons_succ]
          refine wpAnyH_take (i := 9) (v := ?_) rfl (by kernel_rfl) (by kernel_rfl) (by kernel_rfl) (fun _ _ _ h => h) (Or.inl ⟨by rfl, ?_⟩) hS2 ?_
          rotate_left
          · (intro W hSw; (try dsimp only at hSw); go_simp; try (with_reducible rfl))
          try simp only [Act.put, List.getElem_toArray, List.getElem_cons_succ, List.getElem_cons_zero, List.setIfInBounds_toArray, List.set_cons_zero, List.set_cons_succ]
          refine wpAnyH_done (by kernel_rfl) ?_ _
          clear x0 x1 x2 p0 p1 p2 n0 n1 n2
          obtain ⟨⟨p0, p1, p2⟩, n0, n1, n2⟩ := rows3 HP6.out
          obtain ⟨⟨x0, x1, x2⟩, f0, f1, f2⟩ := rows3 HY36.out
          cases ok5
          · go_wp2
            go_roundw
            case rel => exact ⟨j - 1, by go_num, _, _, _, T, D, _, HY06.out, HY36.out, HDK6.out, hr6, by omega, gg6⟩
            case measure => simp [intOf]; omega
          · have hp7 := put3 HY36.out (.slice t5a T5.length t5c) (.int .i64 c5) (.slice d5a D5.length d5c)
            have HP7 := Lib.hid hp7
            clear hp7
            go_wp2
            go_roundw
            case rel =>
              refine ⟨j - 1, by go_num, _, _, _, T5, D5, _, keep_blk HY06.out HP7.out.2 (by omega), HP7.out.1, HD6.out.keep (Same.of_grown HP7.out.2 (Nat.le_refl _) (fun k hk => by injection hk with hk; left; omega)) HP7.out.2.size, hr6.grown HP7.out.2 (fun b hb => by injection hb with hb; omega), by omega, grown_fresh gg6 HP7.out.2 (by omega)⟩
            case measure => simp [intOf]; omega
        · have hqb : (q == 0) = false := by simp [h1]
          clear hcb
          go_wp2
          refine wp_region_held_drew (S := (fun W => (W.cell? ⟨w1.heap.size, 0, none⟩ = some (.slice ta T.length tc) ∧ W.cell? ⟨w1.heap.size, 1, none⟩ = some (.int .i64 cl) ∧ W.cell? ⟨w1.heap.size, 2, none⟩ = some (.slice da D.length dc)))) (by kernel_rfl) (HCS.out _ (Or.inl (grown_al' w3 g))) (fun hS0 => ?_)
          refine wpAnyH_take (i := 0) (v := ?_) rfl (by kernel_rfl) (by kernel_rfl) (by kernel_rfl) (fun _ _ _ h => h) (Or.inl ⟨by rfl, ?_⟩) hS0 ?_
          rotate_left
          · (intro W hSw; (try dsimp only at hSw); go_simp; try (with_reducible rfl))
          try simp only [Act.put, List.getElem_toArray, List.getElem_cons_succ, List.getElem_cons_zero, List.setIfInBounds_toArray, List.set_cons_zero, List.set_cons_succ]
          refine wpAnyH_take (i := 1) (v := ?_) rfl (by kernel_rfl) (by kernel_rfl) (by kernel_rfl) (fun _ _ _ h => h) (Or.inl ⟨by rfl, ?_⟩) hS0 ?_
          rotate_left
          · (intro W hSw; (try dsimp only at hSw); go_simp; try (with_reducible rfl))
          try simp only [Act.put, List.getElem_toArray, List.getElem_cons_succ, List.getElem_cons_zero, List.setIfInBounds_toArray, List.set_cons_zero, List.set_cons_succ]
          refine wpAnyH_take (i := 3) (v := ?_) rfl (by kernel_rfl) (by kernel_rfl) (by kernel_rfl) (fun _ _ _ h => h) (Or.inl ⟨by rfl, ?_⟩) hS0 ?_
          rotate_left
          · (intro W hSw; (try dsimp only at hSw); go_simp; try (with_reducible rfl))
          try simp only [Act.put, List.getElem_toArray, List.getElem_cons_succ, List.getElem_cons_zero, List.setIfInBounds_toArray, List.set_cons_zero, List.set_cons_succ]
          refine wpAnyH_ready (rs := [2]) (by kernel_rfl) (by simp) ?_
          refine AllReadyH.cons rfl (fun K hK => ?_) AllReadyH.nil
          go_simp
          refine (HSF.out).mono ?_
          rintro e w4 ⟨f, fv, p4, rfl, hof, hfl, hfs, hfp, hfn, hr4, hp4, hg4⟩
          try go_wp2_with fail
          refine hK.out _ _ (HCS.out _ (Or.inl ⟨hg4.os, hg4.tape, hg4.output, hg4.size, hg4.block⟩)) (fun hS1 => ?_)
          clear hK K
          try simp only [Act.put, List.getElem_toArray, List.getElem_cons_succ, List.getElem_cons_zero, List.setIfInBounds_toArray, List.set_cons_zero, List.set_cons_succ]
          obtain ⟨fa, fc, rfl, _, _⟩ := hof.form
          have g34 : w3.grownBy w4 (some g) := ⟨hg4.os, hg4.tape, hg4.output, hg4.size, hg4.block⟩
          have gg4 := grown_tr gg g34
          have hs4 := g34.size
          have hok4 := OkW.grown hok3 g34 hgl
          have hdk4 := HDK.out.keep (Same.of_grown g34 (Nat.le_refl _) (fun k hk => by injection hk with hk; left; omega)) hs4
          have HDR := Lib.hid (sDiskAdd_any (.slice ta T.length tc) (.slice da D.length dc) T cl D f (.slice fa f.body.length fc) ticks w4 hok4 (OwnN.flR hdk4.1) (OwnD.reads hdk4.2.1) (Nat.le_refl _) (hof.reads (fun _ _ => rfl)) (Nat.le_refl _) hdk4.2.2.1 hdk4.2.2.2 ⟨by omega, hfs, hfp, hfn⟩ htk)
          clear hdk4 hfs
          refine wpAnyH_ready (rs := [4]) (by kernel_rfl) (by simp) ?_
          refine AllReadyH.cons rfl (fun K hK => ?_) (AllReadyH.nil)
          go_simp
          refine HDR.out.mono ?_
          rintro e w5 ⟨hg5, tv5, c5, dv5, T5, D5, ok5, rfl, hD5⟩
          obtain ⟨t5a, t5c, rfl, _, _⟩ := hD5.1.1.form
          obtain ⟨d5a, d5c, rfl, _, _⟩ := hD5.2.1.1.form
          have gg5 := grown_tr gg4 ⟨hg5.os, hg5.tape, hg5.output, hg5.size, fun i hi _ => hg5.block i hi⟩
          have g35 : w3.grownBy w5 (some g) := grown_tr g34 ⟨hg5.os, hg5.tape, hg5.output, hg5.size, fun i hi _ => hg5.block i hi⟩
          have hs5 := hg5.size
          have y0 := keep_blk HZ0.out g35 (by omega)
          have y3 := keep_blk HZ3.out g35 (by omega)
          have y6 := keep_blk HZ6.out g35 (by omega)
          have hr5 := hr4.gr hg5
          obtain ⟨⟨p0, p1, p2⟩, n0, n1, n2⟩ := rows3 y6
          have hput := put3 y6 (.slice t5a T5.length t5c) (.int .i64 c5) (.slice d5a D5.length d5c)
          have hS5 := HCS.out w5 (Or.inl g35)
          obtain ⟨W6, hW6⟩ : ∃ W6, W6 = (((w5.setCell ⟨w2.heap.size, 0, none⟩ (.slice t5a T5.length t5c)).setCell ⟨w2.heap.size, 1, none⟩ (.int .i64 c5)).setCell ⟨w2.heap.size, 2, none⟩ (.slice d5a D5.length d5c)) := ⟨_, rfl⟩
          rw [← hW6] at hput
          have y06 := keep_blk y0 hput.2 (by omega)
          have y36 := keep_blk y3 hput.2 (by omega)
          have hr6 := hr5.grown hput.2 (fun b hb => by injection hb with hb; omega)
          have gg6 := grown_fresh gg5 hput.2 (by omega)
          have hs6 := hput.2.size
          have hD6 : DkO W6 (w1.heap.size + 1) _ c5 _ T5 D5 := (hD5.keep (Same.of_grown hput.2 (Nat.le_refl _) (fun k hk => by injection hk with hk; left; omega)) hs6).mono (by omega)
          have hdk6 : DkO W6 (w1.heap.size + 1) _ cl _ T D := HDKR.out.keep ((hsa.trans (Same.of_grown g35 (by omega) (fun k hk => by injection hk with hk; left; omega))).trans (Same.of_grown hput.2 (by omega) (fun k hk => by injection hk with hk; right; omega))) (by omega)
          have hS6 : (W6.cell? ⟨w1.heap.size, 0, none⟩ = some (.slice ta T.length tc) ∧ W6.cell? ⟨w1.heap.size, 1, none⟩ = some (.int .i64 cl) ∧ W6.cell? ⟨w1.heap.size, 2, none⟩ = some (.slice da D.length dc)) := (rows3 y36).1
          have HW6 := Lib.hid hW6
          have HS6 := Lib.hid hS6
          have HP6 := Lib.hid hput.1
          have HD6 := Lib.hid hD6
          have HDK6 := Lib.hid hdk6
          have HY06 := Lib.hid y06
          have HY36 := Lib.hid y36
          clear hW6 hput hD6 hdk6 y0 y3 y6 y06 y36 hS6 hD5
          refine hK.out _ _ hS5 (fun hS1 => ?_)
          clear hK K hS5
          try simp only [Act.put, List.getElem_toArray, List.getElem_cons_succ, List.getElem_cons_zero, List.setIfInBounds_toArray, List.set_cons_zero, List.set_cons_succ]
          refine wpAnyH_take (i := 5) (v := ?_) rfl (by kernel_rfl) (by kernel_rfl) (by kernel_rfl) (fun _ _ _ h => h) (Or.inl ⟨by rfl, ?_⟩) hS1 ?_
          rotate_left
          · (intro W hSw; (try dsimp only at hSw); go_simp; try (with_reducible rfl))
          try simp only [Act.put, List.getElem_toArray, List.getElem_cons_succ, List.getElem_cons_zero, List.setIfInBounds_toArray, List.set_cons_zero, List.set_cons_succ]
          refine wpAnyH_take (i := 6) (v := ?_) rfl (by kernel_rfl) (by kernel_rfl) (by kernel_rfl) (fun _ _ _ h => h) (Or.inl ⟨by rfl, ?_⟩) hS1 ?_
          rotate_left
          · (intro W hSw; (try dsimp only at hSw); go_simp; try (with_reducible rfl))
          try simp only [Act.put, List.getElem_toArray, List.getElem_cons_succ, List.getElem_cons_zero, List.setIfInBounds_toArray, List.set_cons_zero, List.set_cons_succ]
          refine wpAnyH_take (i := 7) (v := ?_) rfl (by kernel_rfl) (by kernel_rfl) (by kernel_rfl) (fun _ _ _ h => h) (Or.inl ⟨by rfl, ?_⟩) hS1 ?_
          rotate_left
          · (intro W hSw; (try dsimp only at hSw); go_simp; try (with_reducible rfl))
          try simp only [Act.put, List.getElem_toArray, List.getElem_cons_succ, List.getElem_cons_zero, List.setIfInBounds_toArray, List.set_cons_zero, List.set_cons_succ]
          refine wpAnyH_ready (rs := [8]) (by kernel_rfl) (by simp) ?_
          refine AllReadyH.cons rfl (fun K hK => ?_) (AllReadyH.nil)
          go_simp
          rw [← HW6.out]
          refine hK.out _ _ HS6.out (fun hS2 => ?_)
          clear hK K
          try simp only [Act.put, List.getElem_toArray, List.getElem_cons_succ, List.getElem_cons_zero, List.setIfInBounds_toArray, List.set_cons_zero, List.set_cons_succ]
          refine wpAnyH_take (i := 9) (v := ?_) rfl (by kernel_rfl) (by kernel_rfl) (by kernel_rfl) (fun _ _ _ h => h) (Or.inl ⟨by rfl, ?_⟩) hS2 ?_
          rotate_left
          · (intro W hSw; (try dsimp only at hSw); go_simp; try (with_reducible rfl))
          try simp only [Act.put, List.getElem_toArray, List.getElem_cons_succ, List.getElem_cons_zero, List.setIfInBounds_toArray, List.set_cons_zero, List.set_cons_succ]
          refine wpAnyH_done (by kernel_rfl) ?_ _
          clear x0 x1 x2 p0 p1 p2 n0 n1 n2
          obtain ⟨⟨p0, p1, p2⟩, n0, n1, n2⟩ := rows3 HP6.out
          obtain ⟨⟨x0, x1, x2⟩, f0, f1, f2⟩ := rows3 HY36.out
          cases ok5
          · go_wp2
            go_roundw
            case rel => exact ⟨j - 1, by go_num, _, _, _, T, D, _, HY06.out, HY36.out, HDK6.out, hr6, by omega, gg6⟩
            case measure => simp [intOf]; omega
          · have hp7 := put3 HY36.out (.slice t5a T5.length t5c) (.int .i64 c5) (.slice d5a D5.length d5c)
            have HP7 := Lib.hid hp7
            clear hp7
            go_wp2
            go_roundw
            case rel =>
              refine ⟨j - 1, by go_num, _, _, _, T5, D5, _, keep_blk HY06.out HP7.out.2 (by omega), HP7.out.1, HD6.out.keep (Same.of_grown HP7.out.2 (Nat.le_refl _) (fun k hk => by injection hk with hk; left; omega)) HP7.out.2.size, hr6.grown HP7.out.2 (fun b hb => by injection hb with hb; omega), by omega, grown_fresh gg6 HP7.out.2 (by omega)⟩
            case measure => simp [intOf]; omega
    · have hjd : decide ((0 : Int) < (j : Int)) = false := decide_eq_false (by omega)
      obtain ⟨⟨x0, x1, x2⟩, _⟩ := rows3 hz3
      obtain ⟨⟨y0, y1, y2⟩, f0, f1, f2⟩ := rows3 hz0
      have HP := Lib.hid (put3 hz0 (.slice ta T.length tc) (.int .i64 cl) (.slice da D.length dc))
      have HDK := Lib.hid hdk
      clear hz0 hz3 hdk
      go_wp2
      refine bodyPost_ret (results_cell_row rfl _ _ w.heap.size 28 _ (0, 0) _ rfl HP.out.1 Tryd.underlying28 rfl (by kernel_rfl)) rfl ?_
      exact ⟨_, _, _, T, D, _, rfl, (HDK.out.keep (Same.of_grown HP.out.2 (Nat.le_refl _) (fun k hk => by injection hk with hk; left; omega)) HP.out.2.size).mono (by omega), hR.grown HP.out.2 (fun b hb => by injection hb with hb; omega), by omega, grown_fresh gg HP.out.2 (Nat.le_refl _)⟩
end Go.Proofs.YtepljjaienpepaaDoor
