/-
  Walks: disks drawn that may be invalid, and what the laws on disks draw. Printed by diskg.py.
-/
import Derived.Test.YtepljjaienpepaaDoorDiskFZ
namespace Go.Proofs.YtepljjaienpepaaDoor
open Go Go.RowKit Imp
set_option linter.unusedVariables false
set_option linter.unusedSimpArgs false
/-- A disk as it is drawn: what the readers of the laws want of it. -/
def DkA (w : World) (base : Nat) (tv : Value) (c : Int) (dv : Value) (T : List FR) (D : List DR) : Prop :=
  FlR w base w.heap.size tv T ∧ DsR w base w.heap.size dv D ∧ (∀ r ∈ T, SmFd r.1) ∧ (∀ r ∈ D, r.1.pkg.size ≤ 11) ∧ T.length ≤ 12 ∧ D.length ≤ 21 ∧ (-1 ≤ c ∧ c ≤ 201)
theorem DkA.keep {w w' : World} {base : Nat} {tv dv : Value} {c : Int} {T : List FR} {D : List DR} (h : DkA w base tv c dv T D) (hs : Same base w.heap.size w w') (hz : w.heap.size ≤ w'.heap.size) : DkA w' base tv c dv T D :=
  ⟨(FlR.keepD h.1 hs).monoD (Nat.le_refl _) hz, DsR.monoD ⟨h.2.1.1.keep hs, fun r hr => SlR.keep (h.2.1.2 r hr) hs⟩ (Nat.le_refl _) hz, h.2.2⟩
theorem DkA.mono {w : World} {base base' : Nat} {tv dv : Value} {c : Int} {T : List FR} {D : List DR} (h : DkA w base tv c dv T D) (hb : base' ≤ base) : DkA w base' tv c dv T D :=
  ⟨h.1.monoD hb (Nat.le_refl _), h.2.1.monoD hb (Nat.le_refl _), h.2.2⟩
theorem DkO.toA {w : World} {base : Nat} {tv dv : Value} {c : Int} {T : List FR} {D : List DR} (h : DkO w base tv c dv T D) : DkA w base tv c dv T D := by
  obtain ⟨h1, h2, h3, h4⟩ := h
  obtain ⟨a1, a2, a3⟩ := (okDisk_iff _ _ _).1 h3
  obtain ⟨b1, b2⟩ := okDirs_small a3
  have c1 := ((okTree_iff _).1 a1).2.2
  simp only [List.length_map] at b1 c1
  exact ⟨OwnN.flR h1, OwnD.reads h2, h4, fun r hr => (b2 r.1 (List.mem_map_of_mem hr)).1, c1, by omega, by omega⟩
def DDskA (w : World) (g p c : Nat) (e : Ending) (w' : World) : Prop :=
  ∃ tv cl dv, ∃ T : List FR, ∃ D : List DR, ∃ p', e = .returned (vDk tv cl dv) ∧ DkA w' w.heap.size tv cl dv T D ∧ Rdr w' g p' ∧ p' ≤ p + c ∧ w.grownBy w' (some g)
set_option maxHeartbeats 12800000 in
set_option maxRecDepth 10000 in
theorem anyDisk_any (g p : Nat) (w : World) (h : Rdr w g p) (hok : OkW w) (hgl : g ≠ 0) (hp : p < 230000000) :
    Calls Tryd.prog 12 #[.pointer (some ⟨g, 0, none⟩)] w (DDskA w g p 1110) := by
  have hlt := h.lt
  have hsT := someDisk_any g p (w.alloc (.cells #[.slice none 0 0, .int .i64 0, .slice none 0 0] 28)) (h.al _) (hok.al _) hgl (by omega)
  have hz0 := heap_alloc_new w (.cells #[.slice none 0 0, .int .i64 0, .slice none 0 0] 28)
  have gg0 := grown_al w (.cells #[.slice none 0 0, .int .i64 0, .slice none 0 0] 28) (some g)
  have HST := Lib.hid hsT
  clear hsT
  go_enter Tryd.func12, Tryd.ntmps12
  go_wp2_with fail
  refine HST.out.mono ?_
  rintro e w1 ⟨tv, cl, dv, T, D, p1, rfl, hdk, hr1, hp1, hg1⟩
  simp only [World.size_alloc] at hdk
  obtain ⟨ta, tc, rfl, _, _⟩ := hdk.1.1.form
  obtain ⟨da, dc, rfl, _, _⟩ := hdk.2.1.1.form
  obtain ⟨n, hn⟩ : ∃ n, n = D.length := ⟨_, rfl⟩
  rw [← hn] at hdk ⊢
  have hz0 := keep_blk hz0 hg1 (by omega)
  have hlo := lt_of_block hz0
  have gg1 := grown_tr gg0 hg1
  have g3 := gr_al w1 (.cells #[.slice ta T.length tc, .int .i64 cl, .slice da n dc] 28)
  have z3 := heap_alloc_new w1 (.cells #[.slice ta T.length tc, .int .i64 cl, .slice da n dc] 28)
  have z0 := (g3.block _ hlo).trans hz0
  have hsa : Same (w.heap.size + 1) w1.heap.size w1 (w1.alloc (.cells #[.slice ta T.length tc, .int .i64 cl, .slice da n dc] 28)) := Same.of_below g3 (Nat.le_refl _)
  have hr3 := hr1.al (.cells #[.slice ta T.length tc, .int .i64 cl, .slice da n dc] 28)
  have gg3 := grown_tr gg1 (grown_al w1 (.cells #[.slice ta T.length tc, .int .i64 cl, .slice da n dc] 28) (some g))
  have HPK := Lib.hid (pick_any g _ 20 (w1.alloc (.cells #[.slice ta T.length tc, .int .i64 cl, .slice da n dc] 28)) hr3 (by omega) (by omega))
  have HN := Lib.hid hn
  clear hn hz0 gg0 hg1 HST gg1
  go_wp2_with fail
  refine HPK.out.mono ?_
  rintro e w2 ⟨k, rfl, hk0, hk1, hr2, hg2⟩
  have z0 := keep_blk z0 hg2 (by omega)
  have z3 := keep_blk z3 hg2 (by omega)
  have hs2 := hg2.size
  simp only [World.size_alloc] at hs2
  have hsa := hsa.trans (Same.of_grown hg2 (by simp) (fun k hk => by injection hk with hk; left; omega))
  have gg2 := grown_tr gg3 hg2
  have hnl : n ≤ 20 := by
    have := (okDirs_small ((okDisk_iff _ _ _).1 hdk.2.2.1).2.2).1
    rw [List.length_map] at this
    have := HN.out
    omega
  have HZ0 := Lib.hid z0
  have HZ3 := Lib.hid z3
  have HDK := Lib.hid hdk
  obtain ⟨⟨x0, x1, x2⟩, f0, f1, f2⟩ := rows3 z3
  clear z0 z3 hdk g3 hg2 HPK gg3
  by_cases h0 : k = 0
  · subst h0
    have HONE := Lib.hid (one_lit g _ [-1, 201, 0] w2 hr2 (by omega) (by decide) (by decide))
    go_wp2_with fail
    refine HONE.out.mono ?_
    rintro e w3 ⟨q, rfl, hin, hr4, hg4⟩
    have hqb : -1 ≤ q ∧ q ≤ 201 := by simp at hin; omega
    have z0 := keep_blk HZ0.out hg4 (by omega)
    have z3 := keep_blk HZ3.out hg4 (by omega)
    have hsa := hsa.trans (Same.of_grown hg4 (by omega) (fun k hk => by injection hk with hk; left; omega))
    have gg4 := grown_tr gg2 hg4
    have hs4 := hg4.size
    clear x0 x1 x2 f0 f1 f2
    obtain ⟨⟨x0, x1, x2⟩, f0, f1, f2⟩ := rows3 z3
    have z5 : (w3.setCell ⟨w1.heap.size, 1, none⟩ (.int .i64 q)).heap[w1.heap.size]? = some (.cells #[.slice ta T.length tc, .int .i64 q, .slice da n dc] 28 (0, 0)) := heap_setCell_same _ w1.heap.size 1 _ _ _ z3
    have z05 := set_other (b' := w1.heap.size) (o := 1) (v := .int .i64 q) z0 (by omega)
    have gs := grown_set w3 w1.heap.size 1 (.int .i64 q)
    obtain ⟨WW, hWW⟩ : ∃ WW, WW = w3.setCell ⟨w1.heap.size, 1, none⟩ (.int .i64 q) := ⟨_, rfl⟩
    rw [← hWW] at z5 z05 gs
    have hrW := hr4.grown gs (fun b hb => by injection hb with hb; omega)
    have ggW := grown_fresh gg4 gs (by omega)
    have hsW := hsa.trans (Same.of_grown gs (by omega) (fun k hk => by injection hk with hk; right; omega))
    have hdA := HDK.out.toA
    have hdW : DkA WW (w.heap.size + 1) (.slice ta T.length tc) q (.slice da n dc) T D := DkA.keep (w := w1) ⟨hdA.1, hdA.2.1, hdA.2.2.1, hdA.2.2.2.1, hdA.2.2.2.2.1, hdA.2.2.2.2.2.1, hqb⟩ hsW (by have := gs.size; omega)
    have HWW := Lib.hid hWW
    have HDW := Lib.hid hdW
    have HP := Lib.hid (put3 z05 (.slice ta T.length tc) (.int .i64 q) (.slice da n dc))
    obtain ⟨⟨y0, y1, y2⟩, _⟩ := rows3 z5
    obtain ⟨_, m0, m1, m2⟩ := rows3 z05
    clear hWW hdW hdA z5 z05 z0 z3 hsa hsW hin HONE
    go_wp2_with (rw [← HWW.out])
    refine bodyPost_ret (results_cell_row rfl _ _ w.heap.size 28 _ (0, 0) _ rfl HP.out.1 Tryd.underlying28 rfl (by kernel_rfl)) rfl ?_
    exact ⟨_, _, _, T, D, _, rfl, (DkA.keep (HDW.out) (Same.of_grown HP.out.2 (Nat.le_refl _) (fun k hk => by injection hk with hk; left; omega)) HP.out.2.size).mono (by omega), (hrW).grown HP.out.2 (fun b hb => by injection hb with hb; omega), by omega, grown_fresh (ggW) HP.out.2 (Nat.le_refl _)⟩
  · have q0 : (k == 0) = false := by simp [h0]
    by_cases h1 : k = 1
    · subst h1
      have HON := Lib.hid (one_lit g _ [0, 3] (w2.drewN 1) hr2 (by omega) (by decide) (by decide))
      have gA := gr_al w2 (.cells #[.int .i64 0, .int .i64 3] 3)
      have xA := (rows3 ((gA.block _ (lt_of_block HZ3.out)).trans HZ3.out)).1.2.2
      have hdl : n ≤ 1000 := by omega
      go_wp2
      refine wp_region_held_drew (S := (fun _ => True)) (by kernel_rfl) trivial (fun hS0 => ?_)
      refine wpAnyH_take (i := 0) (v := ?_) rfl (by kernel_rfl) (by kernel_rfl) (by kernel_rfl) (fun _ _ _ h => h) (Or.inl ⟨by rfl, ?_⟩) hS0 ?_
      rotate_left
      · (intro W hSw; (try dsimp only at hSw); go_simp; try (with_reducible rfl))
      try simp only [Act.put, List.getElem_toArray, List.getElem_cons_succ, List.getElem_cons_zero, List.setIfInBounds_toArray, List.set_cons_zero, List.set_cons_succ]
      refine wpAnyH_take (i := 2) (v := ?_) rfl (by kernel_rfl) (by kernel_rfl) (by kernel_rfl) (fun _ _ _ h => h) (Or.inl ⟨by rfl, ?_⟩) hS0 ?_
      rotate_left
      · (intro W hSw; (try dsimp only at hSw); go_simp; try (with_reducible rfl))
      try simp only [Act.put, List.getElem_toArray, List.getElem_cons_succ, List.getElem_cons_zero, List.setIfInBounds_toArray, List.set_cons_zero, List.set_cons_succ]
      refine wpAnyH_ready (rs := [1, 3]) (by kernel_rfl) (by simp) ?_
      refine AllReadyH.cons rfl (fun K hK => ?_) (AllReadyH.cons rfl (fun K hK => ?_) (AllReadyH.nil))
      · skip
        go_simp
        refine hK.out _ _ trivial (fun _ => ?_)
        clear hK K
        try simp only [Act.put, List.getElem_toArray, List.getElem_cons_succ, List.getElem_cons_zero, List.setIfInBounds_toArray, List.set_cons_zero, List.set_cons_succ]
        refine wpAnyH_ready (rs := [3]) (by kernel_rfl) (by simp) ?_
        refine AllReadyH.cons rfl (fun K hK => ?_) (AllReadyH.nil)
        go_simp
        refine hK.out _ _ trivial (fun _ => ?_)
        clear hK K
        try simp only [Act.put, List.getElem_toArray, List.getElem_cons_succ, List.getElem_cons_zero, List.setIfInBounds_toArray, List.set_cons_zero, List.set_cons_succ]
        refine wpAnyH_ready (rs := [4]) (by kernel_rfl) (by simp) ?_
        refine AllReadyH.cons rfl (fun K hK => ?_) (AllReadyH.nil)
        go_simp
        refine HON.out.mono ?_
        rintro e w3 ⟨q, rfl, hin, hr4, hg4⟩
        refine hK.out _ _ trivial (fun _ => ?_)
        clear hK K
        try simp only [Act.put, List.getElem_toArray, List.getElem_cons_succ, List.getElem_cons_zero, List.setIfInBounds_toArray, List.set_cons_zero, List.set_cons_succ]
        have hg4' : w2.grownBy w3 (some g) := ⟨hg4.os, hg4.tape, hg4.output, hg4.size, hg4.block⟩
        have z0 := keep_blk HZ0.out hg4' (by omega)
        have z3 := keep_blk HZ3.out hg4' (by omega)
        have hsa4 := hsa.trans (Same.of_grown hg4' (by omega) (fun k hk => by injection hk with hk; left; omega))
        have gg4 := grown_tr gg2 hg4'
        have hs4 := hg4'.size
        have gC := gr_al w3 (.cells #[.int .i64 q, .string ⟨#[]⟩, .int .i64 0, .slice none 0 0] 34)
        have y2 := (rows3 z3).1.2.2
        have yC := (rows3 ((gC.block _ (lt_of_block z3)).trans z3)).1.2.2
        refine wpAnyH_take (i := 5) (v := ?_) rfl (by kernel_rfl) (by kernel_rfl) (by kernel_rfl) (fun _ _ _ h => h) (Or.inl ⟨by rfl, ?_⟩) trivial ?_
        rotate_left
        · (intro W hSw; (try dsimp only at hSw); go_simp; try (with_reducible rfl))
        try simp only [Act.put, List.getElem_toArray, List.getElem_cons_succ, List.getElem_cons_zero, List.setIfInBounds_toArray, List.set_cons_zero, List.set_cons_succ]
        refine wpAnyH_ready (rs := [6]) (by kernel_rfl) (by simp) ?_
        refine AllReadyH.cons rfl (fun K hK => ?_) (AllReadyH.nil)
        go_simp
        refine hK.out _ _ trivial (fun _ => ?_)
        clear hK K
        try simp only [Act.put, List.getElem_toArray, List.getElem_cons_succ, List.getElem_cons_zero, List.setIfInBounds_toArray, List.set_cons_zero, List.set_cons_succ]
        refine wpAnyH_ready (rs := [7]) (by kernel_rfl) (by simp) ?_
        refine AllReadyH.cons rfl (fun K hK => ?_) (AllReadyH.nil)
        have hsC := hsa4.trans (Same.of_below gC (by omega))
        have hdC := HDK.out.keep hsC (by simp only [World.size_alloc]; omega)
        have hO := hdC.2.1
        have zC := (gC.block _ (lt_of_block z3)).trans z3
        have zC0 := (gC.block _ (lt_of_block z0)).trans z0
        have hsrc := SlR.oneAt w3 0 w3.heap.size ((⟨q, ⟨#[]⟩, 0, []⟩ : Dr), (.slice none 0 0 : Value)) 34 (enc := eDr) (k := 4) rfl (Nat.zero_le _) rfl
        have hlC : D.length ≤ 20 := by have := HN.out; omega
        refine step_app _ rfl (.tmp 17) (.tmp 22) ti_dirD rfl (by simp [Act.eval]) hO.1 (by simp [Act.eval]) hsrc (fun _ _ => rfl) (by simp [eDr, Value.oneCell']) (by unfold maxLen; simp; omega) (by simp; omega) (by simp only [World.size_alloc]; omega) ?_
        intro v9 w9 hown9 hg9 hat9
        obtain ⟨va9, vc9, hv9, _, _⟩ := hown9.form
        have hv9' : v9 = .slice va9 (n + 1) vc9 := by rw [hv9, List.length_append, ← HN.out]; rfl
        clear hv9
        subst hv9'
        have z9 := (hg9.block w1.heap.size (lt_of_block zC) (by intro y; have := (HDK.out.2.1.block _ (Or.inl y.symm)).2; omega)).trans zC
        have z09 := (hg9.block w.heap.size (lt_of_block zC0) (by intro y; have := (HDK.out.2.1.block _ (Or.inl y.symm)).1; omega)).trans zC0
        have o9 := OwnN.app (x := ((⟨q, ⟨#[]⟩, 0, []⟩ : Dr), (.slice none 0 0 : Value))) hO (Own.nil _ (w.heap.size + 1) 9 1 eS) (fun b hb => by cases hb) hown9 hg9 hat9
        have hs9 := hg9.size
        simp only [World.size_alloc] at hs9
        obtain ⟨⟨p0, p1, p2⟩, m0, m1, m2⟩ := rows3 z9
        have z10 : (w9.setCell ⟨w1.heap.size, 2, none⟩ (.slice va9 (n + 1) vc9)).heap[w1.heap.size]? = some (.cells #[.slice ta T.length tc, .int .i64 cl, .slice va9 (n + 1) vc9] 28 (0, 0)) := heap_setCell_same _ w1.heap.size 2 _ _ _ z9
        have z010 := set_other (b' := w1.heap.size) (o := 2) (v := .slice va9 (n + 1) vc9) z09 (by omega)
        have gs := grown_set w9 w1.heap.size 2 (.slice va9 (n + 1) vc9)
        have o10 := o9.chg (p := fun b => b = w1.heap.size) (ChgN.of_grown gs (fun b hb => by injection hb with hb; exact hb.symm)) (fun b hb y => by
          subst y
          rcases ownN_typed o9 hb z9 with z | z <;> exact absurd z (by decide))
        have gg9 := grown_fresh2 (grown_tr gg4 (grown_al w3 (.cells #[.int .i64 q, .string ⟨#[]⟩, .int .i64 0, .slice none 0 0] 34) (some g))) hg9 (fun b hb => by have := (HDK.out.2.1.block b (Or.inl hb)).1; omega)
        have hr9 := (hr4.al (.cells #[.int .i64 q, .string ⟨#[]⟩, .int .i64 0, .slice none 0 0] 34)).grown hg9 (fun b hb => by have := (HDK.out.2.1.block b (Or.inl hb)).1; omega)
        have hbn : ∀ b, ownsN (.slice ta T.length tc) T b → Value.ownBlock (.slice da n dc) ≠ some b := fun b hb y => by
          obtain ⟨cs, hz⟩ := own_is hO.1 y
          rcases ownN_typed hdC.1 hb hz with z | z <;> exact absurd z (by decide)
        have hT9 := OwnN.chg hdC.1 (p := fun b => Value.ownBlock (.slice da n dc) = some b) (ChgN.of_grown hg9 (fun b hb => hb)) (fun b hb y => hbn b hb y)
        have hTW := OwnN.chg hT9 (p := fun b => b = w1.heap.size) (ChgN.of_grown gs (fun b hb => by injection hb with hb; exact hb.symm)) (fun b hb y => by
          subst y
          rcases ownN_typed hT9 hb z9 with z | z <;> exact absurd z (by decide))
        have hdA := HDK.out.toA
        have hdW : DkA (w9.setCell ⟨w1.heap.size, 2, none⟩ (.slice va9 (n + 1) vc9)) (w.heap.size + 1) (.slice ta T.length tc) cl (.slice va9 (n + 1) vc9) T (D ++ [((⟨q, ⟨#[]⟩, 0, []⟩ : Dr), (.slice none 0 0 : Value))]) := by
          refine ⟨OwnN.flR hTW, OwnD.reads o10, hdA.2.2.1, fun r hr => ?_, hdA.2.2.2.2.1, by simp; omega, hdA.2.2.2.2.2.2⟩
          rw [List.mem_append, List.mem_singleton] at hr
          rcases hr with hr | rfl
          · exact hdA.2.2.2.1 r hr
          · exact Nat.zero_le _
        obtain ⟨WW, hWW⟩ : ∃ WW, WW = w9.setCell ⟨w1.heap.size, 2, none⟩ (.slice va9 (n + 1) vc9) := ⟨_, rfl⟩
        rw [← hWW] at z10 z010 gs hdW
        have hrW := hr9.grown gs (fun b hb => by injection hb with hb; omega)
        have ggW := grown_fresh gg9 gs (by omega)
        have HWW := Lib.hid hWW
        have HDW := Lib.hid hdW
        have HP := Lib.hid (put3 z010 (.slice ta T.length tc) (.int .i64 cl) (.slice va9 (n + 1) vc9))
        have Z10 := Lib.hid z10
        have Z010 := Lib.hid z010
        clear hWW hdW hdA z9 z09 z10 z010 z0 z3 zC zC0 hown9 o9 o10 hT9 hTW hO hdC y2 yC xA x0 x1 x2 f0 f1 f2
        refine hK.out _ _ trivial (fun _ => ?_)
        clear hK K
        try simp only [Act.put, List.getElem_toArray, List.getElem_cons_succ, List.getElem_cons_zero, List.setIfInBounds_toArray, List.set_cons_zero, List.set_cons_succ]
        refine wpAnyH_take (i := 8) (v := ?_) rfl (by kernel_rfl) (by kernel_rfl) (by kernel_rfl) (fun _ _ _ h => h) (Or.inl ⟨by rfl, ?_⟩) trivial ?_
        rotate_left
        · (intro W hSw; (try dsimp only at hSw); go_simp; try (with_reducible rfl))
        try simp only [Act.put, List.getElem_toArray, List.getElem_cons_succ, List.getElem_cons_zero, List.setIfInBounds_toArray, List.set_cons_zero, List.set_cons_succ]
        refine wpAnyH_ready (rs := [9]) (by kernel_rfl) (by simp) ?_
        refine AllReadyH.cons rfl (fun K hK => ?_) (AllReadyH.nil)
        go_simp
        rw [← HWW.out]
        refine hK.out _ _ trivial (fun _ => ?_)
        clear hK K
        try simp only [Act.put, List.getElem_toArray, List.getElem_cons_succ, List.getElem_cons_zero, List.setIfInBounds_toArray, List.set_cons_zero, List.set_cons_succ]
        refine wpAnyH_done (by kernel_rfl) ?_ _
        clear p0 p1 p2 m0 m1 m2
        obtain ⟨⟨p0, p1, p2⟩, _⟩ := rows3 Z10.out
        obtain ⟨_, m0, m1, m2⟩ := rows3 Z010.out
        go_wp2
        refine bodyPost_ret (results_cell_row rfl _ _ w.heap.size 28 _ (0, 0) _ rfl HP.out.1 Tryd.underlying28 rfl (by kernel_rfl)) rfl ?_
        exact ⟨_, _, _, T, (D ++ [((⟨q, ⟨#[]⟩, 0, []⟩ : Dr), (.slice none 0 0 : Value))]), _, rfl, (DkA.keep (HDW.out) (Same.of_grown HP.out.2 (Nat.le_refl _) (fun k hk => by injection hk with hk; left; omega)) HP.out.2.size).mono (by omega), (hrW).grown HP.out.2 (fun b hb => by injection hb with hb; omega), by omega, grown_fresh (ggW) HP.out.2 (Nat.le_refl _)⟩
      · skip
        go_simp
        refine hK.out _ _ trivial (fun _ => ?_)
        clear hK K
        try simp only [Act.put, List.getElem_toArray, List.getElem_cons_succ, List.getElem_cons_zero, List.setIfInBounds_toArray, List.set_cons_zero, List.set_cons_succ]
        refine wpAnyH_ready (rs := [1, 4]) (by kernel_rfl) (by simp) ?_
        refine AllReadyH.cons rfl (fun K hK => ?_) (AllReadyH.cons rfl (fun K hK => ?_) (AllReadyH.nil))
        · skip
          go_simp
          refine hK.out _ _ trivial (fun _ => ?_)
          clear hK K
          try simp only [Act.put, List.getElem_toArray, List.getElem_cons_succ, List.getElem_cons_zero, List.setIfInBounds_toArray, List.set_cons_zero, List.set_cons_succ]
          refine wpAnyH_ready (rs := [4]) (by kernel_rfl) (by simp) ?_
          refine AllReadyH.cons rfl (fun K hK => ?_) (AllReadyH.nil)
          go_simp
          refine HON.out.mono ?_
          rintro e w3 ⟨q, rfl, hin, hr4, hg4⟩
          refine hK.out _ _ trivial (fun _ => ?_)
          clear hK K
          try simp only [Act.put, List.getElem_toArray, List.getElem_cons_succ, List.getElem_cons_zero, List.setIfInBounds_toArray, List.set_cons_zero, List.set_cons_succ]
          have hg4' : w2.grownBy w3 (some g) := ⟨hg4.os, hg4.tape, hg4.output, hg4.size, hg4.block⟩
          have z0 := keep_blk HZ0.out hg4' (by omega)
          have z3 := keep_blk HZ3.out hg4' (by omega)
          have hsa4 := hsa.trans (Same.of_grown hg4' (by omega) (fun k hk => by injection hk with hk; left; omega))
          have gg4 := grown_tr gg2 hg4'
          have hs4 := hg4'.size
          have gC := gr_al w3 (.cells #[.int .i64 q, .string ⟨#[]⟩, .int .i64 0, .slice none 0 0] 34)
          have y2 := (rows3 z3).1.2.2
          have yC := (rows3 ((gC.block _ (lt_of_block z3)).trans z3)).1.2.2
          refine wpAnyH_take (i := 5) (v := ?_) rfl (by kernel_rfl) (by kernel_rfl) (by kernel_rfl) (fun _ _ _ h => h) (Or.inl ⟨by rfl, ?_⟩) trivial ?_
          rotate_left
          · (intro W hSw; (try dsimp only at hSw); go_simp; try (with_reducible rfl))
          try simp only [Act.put, List.getElem_toArray, List.getElem_cons_succ, List.getElem_cons_zero, List.setIfInBounds_toArray, List.set_cons_zero, List.set_cons_succ]
          refine wpAnyH_ready (rs := [6]) (by kernel_rfl) (by simp) ?_
          refine AllReadyH.cons rfl (fun K hK => ?_) (AllReadyH.nil)
          go_simp
          refine hK.out _ _ trivial (fun _ => ?_)
          clear hK K
          try simp only [Act.put, List.getElem_toArray, List.getElem_cons_succ, List.getElem_cons_zero, List.setIfInBounds_toArray, List.set_cons_zero, List.set_cons_succ]
          refine wpAnyH_ready (rs := [7]) (by kernel_rfl) (by simp) ?_
          refine AllReadyH.cons rfl (fun K hK => ?_) (AllReadyH.nil)
          have hsC := hsa4.trans (Same.of_below gC (by omega))
          have hdC := HDK.out.keep hsC (by simp only [World.size_alloc]; omega)
          have hO := hdC.2.1
          have zC := (gC.block _ (lt_of_block z3)).trans z3
          have zC0 := (gC.block _ (lt_of_block z0)).trans z0
          have hsrc := SlR.oneAt w3 0 w3.heap.size ((⟨q, ⟨#[]⟩, 0, []⟩ : Dr), (.slice none 0 0 : Value)) 34 (enc := eDr) (k := 4) rfl (Nat.zero_le _) rfl
          have hlC : D.length ≤ 20 := by have := HN.out; omega
          refine step_app _ rfl (.tmp 17) (.tmp 22) ti_dirD rfl (by simp [Act.eval]) hO.1 (by simp [Act.eval]) hsrc (fun _ _ => rfl) (by simp [eDr, Value.oneCell']) (by unfold maxLen; simp; omega) (by simp; omega) (by simp only [World.size_alloc]; omega) ?_
          intro v9 w9 hown9 hg9 hat9
          obtain ⟨va9, vc9, hv9, _, _⟩ := hown9.form
          have hv9' : v9 = .slice va9 (n + 1) vc9 := by rw [hv9, List.length_append, ← HN.out]; rfl
          clear hv9
          subst hv9'
          have z9 := (hg9.block w1.heap.size (lt_of_block zC) (by intro y; have := (HDK.out.2.1.block _ (Or.inl y.symm)).2; omega)).trans zC
          have z09 := (hg9.block w.heap.size (lt_of_block zC0) (by intro y; have := (HDK.out.2.1.block _ (Or.inl y.symm)).1; omega)).trans zC0
          have o9 := OwnN.app (x := ((⟨q, ⟨#[]⟩, 0, []⟩ : Dr), (.slice none 0 0 : Value))) hO (Own.nil _ (w.heap.size + 1) 9 1 eS) (fun b hb => by cases hb) hown9 hg9 hat9
          have hs9 := hg9.size
          simp only [World.size_alloc] at hs9
          obtain ⟨⟨p0, p1, p2⟩, m0, m1, m2⟩ := rows3 z9
          have z10 : (w9.setCell ⟨w1.heap.size, 2, none⟩ (.slice va9 (n + 1) vc9)).heap[w1.heap.size]? = some (.cells #[.slice ta T.length tc, .int .i64 cl, .slice va9 (n + 1) vc9] 28 (0, 0)) := heap_setCell_same _ w1.heap.size 2 _ _ _ z9
          have z010 := set_other (b' := w1.heap.size) (o := 2) (v := .slice va9 (n + 1) vc9) z09 (by omega)
          have gs := grown_set w9 w1.heap.size 2 (.slice va9 (n + 1) vc9)
          have o10 := o9.chg (p := fun b => b = w1.heap.size) (ChgN.of_grown gs (fun b hb => by injection hb with hb; exact hb.symm)) (fun b hb y => by
            subst y
            rcases ownN_typed o9 hb z9 with z | z <;> exact absurd z (by decide))
          have gg9 := grown_fresh2 (grown_tr gg4 (grown_al w3 (.cells #[.int .i64 q, .string ⟨#[]⟩, .int .i64 0, .slice none 0 0] 34) (some g))) hg9 (fun b hb => by have := (HDK.out.2.1.block b (Or.inl hb)).1; omega)
          have hr9 := (hr4.al (.cells #[.int .i64 q, .string ⟨#[]⟩, .int .i64 0, .slice none 0 0] 34)).grown hg9 (fun b hb => by have := (HDK.out.2.1.block b (Or.inl hb)).1; omega)
          have hbn : ∀ b, ownsN (.slice ta T.length tc) T b → Value.ownBlock (.slice da n dc) ≠ some b := fun b hb y => by
            obtain ⟨cs, hz⟩ := own_is hO.1 y
            rcases ownN_typed hdC.1 hb hz with z | z <;> exact absurd z (by decide)
          have hT9 := OwnN.chg hdC.1 (p := fun b => Value.ownBlock (.slice da n dc) = some b) (ChgN.of_grown hg9 (fun b hb => hb)) (fun b hb y => hbn b hb y)
          have hTW := OwnN.chg hT9 (p := fun b => b = w1.heap.size) (ChgN.of_grown gs (fun b hb => by injection hb with hb; exact hb.symm)) (fun b hb y => by
            subst y
            rcases ownN_typed hT9 hb z9 with z | z <;> exact absurd z (by decide))
          have hdA := HDK.out.toA
          have hdW : DkA (w9.setCell ⟨w1.heap.size, 2, none⟩ (.slice va9 (n + 1) vc9)) (w.heap.size + 1) (.slice ta T.length tc) cl (.slice va9 (n + 1) vc9) T (D ++ [((⟨q, ⟨#[]⟩, 0, []⟩ : Dr), (.slice none 0 0 : Value))]) := by
            refine ⟨OwnN.flR hTW, OwnD.reads o10, hdA.2.2.1, fun r hr => ?_, hdA.2.2.2.2.1, by simp; omega, hdA.2.2.2.2.2.2⟩
            rw [List.mem_append, List.mem_singleton] at hr
            rcases hr with hr | rfl
            · exact hdA.2.2.2.1 r hr
            · exact Nat.zero_le _
          obtain ⟨WW, hWW⟩ : ∃ WW, WW = w9.setCell ⟨w1.heap.size, 2, none⟩ (.slice va9 (n + 1) vc9) := ⟨_, rfl⟩
          rw [← hWW] at z10 z010 gs hdW
          have hrW := hr9.grown gs (fun b hb => by injection hb with hb; omega)
          have ggW := grown_fresh gg9 gs (by omega)
          have HWW := Lib.hid hWW
          have HDW := Lib.hid hdW
          have HP := Lib.hid (put3 z010 (.slice ta T.length tc) (.int .i64 cl) (.slice va9 (n + 1) vc9))
          have Z10 := Lib.hid z10
          have Z010 := Lib.hid z010
          clear hWW hdW hdA z9 z09 z10 z010 z0 z3 zC zC0 hown9 o9 o10 hT9 hTW hO hdC y2 yC xA x0 x1 x2 f0 f1 f2
          refine hK.out _ _ trivial (fun _ => ?_)
          clear hK K
          try simp only [Act.put, List.getElem_toArray, List.getElem_cons_succ, List.getElem_cons_zero, List.setIfInBounds_toArray, List.set_cons_zero, List.set_cons_succ]
          refine wpAnyH_take (i := 8) (v := ?_) rfl (by kernel_rfl) (by kernel_rfl) (by kernel_rfl) (fun _ _ _ h => h) (Or.inl ⟨by rfl, ?_⟩) trivial ?_
          rotate_left
          · (intro W hSw; (try dsimp only at hSw); go_simp; try (with_reducible rfl))
          try simp only [Act.put, List.getElem_toArray, List.getElem_cons_succ, List.getElem_cons_zero, List.setIfInBounds_toArray, List.set_cons_zero, List.set_cons_succ]
          refine wpAnyH_ready (rs := [9]) (by kernel_rfl) (by simp) ?_
          refine AllReadyH.cons rfl (fun K hK => ?_) (AllReadyH.nil)
          go_simp
          rw [← HWW.out]
          refine hK.out _ _ trivial (fun _ => ?_)
          clear hK K
          try simp only [Act.put, List.getElem_toArray, List.getElem_cons_succ, List.getElem_cons_zero, List.setIfInBounds_toArray, List.set_cons_zero, List.set_cons_succ]
          refine wpAnyH_done (by kernel_rfl) ?_ _
          clear p0 p1 p2 m0 m1 m2
          obtain ⟨⟨p0, p1, p2⟩, _⟩ := rows3 Z10.out
          obtain ⟨_, m0, m1, m2⟩ := rows3 Z010.out
          go_wp2
          refine bodyPost_ret (results_cell_row rfl _ _ w.heap.size 28 _ (0, 0) _ rfl HP.out.1 Tryd.underlying28 rfl (by kernel_rfl)) rfl ?_
          exact ⟨_, _, _, T, (D ++ [((⟨q, ⟨#[]⟩, 0, []⟩ : Dr), (.slice none 0 0 : Value))]), _, rfl, (DkA.keep (HDW.out) (Same.of_grown HP.out.2 (Nat.le_refl _) (fun k hk => by injection hk with hk; left; omega)) HP.out.2.size).mono (by omega), (hrW).grown HP.out.2 (fun b hb => by injection hb with hb; omega), by omega, grown_fresh (ggW) HP.out.2 (Nat.le_refl _)⟩
        · skip
          go_simp
          refine HON.out.mono ?_
          rintro e w3 ⟨q, rfl, hin, hr4, hg4⟩
          refine hK.out _ _ trivial (fun _ => ?_)
          clear hK K
          try simp only [Act.put, List.getElem_toArray, List.getElem_cons_succ, List.getElem_cons_zero, List.setIfInBounds_toArray, List.set_cons_zero, List.set_cons_succ]
          have hg4' : w2.grownBy w3 (some g) := ⟨hg4.os, hg4.tape, hg4.output, hg4.size, hg4.block⟩
          have z0 := keep_blk HZ0.out hg4' (by omega)
          have z3 := keep_blk HZ3.out hg4' (by omega)
          have hsa4 := hsa.trans (Same.of_grown hg4' (by omega) (fun k hk => by injection hk with hk; left; omega))
          have gg4 := grown_tr gg2 hg4'
          have hs4 := hg4'.size
          have gC := gr_al w3 (.cells #[.int .i64 q, .string ⟨#[]⟩, .int .i64 0, .slice none 0 0] 34)
          have y2 := (rows3 z3).1.2.2
          have yC := (rows3 ((gC.block _ (lt_of_block z3)).trans z3)).1.2.2
          refine wpAnyH_take (i := 5) (v := ?_) rfl (by kernel_rfl) (by kernel_rfl) (by kernel_rfl) (fun _ _ _ h => h) (Or.inl ⟨by rfl, ?_⟩) trivial ?_
          rotate_left
          · (intro W hSw; (try dsimp only at hSw); go_simp; try (with_reducible rfl))
          try simp only [Act.put, List.getElem_toArray, List.getElem_cons_succ, List.getElem_cons_zero, List.setIfInBounds_toArray, List.set_cons_zero, List.set_cons_succ]
          refine wpAnyH_ready (rs := [1, 6]) (by kernel_rfl) (by simp) ?_
          refine AllReadyH.cons rfl (fun K hK => ?_) (AllReadyH.cons rfl (fun K hK => ?_) (AllReadyH.nil))
          · skip
            go_simp
            refine hK.out _ _ trivial (fun _ => ?_)
            clear hK K
            try simp only [Act.put, List.getElem_toArray, List.getElem_cons_succ, List.getElem_cons_zero, List.setIfInBounds_toArray, List.set_cons_zero, List.set_cons_succ]
            refine wpAnyH_ready (rs := [6]) (by kernel_rfl) (by simp) ?_
            refine AllReadyH.cons rfl (fun K hK => ?_) (AllReadyH.nil)
            go_simp
            refine hK.out _ _ trivial (fun _ => ?_)
            clear hK K
            try simp only [Act.put, List.getElem_toArray, List.getElem_cons_succ, List.getElem_cons_zero, List.setIfInBounds_toArray, List.set_cons_zero, List.set_cons_succ]
            refine wpAnyH_ready (rs := [7]) (by kernel_rfl) (by simp) ?_
            refine AllReadyH.cons rfl (fun K hK => ?_) (AllReadyH.nil)
            have hsC := hsa4.trans (Same.of_below gC (by omega))
            have hdC := HDK.out.keep hsC (by simp only [World.size_alloc]; omega)
            have hO := hdC.2.1
            have zC := (gC.block _ (lt_of_block z3)).trans z3
            have zC0 := (gC.block _ (lt_of_block z0)).trans z0
            have hsrc := SlR.oneAt w3 0 w3.heap.size ((⟨q, ⟨#[]⟩, 0, []⟩ : Dr), (.slice none 0 0 : Value)) 34 (enc := eDr) (k := 4) rfl (Nat.zero_le _) rfl
            have hlC : D.length ≤ 20 := by have := HN.out; omega
            refine step_app _ rfl (.tmp 17) (.tmp 22) ti_dirD rfl (by simp [Act.eval]) hO.1 (by simp [Act.eval]) hsrc (fun _ _ => rfl) (by simp [eDr, Value.oneCell']) (by unfold maxLen; simp; omega) (by simp; omega) (by simp only [World.size_alloc]; omega) ?_
            intro v9 w9 hown9 hg9 hat9
            obtain ⟨va9, vc9, hv9, _, _⟩ := hown9.form
            have hv9' : v9 = .slice va9 (n + 1) vc9 := by rw [hv9, List.length_append, ← HN.out]; rfl
            clear hv9
            subst hv9'
            have z9 := (hg9.block w1.heap.size (lt_of_block zC) (by intro y; have := (HDK.out.2.1.block _ (Or.inl y.symm)).2; omega)).trans zC
            have z09 := (hg9.block w.heap.size (lt_of_block zC0) (by intro y; have := (HDK.out.2.1.block _ (Or.inl y.symm)).1; omega)).trans zC0
            have o9 := OwnN.app (x := ((⟨q, ⟨#[]⟩, 0, []⟩ : Dr), (.slice none 0 0 : Value))) hO (Own.nil _ (w.heap.size + 1) 9 1 eS) (fun b hb => by cases hb) hown9 hg9 hat9
            have hs9 := hg9.size
            simp only [World.size_alloc] at hs9
            obtain ⟨⟨p0, p1, p2⟩, m0, m1, m2⟩ := rows3 z9
            have z10 : (w9.setCell ⟨w1.heap.size, 2, none⟩ (.slice va9 (n + 1) vc9)).heap[w1.heap.size]? = some (.cells #[.slice ta T.length tc, .int .i64 cl, .slice va9 (n + 1) vc9] 28 (0, 0)) := heap_setCell_same _ w1.heap.size 2 _ _ _ z9
            have z010 := set_other (b' := w1.heap.size) (o := 2) (v := .slice va9 (n + 1) vc9) z09 (by omega)
            have gs := grown_set w9 w1.heap.size 2 (.slice va9 (n + 1) vc9)
            have o10 := o9.chg (p := fun b => b = w1.heap.size) (ChgN.of_grown gs (fun b hb => by injection hb with hb; exact hb.symm)) (fun b hb y => by
              subst y
              rcases ownN_typed o9 hb z9 with z | z <;> exact absurd z (by decide))
            have gg9 := grown_fresh2 (grown_tr gg4 (grown_al w3 (.cells #[.int .i64 q, .string ⟨#[]⟩, .int .i64 0, .slice none 0 0] 34) (some g))) hg9 (fun b hb => by have := (HDK.out.2.1.block b (Or.inl hb)).1; omega)
            have hr9 := (hr4.al (.cells #[.int .i64 q, .string ⟨#[]⟩, .int .i64 0, .slice none 0 0] 34)).grown hg9 (fun b hb => by have := (HDK.out.2.1.block b (Or.inl hb)).1; omega)
            have hbn : ∀ b, ownsN (.slice ta T.length tc) T b → Value.ownBlock (.slice da n dc) ≠ some b := fun b hb y => by
              obtain ⟨cs, hz⟩ := own_is hO.1 y
              rcases ownN_typed hdC.1 hb hz with z | z <;> exact absurd z (by decide)
            have hT9 := OwnN.chg hdC.1 (p := fun b => Value.ownBlock (.slice da n dc) = some b) (ChgN.of_grown hg9 (fun b hb => hb)) (fun b hb y => hbn b hb y)
            have hTW := OwnN.chg hT9 (p := fun b => b = w1.heap.size) (ChgN.of_grown gs (fun b hb => by injection hb with hb; exact hb.symm)) (fun b hb y => by
              subst y
              rcases ownN_typed hT9 hb z9 with z | z <;> exact absurd z (by decide))
            have hdA := HDK.out.toA
            have hdW : DkA (w9.setCell ⟨w1.heap.size, 2, none⟩ (.slice va9 (n + 1) vc9)) (w.heap.size + 1) (.slice ta T.length tc) cl (.slice va9 (n + 1) vc9) T (D ++ [((⟨q, ⟨#[]⟩, 0, []⟩ : Dr), (.slice none 0 0 : Value))]) := by
              refine ⟨OwnN.flR hTW, OwnD.reads o10, hdA.2.2.1, fun r hr => ?_, hdA.2.2.2.2.1, by simp; omega, hdA.2.2.2.2.2.2⟩
              rw [List.mem_append, List.mem_singleton] at hr
              rcases hr with hr | rfl
              · exact hdA.2.2.2.1 r hr
              · exact Nat.zero_le _
            obtain ⟨WW, hWW⟩ : ∃ WW, WW = w9.setCell ⟨w1.heap.size, 2, none⟩ (.slice va9 (n + 1) vc9) := ⟨_, rfl⟩
            rw [← hWW] at z10 z010 gs hdW
            have hrW := hr9.grown gs (fun b hb => by injection hb with hb; omega)
            have ggW := grown_fresh gg9 gs (by omega)
            have HWW := Lib.hid hWW
            have HDW := Lib.hid hdW
            have HP := Lib.hid (put3 z010 (.slice ta T.length tc) (.int .i64 cl) (.slice va9 (n + 1) vc9))
            have Z10 := Lib.hid z10
            have Z010 := Lib.hid z010
            clear hWW hdW hdA z9 z09 z10 z010 z0 z3 zC zC0 hown9 o9 o10 hT9 hTW hO hdC y2 yC xA x0 x1 x2 f0 f1 f2
            refine hK.out _ _ trivial (fun _ => ?_)
            clear hK K
            try simp only [Act.put, List.getElem_toArray, List.getElem_cons_succ, List.getElem_cons_zero, List.setIfInBounds_toArray, List.set_cons_zero, List.set_cons_succ]
            refine wpAnyH_take (i := 8) (v := ?_) rfl (by kernel_rfl) (by kernel_rfl) (by kernel_rfl) (fun _ _ _ h => h) (Or.inl ⟨by rfl, ?_⟩) trivial ?_
            rotate_left
            · (intro W hSw; (try dsimp only at hSw); go_simp; try (with_reducible rfl))
            try simp only [Act.put, List.getElem_toArray, List.getElem_cons_succ, List.getElem_cons_zero, List.setIfInBounds_toArray, List.set_cons_zero, List.set_cons_succ]
            refine wpAnyH_ready (rs := [9]) (by kernel_rfl) (by simp) ?_
            refine AllReadyH.cons rfl (fun K hK => ?_) (AllReadyH.nil)
            go_simp
            rw [← HWW.out]
            refine hK.out _ _ trivial (fun _ => ?_)
            clear hK K
            try simp only [Act.put, List.getElem_toArray, List.getElem_cons_succ, List.getElem_cons_zero, List.setIfInBounds_toArray, List.set_cons_zero, List.set_cons_succ]
            refine wpAnyH_done (by kernel_rfl) ?_ _
            clear p0 p1 p2 m0 m1 m2
            obtain ⟨⟨p0, p1, p2⟩, _⟩ := rows3 Z10.out
            obtain ⟨_, m0, m1, m2⟩ := rows3 Z010.out
            go_wp2
            refine bodyPost_ret (results_cell_row rfl _ _ w.heap.size 28 _ (0, 0) _ rfl HP.out.1 Tryd.underlying28 rfl (by kernel_rfl)) rfl ?_
            exact ⟨_, _, _, T, (D ++ [((⟨q, ⟨#[]⟩, 0, []⟩ : Dr), (.slice none 0 0 : Value))]), _, rfl, (DkA.keep (HDW.out) (Same.of_grown HP.out.2 (Nat.le_refl _) (fun k hk => by injection hk with hk; left; omega)) HP.out.2.size).mono (by omega), (hrW).grown HP.out.2 (fun b hb => by injection hb with hb; omega), by omega, grown_fresh (ggW) HP.out.2 (Nat.le_refl _)⟩
          · skip
            go_simp
            refine hK.out _ _ trivial (fun _ => ?_)
            clear hK K
            try simp only [Act.put, List.getElem_toArray, List.getElem_cons_succ, List.getElem_cons_zero, List.setIfInBounds_toArray, List.set_cons_zero, List.set_cons_succ]
            refine wpAnyH_ready (rs := [1]) (by kernel_rfl) (by simp) ?_
            refine AllReadyH.cons rfl (fun K hK => ?_) (AllReadyH.nil)
            go_simp
            refine hK.out _ _ trivial (fun _ => ?_)
            clear hK K
            try simp only [Act.put, List.getElem_toArray, List.getElem_cons_succ, List.getElem_cons_zero, List.setIfInBounds_toArray, List.set_cons_zero, List.set_cons_succ]
            refine wpAnyH_ready (rs := [7]) (by kernel_rfl) (by simp) ?_
            refine AllReadyH.cons rfl (fun K hK => ?_) (AllReadyH.nil)
            have hsC := hsa4.trans (Same.of_below gC (by omega))
            have hdC := HDK.out.keep hsC (by simp only [World.size_alloc]; omega)
            have hO := hdC.2.1
            have zC := (gC.block _ (lt_of_block z3)).trans z3
            have zC0 := (gC.block _ (lt_of_block z0)).trans z0
            have hsrc := SlR.oneAt w3 0 w3.heap.size ((⟨q, ⟨#[]⟩, 0, []⟩ : Dr), (.slice none 0 0 : Value)) 34 (enc := eDr) (k := 4) rfl (Nat.zero_le _) rfl
            have hlC : D.length ≤ 20 := by have := HN.out; omega
            refine step_app _ rfl (.tmp 17) (.tmp 22) ti_dirD rfl (by simp [Act.eval]) hO.1 (by simp [Act.eval]) hsrc (fun _ _ => rfl) (by simp [eDr, Value.oneCell']) (by unfold maxLen; simp; omega) (by simp; omega) (by simp only [World.size_alloc]; omega) ?_
            intro v9 w9 hown9 hg9 hat9
            obtain ⟨va9, vc9, hv9, _, _⟩ := hown9.form
            have hv9' : v9 = .slice va9 (n + 1) vc9 := by rw [hv9, List.length_append, ← HN.out]; rfl
            clear hv9
            subst hv9'
            have z9 := (hg9.block w1.heap.size (lt_of_block zC) (by intro y; have := (HDK.out.2.1.block _ (Or.inl y.symm)).2; omega)).trans zC
            have z09 := (hg9.block w.heap.size (lt_of_block zC0) (by intro y; have := (HDK.out.2.1.block _ (Or.inl y.symm)).1; omega)).trans zC0
            have o9 := OwnN.app (x := ((⟨q, ⟨#[]⟩, 0, []⟩ : Dr), (.slice none 0 0 : Value))) hO (Own.nil _ (w.heap.size + 1) 9 1 eS) (fun b hb => by cases hb) hown9 hg9 hat9
            have hs9 := hg9.size
            simp only [World.size_alloc] at hs9
            obtain ⟨⟨p0, p1, p2⟩, m0, m1, m2⟩ := rows3 z9
            have z10 : (w9.setCell ⟨w1.heap.size, 2, none⟩ (.slice va9 (n + 1) vc9)).heap[w1.heap.size]? = some (.cells #[.slice ta T.length tc, .int .i64 cl, .slice va9 (n + 1) vc9] 28 (0, 0)) := heap_setCell_same _ w1.heap.size 2 _ _ _ z9
            have z010 := set_other (b' := w1.heap.size) (o := 2) (v := .slice va9 (n + 1) vc9) z09 (by omega)
            have gs := grown_set w9 w1.heap.size 2 (.slice va9 (n + 1) vc9)
            have o10 := o9.chg (p := fun b => b = w1.heap.size) (ChgN.of_grown gs (fun b hb => by injection hb with hb; exact hb.symm)) (fun b hb y => by
              subst y
              rcases ownN_typed o9 hb z9 with z | z <;> exact absurd z (by decide))
            have gg9 := grown_fresh2 (grown_tr gg4 (grown_al w3 (.cells #[.int .i64 q, .string ⟨#[]⟩, .int .i64 0, .slice none 0 0] 34) (some g))) hg9 (fun b hb => by have := (HDK.out.2.1.block b (Or.inl hb)).1; omega)
            have hr9 := (hr4.al (.cells #[.int .i64 q, .string ⟨#[]⟩, .int .i64 0, .slice none 0 0] 34)).grown hg9 (fun b hb => by have := (HDK.out.2.1.block b (Or.inl hb)).1; omega)
            have hbn : ∀ b, ownsN (.slice ta T.length tc) T b → Value.ownBlock (.slice da n dc) ≠ some b := fun b hb y => by
              obtain ⟨cs, hz⟩ := own_is hO.1 y
              rcases ownN_typed hdC.1 hb hz with z | z <;> exact absurd z (by decide)
            have hT9 := OwnN.chg hdC.1 (p := fun b => Value.ownBlock (.slice da n dc) = some b) (ChgN.of_grown hg9 (fun b hb => hb)) (fun b hb y => hbn b hb y)
            have hTW := OwnN.chg hT9 (p := fun b => b = w1.heap.size) (ChgN.of_grown gs (fun b hb => by injection hb with hb; exact hb.symm)) (fun b hb y => by
              subst y
              rcases ownN_typed hT9 hb z9 with z | z <;> exact absurd z (by decide))
            have hdA := HDK.out.toA
            have hdW : DkA (w9.setCell ⟨w1.heap.size, 2, none⟩ (.slice va9 (n + 1) vc9)) (w.heap.size + 1) (.slice ta T.length tc) cl (.slice va9 (n + 1) vc9) T (D ++ [((⟨q, ⟨#[]⟩, 0, []⟩ : Dr), (.slice none 0 0 : Value))]) := by
              refine ⟨OwnN.flR hTW, OwnD.reads o10, hdA.2.2.1, fun r hr => ?_, hdA.2.2.2.2.1, by simp; omega, hdA.2.2.2.2.2.2⟩
              rw [List.mem_append, List.mem_singleton] at hr
              rcases hr with hr | rfl
              · exact hdA.2.2.2.1 r hr
              · exact Nat.zero_le _
            obtain ⟨WW, hWW⟩ : ∃ WW, WW = w9.setCell ⟨w1.heap.size, 2, none⟩ (.slice va9 (n + 1) vc9) := ⟨_, rfl⟩
            rw [← hWW] at z10 z010 gs hdW
            have hrW := hr9.grown gs (fun b hb => by injection hb with hb; omega)
            have ggW := grown_fresh gg9 gs (by omega)
            have HWW := Lib.hid hWW
            have HDW := Lib.hid hdW
            have HP := Lib.hid (put3 z010 (.slice ta T.length tc) (.int .i64 cl) (.slice va9 (n + 1) vc9))
            have Z10 := Lib.hid z10
            have Z010 := Lib.hid z010
            clear hWW hdW hdA z9 z09 z10 z010 z0 z3 zC zC0 hown9 o9 o10 hT9 hTW hO hdC y2 yC xA x0 x1 x2 f0 f1 f2
            refine hK.out _ _ trivial (fun _ => ?_)
            clear hK K
            try simp only [Act.put, List.getElem_toArray, List.getElem_cons_succ, List.getElem_cons_zero, List.setIfInBounds_toArray, List.set_cons_zero, List.set_cons_succ]
            refine wpAnyH_take (i := 8) (v := ?_) rfl (by kernel_rfl) (by kernel_rfl) (by kernel_rfl) (fun _ _ _ h => h) (Or.inl ⟨by rfl, ?_⟩) trivial ?_
            rotate_left
            · (intro W hSw; (try dsimp only at hSw); go_simp; try (with_reducible rfl))
            try simp only [Act.put, List.getElem_toArray, List.getElem_cons_succ, List.getElem_cons_zero, List.setIfInBounds_toArray, List.set_cons_zero, List.set_cons_succ]
            refine wpAnyH_ready (rs := [9]) (by kernel_rfl) (by simp) ?_
            refine AllReadyH.cons rfl (fun K hK => ?_) (AllReadyH.nil)
            go_simp
            rw [← HWW.out]
            refine hK.out _ _ trivial (fun _ => ?_)
            clear hK K
            try simp only [Act.put, List.getElem_toArray, List.getElem_cons_succ, List.getElem_cons_zero, List.setIfInBounds_toArray, List.set_cons_zero, List.set_cons_succ]
            refine wpAnyH_done (by kernel_rfl) ?_ _
            clear p0 p1 p2 m0 m1 m2
            obtain ⟨⟨p0, p1, p2⟩, _⟩ := rows3 Z10.out
            obtain ⟨_, m0, m1, m2⟩ := rows3 Z010.out
            go_wp2
            refine bodyPost_ret (results_cell_row rfl _ _ w.heap.size 28 _ (0, 0) _ rfl HP.out.1 Tryd.underlying28 rfl (by kernel_rfl)) rfl ?_
            exact ⟨_, _, _, T, (D ++ [((⟨q, ⟨#[]⟩, 0, []⟩ : Dr), (.slice none 0 0 : Value))]), _, rfl, (DkA.keep (HDW.out) (Same.of_grown HP.out.2 (Nat.le_refl _) (fun k hk => by injection hk with hk; left; omega)) HP.out.2.size).mono (by omega), (hrW).grown HP.out.2 (fun b hb => by injection hb with hb; omega), by omega, grown_fresh (ggW) HP.out.2 (Nat.le_refl _)⟩
    · have q1 : (k == 1) = false := by simp [h1]
      clear h0 h1
      have HP := Lib.hid (put3 HZ0.out (.slice ta T.length tc) (.int .i64 cl) (.slice da n dc))
      obtain ⟨_, m0, m1, m2⟩ := rows3 HZ0.out
      have hdW : DkA w2 (w.heap.size + 1) (.slice ta T.length tc) cl (.slice da n dc) T D := DkA.keep HDK.out.toA hsa (by omega)
      have HDW := Lib.hid hdW
      clear hdW hsa
      go_wp2
      refine bodyPost_ret (results_cell_row rfl _ _ w.heap.size 28 _ (0, 0) _ rfl HP.out.1 Tryd.underlying28 rfl (by kernel_rfl)) rfl ?_
      exact ⟨_, _, _, T, D, _, rfl, (DkA.keep (HDW.out) (Same.of_grown HP.out.2 (Nat.le_refl _) (fun k hk => by injection hk with hk; left; omega)) HP.out.2.size).mono (by omega), (hr2).grown HP.out.2 (fun b hb => by injection hb with hb; omega), by omega, grown_fresh (gg2) HP.out.2 (Nat.le_refl _)⟩
def DrawnDk (w : World) (e : Ending) (w' : World) : Prop :=
  ∃ tv cl dv, ∃ T : List FR, ∃ D : List DR, e = .returned (vDk tv cl dv) ∧ DkA w' 0 tv cl dv T D ∧ Gr w w'
theorem DrawValidDisk_any {lo hi : Nat} (v : Value) (L : List UInt8) (w : World) (hok : OkW w) (hv : SlR w lo hi 1 eB v L) (hhi : hi ≤ w.heap.size) (hl : L.length ≤ 1048576) :
    Calls Tryd.prog 8 #[v] w (DrawnDk w) := by
  have hz0 := heap_alloc_new w (.cells #[.slice none 0 0, .int .i64 0, .slice none 0 0] 28)
  have HR := Lib.hid (newReader_any v L (w.alloc (.cells #[.slice none 0 0, .int .i64 0, .slice none 0 0] 28)) (hv.below (gr_al w _) hhi) (by simp; omega) hl)
  have hgl := hok.lt
  go_enter Tryd.func8, Tryd.ntmps8
  go_wp2_with fail
  refine HR.out.mono ?_
  rintro e w1 ⟨rfl, hr, hsz, hb⟩
  have hz0 := (hb.block _ (lt_of_block hz0)).trans hz0
  have hb' : Gr w w1 := (gr_al w (.cells #[.slice none 0 0, .int .i64 0, .slice none 0 0] 28)).tr hb
  simp only [World.size_alloc] at hr hsz
  have HA := Lib.hid (anyDisk_any (w.heap.size + 1) 0 w1 hr (hok.gr hb') (by omega) (by omega))
  have HZ0 := Lib.hid hz0
  clear hz0
  go_wp2_with fail
  refine HA.out.mono ?_
  rintro e w2 ⟨tv, cl, dv, T, D, p', rfl, hdk, hr2, hp', hg2⟩
  obtain ⟨ta, tc, rfl, _, _⟩ := hdk.1.1.form
  obtain ⟨da, dc, rfl, _, _⟩ := hdk.2.1.1.form
  have z2 := keep_blk HZ0.out hg2 (by omega)
  have HP := Lib.hid (put3 z2 (.slice ta T.length tc) (.int .i64 cl) (.slice da D.length dc))
  obtain ⟨⟨x0, x1, x2⟩, m0, m1, m2⟩ := rows3 z2
  have hgw : Gr w w2 := hb'.grown hg2 hb'.size (fun k hk => by injection hk with hk; omega)
  have HDK := Lib.hid hdk
  clear z2 hdk
  go_wp2
  refine bodyPost_ret (results_cell_row rfl _ _ w.heap.size 28 _ (0, 0) _ rfl HP.out.1 Tryd.underlying28 rfl (by kernel_rfl)) rfl ?_
  exact ⟨_, _, _, T, D, rfl, (HDK.out.keep (Same.of_grown HP.out.2 (Nat.le_refl _) (fun k hk => by injection hk with hk; left; omega)) HP.out.2.size).mono (Nat.zero_le _), hgw.grown HP.out.2 hgw.size (fun k hk => by injection hk with hk; omega)⟩
theorem results_row_tmp2D {P : Program} {fn : Func} {p u v : Tmp} {ty : TypeId} (h : fn.results = #[.cell p ty, .tmp u, .tmp v]) (tmps : Array Value) (w : World) (g : Nat) (t : TypeId) (cs : Array Value) (fr : Nat × Nat) (d : TypeDesc) (x y : Value)
    (hp : tmps.getD p undef = .pointer (some ⟨g, 0, none⟩)) (hx : tmps.getD u undef = x) (hy : tmps.getD v undef = y) (hg : w.heap[g]? = some (.cells cs t fr))
    (hu : P.underlying ty = some d) (hd : (match d with | .struct _ | .array _ _ => true | _ => false) = true) (hi : (P.info? ty).map (·.size) = some cs.size) :
    (results fn tmps).run P w = .ok (.tuple #[.agg cs, x, y]) w := by
  have hp' : tmps[p]?.getD undef = .pointer (some ⟨g, 0, none⟩) := by simpa using hp
  have hx' : tmps[u]?.getD undef = x := by simpa using hx
  have hy' : tmps[v]?.getD undef = y := by simpa using hy
  simp [results, h, hp', hx', hy', asAddr, run_loadVar_row w g t ty cs fr d hg hu hd hi]
def DrawnSt (w : World) (e : Ending) (w' : World) : Prop :=
  ∃ tv cl dv, ∃ T : List FR, ∃ D : List DR, ∃ root : Int, ∃ s : ByteArray, e = .returned (.tuple #[vDk tv cl dv, .int .i64 root, .string s]) ∧ DkA w' 0 tv cl dv T D ∧ s.size ≤ 7 ∧ Gr w w'
theorem DrawStampOf_any {lo hi : Nat} (v : Value) (L : List UInt8) (w : World) (hok : OkW w) (hv : SlR w lo hi 1 eB v L) (hhi : hi ≤ w.heap.size) (hl : L.length ≤ 1048576) :
    Calls Tryd.prog 5 #[v] w (DrawnSt w) := by
  have hz0 := heap_alloc_new w (.cells #[.slice none 0 0, .int .i64 0, .slice none 0 0] 28)
  have HR := Lib.hid (newReader_any v L (w.alloc (.cells #[.slice none 0 0, .int .i64 0, .slice none 0 0] 28)) (hv.below (gr_al w _) hhi) (by simp; omega) hl)
  have hgl := hok.lt
  go_enter Tryd.func5, Tryd.ntmps5
  go_wp2_with fail
  refine HR.out.mono ?_
  rintro e w1 ⟨rfl, hr, hsz, hb⟩
  have hz0 := (hb.block _ (lt_of_block hz0)).trans hz0
  have hb' : Gr w w1 := (gr_al w (.cells #[.slice none 0 0, .int .i64 0, .slice none 0 0] 28)).tr hb
  simp only [World.size_alloc] at hr hsz
  have HA := Lib.hid (anyDisk_any (w.heap.size + 1) 0 w1 hr (hok.gr hb') (by omega) (by omega))
  have HZ0 := Lib.hid hz0
  clear hz0
  go_wp2_with fail
  refine HA.out.mono ?_
  rintro e w2 ⟨tv, cl, dv, T, D, p', rfl, hdk, hr2, hp', hg2⟩
  obtain ⟨ta, tc, rfl, _, _⟩ := hdk.1.1.form
  obtain ⟨da, dc, rfl, _, _⟩ := hdk.2.1.1.form
  have z2 := keep_blk HZ0.out hg2 (by omega)
  have hgw : Gr w w2 := hb'.grown hg2 hb'.size (fun k hk => by injection hk with hk; omega)
  have hs2 := hg2.size
  have HO := Lib.hid (one_lit (w.heap.size + 1) _ [0, 1, 2, 3, -1] w2 hr2 (by omega) (by decide) (by decide))
  have HZ2 := Lib.hid z2
  have HDK := Lib.hid hdk
  clear z2 hdk
  go_wp2_with fail
  refine HO.out.mono ?_
  rintro e w3 ⟨root, rfl, _, hr3, hg3⟩
  have hs3 := hg3.size
  have HPK := Lib.hid (anyPackage_any (w.heap.size + 1) _ w3 hr3 (by omega))
  go_wp2_with fail
  refine HPK.out.mono ?_
  rintro e w4 ⟨s, p4, rfl, hss, hr4, hp4, hg4⟩
  have hg24 : w2.grownBy w4 (some (w.heap.size + 1)) := grown_tr hg3 hg4
  have z4 := keep_blk HZ2.out hg24 (by omega)
  have HP := Lib.hid (put3 z4 (.slice ta T.length tc) (.int .i64 cl) (.slice da D.length dc))
  obtain ⟨⟨x0, x1, x2⟩, m0, m1, m2⟩ := rows3 z4
  have hgw4 : Gr w w4 := hgw.grown hg24 hgw.size (fun k hk => by injection hk with hk; omega)
  have hw1 : w1.heap.size = w.heap.size + 2 := by omega
  have hdk4 := HDK.out.keep (Same.of_grown hg24 (Nat.le_refl _) (fun k hk => by injection hk with hk; left; omega)) hg24.size
  have HDK4 := Lib.hid hdk4
  clear z4 hdk4 hw1
  go_wp2
  refine bodyPost_ret (results_row_tmp2D rfl _ _ w.heap.size 28 _ (0, 0) _ _ _ rfl rfl rfl HP.out.1 Tryd.underlying28 rfl (by kernel_rfl)) rfl ?_
  exact ⟨_, _, _, T, D, root, s, rfl, (HDK4.out.keep (Same.of_grown HP.out.2 (Nat.le_refl _) (fun k hk => by injection hk with hk; left; omega)) HP.out.2.size).mono (Nat.zero_le _), hss, hgw4.grown HP.out.2 hgw4.size (fun k hk => by injection hk with hk; omega)⟩
end Go.Proofs.YtepljjaienpepaaDoor
