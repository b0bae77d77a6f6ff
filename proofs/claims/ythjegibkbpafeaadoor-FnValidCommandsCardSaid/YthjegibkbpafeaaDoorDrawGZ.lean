/-
  Walks: trees drawn that may be invalid. Printed by drawg.py.
-/
import Derived.Test.YthjegibkbpafeaaDoorZ7
namespace Imp
open Go Go.RowKit
def SmFt (f : Fil) : Prop := f.body.length ≤ 6 ∧ (∀ s ∈ f.body, s.mod.size ≤ 5 ∧ s.name.size ≤ 5) ∧ f.pkg.size ≤ 7 ∧ f.name.size ≤ 1
theorem SmFd.t {f : Fil} (h : SmFd f) : SmFt f := ⟨by have := h.1; omega, fun s hs => ⟨(h.2.1 s hs).1, (h.2.1 s hs).2.1⟩, h.2.2.1, h.2.2.2⟩
theorem flR_of {w : World} {base tF tS : Nat} {v : Value} {M : List FR} (h : Own w base tF 6 eF v M) (hi : ∀ r ∈ M, Own w base tS 5 eSt r.2 r.1.body) : FlR w base w.heap.size v M :=
  ⟨h.reads (fun _ _ => rfl), fun r hr => (hi r hr).reads (fun _ _ => rfl)⟩
theorem FlR.keepS {w w' : World} {lo hi : Nat} {v : Value} {M : List FR} (h : FlR w lo hi v M) (hs : Same lo hi w w') : FlR w' lo hi v M := ⟨h.1.keep hs, fun r hr => SlR.keep (h.2 r hr) hs⟩
theorem FlR.setB {w : World} {lo hi b o : Nat} {u v : Value} {M : List FR} (h : FlR w lo hi v M) (hb : b < lo) : FlR (w.setCell ⟨b, o, none⟩ u) lo hi v M :=
  h.keepS (fun i h1 _ => Below.heap_setCell w _ _ i (by show i ≠ b; omega))
theorem FlR.mono' {w : World} {lo hi lo' hi' : Nat} {v : Value} {M : List FR} (h : FlR w lo hi v M) (h1 : lo' ≤ lo) (h2 : hi ≤ hi') : FlR w lo' hi' v M :=
  ⟨SlR.mono h.1 h1 h2, fun r hr => SlR.mono (h.2 r hr) h1 h2⟩
theorem flR_set {W : World} {base tF tS t o b0 o0 : Nat} {u1 u0 v : Value} {M : List FR} (h : Own W base tF 6 eF v M) (hi : ∀ r ∈ M, Own W base tS 5 eSt r.2 r.1.body) (hne : ∀ b, ownsN v M b → b ≠ t) (hb : b0 < base) :
    FlR ((W.setCell ⟨t, o, none⟩ u1).setCell ⟨b0, o0, none⟩ u0) base ((W.setCell ⟨t, o, none⟩ u1).setCell ⟨b0, o0, none⟩ u0).heap.size v M :=
  flR_of (tF := tF) (tS := tS) (h.keep (fun q hq => (Below.heap_setCell _ _ _ q (by show q ≠ b0; have := (h.block q hq).1; omega)).trans (Below.heap_setCell _ _ _ q (hne q (Or.inl hq)))))
    (fun r hr => (hi r hr).keep (fun q hq => (Below.heap_setCell _ _ _ q (by show q ≠ b0; have := ((hi r hr).block q hq).1; omega)).trans (Below.heap_setCell _ _ _ q (hne q (Or.inr ⟨r, hr, hq⟩)))))
end Imp
namespace Go.Proofs.YthjegibkbpafeaaDoor
open Go Go.RowKit Imp
set_option linter.unusedVariables false
set_option linter.unusedSimpArgs false
def DTreeA (w : World) (g p c : Nat) (e : Ending) (w' : World) : Prop :=
  ∃ v, ∃ M : List FR, ∃ p', e = .returned (.agg #[v]) ∧ FlR w' (w.heap.size + 1) w'.heap.size v M ∧ M.length ≤ 11 ∧ (∀ r ∈ M, SmFt r.1) ∧ Rdr w' g p' ∧ p' ≤ p + c ∧ w.grownBy w' (some g)
theorem ti_stmG : TI Tryd.prog 38 66 5 56 := TI.mk' (z := zSt) Tryd.underlying38 (by kernel_rfl) rfl (by decide)
set_option maxHeartbeats 6400000 in
theorem anyTree_any (g p : Nat) (w : World) (h : Rdr w g p) (hp : p < 240000000) :
    Calls Tryd.prog 22 #[.pointer (some ⟨g, 0, none⟩)] w (DTreeA w g p 1310) := by
  have hlt := h.lt
  have hsT := someTree_any g p (w.alloc (.cells #[.slice none 0 0] 29)) (h.al _) (by omega)
  have hz0 := heap_alloc_new w (.cells #[.slice none 0 0] 29)
  have gg0 := grown_al w (.cells #[.slice none 0 0] 29) (some g)
  have HST := Lib.hid hsT
  clear hsT
  go_enter Tryd.func22, Tryd.ntmps22
  go_wp2_with fail
  refine HST.out.mono ?_
  rintro e w1 ⟨v, M, p1, rfl, hown, hll, hsm, hr1, hp1, hg1⟩
  simp only [World.size_alloc] at hown
  have hz0 := keep_blk hz0 hg1 (by omega)
  have gg1 := grown_tr gg0 hg1
  obtain ⟨va, vc, rfl, hnc, hvc⟩ := hown.1.form
  obtain ⟨n, hn⟩ : ∃ n, n = M.length := ⟨_, rfl⟩
  rw [← hn] at hown hnc ⊢
  have hz1 := heap_alloc_new w1 (.cells #[.slice va n vc] 29)
  have hgv := gr_al w1 (.cells #[.slice va n vc] 29)
  have hlo := lt_of_block hz0
  have hz0 := (hgv.block _ hlo).trans hz0
  have hr1 := hr1.al (.cells #[.slice va n vc] 29)
  have gg1 := grown_tr gg1 (grown_al w1 (.cells #[.slice va n vc] 29) (some g))
  have hobl := hown.block
  have hown := hown.gr hgv
  have hs1 : w.heap.size + 1 ≤ w1.heap.size := by omega
  clear gg0 hg1 HST
  obtain ⟨x1, xf1⟩ := row1 hz1
  have HYA := Lib.hid hz0
  have HYB := Lib.hid hz1
  have HSM := Lib.hid hsm
  have HOB := Lib.hid hobl
  cases M with
  | nil =>
    have hn0 : n = 0 := by rw [hn]; rfl
    subst hn0
    obtain ⟨x0, xf0⟩ := row1 hz0
    have HO := Lib.hid hown
    have hse := World.setCell_alloc_past (w := w1) (.cells #[.slice va 0 vc] 29) w.heap.size 0 (.slice va 0 vc) hlo
    have HSE := Lib.hid hse
    clear hz0 hz1 hown hsm hn hobl hnc hse
    go_wp2
    rw [← HSE.out]
    refine bodyPost_ret (results_cell_row rfl _ _ w.heap.size 29 _ (0, 0) _ rfl (heap_set1 HYA.out) Tryd.underlying29 rfl (by kernel_rfl)) rfl ?_
    exact ⟨_, [], p1, rfl, (FlR.setB (b := w.heap.size) (o := 0) HO.out.flR (by omega)).mono' (Nat.le_refl _) (by simp [World.setCell]), by simp, by simp, hr1.grown (grown_set _ _ _ _) (fun b hb => by injection hb with hb; omega), by omega, grown_fresh gg1 (grown_set _ _ _ _) (Nat.le_refl _)⟩
  | cons x B =>
    obtain ⟨⟨root, pkg, name, init, stamp, body⟩, xv⟩ := x
    have hxo := hown.2.1 _ (List.mem_cons_self ..)
    obtain ⟨xa, xc, hxv, hxc, hxc2⟩ := hxo.form
    simp only at hxv hxc
    subst hxv
    have hni : (0 : Int) < (n : Int) := by rw [hn, List.length_cons]; omega
    have hnl : B.length + 1 = n := by rw [hn, List.length_cons]
    have hn10 : n ≤ 10 := by omega
    have HN := Lib.hid hn
    have hbl5 : body.length ≤ 5 := (hsm _ (List.mem_cons_self ..)).1
    clear hn hsm hobl
    go_wp2_with fail
    refine (pick_any g _ 24 _ hr1 (by omega) (by omega)).mono ?_
    rintro e w2 ⟨k, rfl, hk0, hk1, hr2, hg2⟩
    have hown := hown.keepR hg2 (by omega)
    have gg2 := grown_tr gg1 hg2
    have hzc0 := keep_blk HYA.out hg2 (by omega)
    have hzc1 := keep_blk HYB.out hg2 (by have := hr1.lt; omega)
    have hs2 : w1.heap.size + 1 ≤ w2.heap.size := by have := hg2.size; simpa using this
    obtain ⟨b, c0, ee, hbb, hbl, hcc, hcell, hfr⟩ := own_rowK (A := []) (K := 6) (enc := eF) (fun _ => rfl) hown.1
    injection ee with e1 e2 e3
    clear e2 e3 hcc
    subst e1
    have hbl1 : b < w1.heap.size := (HOB.out b (Or.inl rfl)).2
    have c0 := hcell 0 _ rfl
    have c1 := hcell 1 _ rfl
    have c2 := hcell 2 _ rfl
    have c3 := hcell 3 _ rfl
    have c4 := hcell 4 _ rfl
    have c5 := hcell 5 _ rfl
    have f0 := hfr 0
    have f4 := hfr 4
    have f5 := hfr 5
    simp only [List.length_nil, Nat.zero_mul, Nat.zero_add] at c0 c1 c2 c3 c4 c5 f0 f4 f5
    clear x1 xf1 hcell hfr hgv hg2 gg1 hr1 hxo
    have hl2 := lt_of_block hzc1
    obtain ⟨x1, xf1⟩ := row1 hzc1
    obtain ⟨x0, xf0⟩ := row1 hzc0
    have HZ0 := Lib.hid hzc0
    have HZ1 := Lib.hid hzc1
    have HO := Lib.hid hown
    clear hzc0 hzc1 hz0 hz1 hown HYA HYB
    have hne1 : ¬ b = w1.heap.size := by omega
    have hne2 : ¬ w1.heap.size = b := by omega
    by_cases h0 : k = 0
    · subst h0
      have HSRC := Lib.hid (SlR.oneAt (w2.drewN 1) w.heap.size w2.heap.size ((⟨root, pkg, name, init, stamp, body⟩ : Fil), (.slice xa body.length xc : Value)) 40 (enc := eF) (k := 6) rfl (by have := HZ1.out; omega) rfl)
      go_wp2
      go_region_law (refine step_app _ rfl (.tmp 15) (.tmp 20) ti_fil rfl (by simp [Act.eval, Act.put]) (HO.out.1.drewN 1 |>.alloc _) (by simp [Act.eval, Act.put]) HSRC.out (fun _ _ => rfl) (by simp [eF, Value.oneCell']) (by unfold maxLen; simp; omega) (by simp; omega) (by simp; omega) ?_
                     intro v9 w9 hown9 hg9 hat9
                     have hz1b := (hg9.block w1.heap.size (by simp; omega) (by intro q; have q : some _ = some b := q; injection q with q; omega)).trans ((gr_al (w2.drewN 1) _).block w1.heap.size hl2 |>.trans HZ1.out)
                     obtain ⟨y1, yf1⟩ := row1 hz1b
                     obtain ⟨va9, vc9, hv9, _, _⟩ := hown9.form
                     have hv9' : v9 = .slice va9 (n + 1) vc9 := by rw [hv9, List.length_append, List.length_cons, hnl]; rfl
                     clear hv9
                     subst hv9'
                     have HZ9 := Lib.hid hz1b
                     have HO9 := Lib.hid hown9
                     clear hz1b hown9)
      all_goals
        have hz0b := set_other (b' := w1.heap.size) (o := 0) (v := .slice va9 (n + 1) vc9) ((hg9.block w.heap.size (by simp; omega) (by intro q; have q : some _ = some b := q; injection q with q; omega)).trans ((gr_al (w2.drewN 1) _).block w.heap.size (lt_of_block HZ0.out) |>.trans HZ0.out)) (by omega)
        have hz1c := heap_set1 (b0 := .slice va9 (n + 1) vc9) HZ9.out
        obtain ⟨z1, zf1⟩ := row1 hz1c
        obtain ⟨z0, zf0⟩ := row1 hz0b
        have HZ0b := Lib.hid hz0b
        clear hz0b hz1c
        go_wp2
        refine bodyPost_ret (results_cell_row rfl _ _ w.heap.size 29 _ (0, 0) _ rfl (heap_set1 HZ0b.out) Tryd.underlying29 rfl (by kernel_rfl)) rfl ?_
        have gg9 : w.grownBy w9 (some g) := grown_fresh2 (grown_tr gg2 (grown_al w2 _ _)) ⟨hg9.os, hg9.tape, hg9.output, hg9.size, hg9.block⟩ (fun q hq => by have hq : some b = some q := hq; injection hq with hq; omega)
        have hr9 : Rdr w9 g _ := (hr2.al _).grown ⟨hg9.os, hg9.tape, hg9.output, hg9.size, hg9.block⟩ (fun q hq => by have hq : some b = some q := hq; injection hq with hq; omega)
        have hin : ∀ r ∈ (((⟨root, pkg, name, init, stamp, body⟩ : Fil), (.slice xa body.length xc : Value)) :: B ++ [((⟨root, pkg, name, init, stamp, body⟩ : Fil), (.slice xa body.length xc : Value))]), r ∈ (((⟨root, pkg, name, init, stamp, body⟩ : Fil), (.slice xa body.length xc : Value)) :: B) := fun r hr => by
          rw [List.mem_append, List.mem_singleton] at hr
          rcases hr with hr | rfl
          · exact hr
          · exact List.mem_cons_self ..
        have hik : ∀ r ∈ (((⟨root, pkg, name, init, stamp, body⟩ : Fil), (.slice xa body.length xc : Value)) :: B ++ [((⟨root, pkg, name, init, stamp, body⟩ : Fil), (.slice xa body.length xc : Value))]), Own w9 (w.heap.size + 1) 66 5 eSt r.2 r.1.body := fun r hr => (HO.out.2.1 r (hin r hr)).keep (fun q hq => (hg9.block q (by have := ((HO.out.2.1 r (hin r hr)).block q hq).2; simp; omega) (fun y => HO.out.2.2.2 r (hin r hr) q hq y.symm)).trans ((gr_al (w2.drewN 1) _).block q ((HO.out.2.1 r (hin r hr)).block q hq).2))
        have hf9 := flR_set (t := w1.heap.size) (o := 0) (b0 := w.heap.size) (o0 := 0) (u1 := .slice va9 (n + 1) vc9) (u0 := .slice va9 (n + 1) vc9) HO9.out hik (fun q hq => by
          rcases hq with hq | ⟨r, hr, hq⟩
          · rcases hat9 with y | y
            · rw [y] at hq; have hq : some b = some q := hq; injection hq with hq; omega
            · rw [y] at hq; injection hq with hq; have := hq; simp at this; omega
          · have := (HOB.out q (Or.inr ⟨r, hin r hr, hq⟩)).2; omega) (by omega)
        exact ⟨_, _, _, rfl, hf9, by simp; omega, fun r hr => (HSM.out r (hin r hr)).t, (hr9.grown (grown_set _ _ _ _) (fun b hb => by injection hb with hb; omega)).grown (grown_set _ _ _ _) (fun b hb => by injection hb with hb; omega), by omega, grown_fresh (grown_fresh gg9 (grown_set _ _ _ _) (by omega)) (grown_set _ _ _ _) (Nat.le_refl _)⟩

    · have q0 : (k == 0) = false := by simp [h0]
      by_cases h1 : k = 1
      · skip
        subst h1
        have HONE := Lib.hid (one_lit g _ [-1, 3] (w2.drewN 1) hr2 (by omega) (by decide) (by decide))
        go_wp2
        refine wp_region_held_drew (S := (fun W => W.cell? ⟨w1.heap.size, 0, none⟩ = some (.slice (some ⟨b, 0, none⟩) n vc))) (by kernel_rfl) x1 (fun hS0 => ?_)
        refine wpAnyH_take (i := 0) (v := ?_) rfl (by kernel_rfl) (by kernel_rfl) (by kernel_rfl) (fun _ _ _ h => h) (Or.inl ⟨by rfl, ?_⟩) hS0 ?_
        rotate_left
        · (intro W hSw; (try dsimp only at hSw); go_simp; try (with_reducible rfl))
        try simp only [Act.put, List.getElem_toArray, List.getElem_cons_succ, List.getElem_cons_zero, List.setIfInBounds_toArray, List.set_cons_zero, List.set_cons_succ]
        refine wpAnyH_take (i := 1) (v := ?_) rfl (by kernel_rfl) (by kernel_rfl) (by kernel_rfl) (fun _ _ _ h => h) (Or.inl ⟨by rfl, ?_⟩) hS0 ?_
        rotate_left
        · (intro W hSw; (try dsimp only at hSw); go_simp; try (with_reducible rfl))
        try simp only [Act.put, List.getElem_toArray, List.getElem_cons_succ, List.getElem_cons_zero, List.setIfInBounds_toArray, List.set_cons_zero, List.set_cons_succ]
        refine wpAnyH_take (i := 2) (v := ?_) rfl (by kernel_rfl) (by kernel_rfl) (by kernel_rfl) (fun _ _ _ h => h) (Or.inl ⟨by rfl, ?_⟩) hS0 ?_
        rotate_left
        · (intro W hSw; (try dsimp only at hSw); go_simp; try (with_reducible rfl))
        try simp only [Act.put, List.getElem_toArray, List.getElem_cons_succ, List.getElem_cons_zero, List.setIfInBounds_toArray, List.set_cons_zero, List.set_cons_succ]
        refine wpAnyH_ready (rs := [3]) (by kernel_rfl) (by simp) ?_
        refine AllReadyH.cons rfl (fun K hK => ?_) (AllReadyH.nil)
        go_simp
        have gA := gr_al (w2.drewN 1) (.cells #[.int .i64 (-1), .int .i64 (3)] 3)
        refine hK.out _ _ (row1 ((gA.block _ hl2).trans HZ1.out)).1 (fun hS1 => ?_)
        clear hK K
        try simp only [Act.put, List.getElem_toArray, List.getElem_cons_succ, List.getElem_cons_zero, List.setIfInBounds_toArray, List.set_cons_zero, List.set_cons_succ]
        refine wpAnyH_ready (rs := [4]) (by kernel_rfl) (by simp) ?_
        refine AllReadyH.cons rfl (fun K hK => ?_) AllReadyH.nil
        go_simp
        refine (HONE.out).mono ?_
        rintro e w3 ⟨q, rfl, _, hr3, hg3⟩
        try go_wp2_with fail
        refine hK.out _ _ (row1 (keep_blk HZ1.out ⟨hg3.os, hg3.tape, hg3.output, hg3.size, hg3.block⟩ (by omega))).1 (fun hS2 => ?_)
        clear hK K
        try simp only [Act.put, List.getElem_toArray, List.getElem_cons_succ, List.getElem_cons_zero, List.setIfInBounds_toArray, List.set_cons_zero, List.set_cons_succ]
        have hg3' : w2.grownBy w3 (some g) := ⟨hg3.os, hg3.tape, hg3.output, hg3.size, hg3.block⟩
        have ho3 := HO.out.keepR hg3' (by omega)
        have gg3 := grown_tr gg2 hg3'
        have hz03 := keep_blk HZ0.out hg3' (by omega)
        obtain ⟨b', c0', ee', hbb', hbl', hcc', hcell', hfr'⟩ := own_rowK (A := []) (K := 6) (enc := eF) (fun _ => rfl) ho3.1
        injection ee' with e1' e2' e3'
        injection e1' with e1'
        injection e1' with e1'
        subst e1'
        have d0 := hcell' 0 _ rfl
        have g0 := hfr' 0
        simp only [List.length_nil, Nat.zero_mul, Nat.zero_add] at d0 g0
        have o1 := OwnN.set (A := []) (j := 0) (u := .int .i64 q) (x' := ((⟨q, pkg, name, init, stamp, body⟩ : Fil), (.slice xa body.length xc : Value))) ho3 (fun _ => rfl) rfl (by decide) rfl rfl rfl
        simp only [List.length_nil, Nat.zero_mul, Nat.zero_add] at o1
        have hz0s := set_other (b' := b) (o := 0) (v := .int .i64 q) hz03 (by omega)
        have HZS := Lib.hid hz0s
        have HO1 := Lib.hid o1
        clear o1 hz0s hz03 ho3 hcell' hfr' hcc' e2' e3'
        refine wpAnyH_take (i := 5) (v := ?_) rfl (by kernel_rfl) (by kernel_rfl) (by kernel_rfl) (fun _ _ _ h => h) (Or.inl ⟨by rfl, ?_⟩) hS2 ?_
        rotate_left
        · (intro W hSw; (try dsimp only at hSw); go_simp; try (with_reducible rfl))
        try simp only [Act.put, List.getElem_toArray, List.getElem_cons_succ, List.getElem_cons_zero, List.setIfInBounds_toArray, List.set_cons_zero, List.set_cons_succ]
        refine wpAnyH_take (i := 6) (v := ?_) rfl (by kernel_rfl) (by kernel_rfl) (by kernel_rfl) (fun _ _ _ h => h) (Or.inl ⟨by rfl, ?_⟩) hS2 ?_
        rotate_left
        · (intro W hSw; (try dsimp only at hSw); go_simp; try (with_reducible rfl))
        try simp only [Act.put, List.getElem_toArray, List.getElem_cons_succ, List.getElem_cons_zero, List.setIfInBounds_toArray, List.set_cons_zero, List.set_cons_succ]
        refine wpAnyH_ready (rs := [7]) (by kernel_rfl) (by simp) ?_
        refine AllReadyH.cons rfl (fun K hK => ?_) (AllReadyH.nil)
        go_simp
        refine hK.out _ _ (by rw [World.cell?_setCell_far _ _ _ _ (by show b ≠ w1.heap.size; omega)]; exact hS2) (fun hS3 => ?_)
        clear hK K
        try simp only [Act.put, List.getElem_toArray, List.getElem_cons_succ, List.getElem_cons_zero, List.setIfInBounds_toArray, List.set_cons_zero, List.set_cons_succ]
        refine wpAnyH_done (by kernel_rfl) ?_ _
        obtain ⟨z0, zf0⟩ := row1 HZS.out
        go_wp2
        refine bodyPost_ret (results_cell_row rfl _ _ w.heap.size 29 _ (0, 0) _ rfl (heap_set1 HZS.out) Tryd.underlying29 rfl (by kernel_rfl)) rfl ?_
        refine ⟨_, ((⟨q, pkg, name, init, stamp, body⟩ : Fil), (.slice xa body.length xc : Value)) :: B, _, rfl, (OwnN.setB (b := w.heap.size) (o := 0) HO1.out (by omega)).flR, by simp only [List.length_cons]; omega, ?_, (hr3.grown (grown_set _ _ _ _) (fun b hb => by injection hb with hb; omega)).grown (grown_set _ _ _ _) (fun b hb => by injection hb with hb; omega), by omega, grown_fresh (grown_fresh gg3 (grown_set _ _ _ _) (by omega)) (grown_set _ _ _ _) (Nat.le_refl _)⟩
        intro r hr
        rw [List.mem_cons] at hr
        rcases hr with rfl | hr
        · exact (HSM.out _ (List.mem_cons_self ..)).t
        · exact (HSM.out r (List.mem_cons_of_mem _ hr)).t
      · have q1 : (k == 1) = false := by simp [h1]
        by_cases h2 : k = 2
        · skip
          subst h2
          have HONE := Lib.hid (one_lit g _ [-1, 100] (w2.drewN 1) hr2 (by omega) (by decide) (by decide))
          go_wp2
          refine wp_region_held_drew (S := (fun W => W.cell? ⟨w1.heap.size, 0, none⟩ = some (.slice (some ⟨b, 0, none⟩) n vc))) (by kernel_rfl) x1 (fun hS0 => ?_)
          refine wpAnyH_take (i := 0) (v := ?_) rfl (by kernel_rfl) (by kernel_rfl) (by kernel_rfl) (fun _ _ _ h => h) (Or.inl ⟨by rfl, ?_⟩) hS0 ?_
          rotate_left
          · (intro W hSw; (try dsimp only at hSw); go_simp; try (with_reducible rfl))
          try simp only [Act.put, List.getElem_toArray, List.getElem_cons_succ, List.getElem_cons_zero, List.setIfInBounds_toArray, List.set_cons_zero, List.set_cons_succ]
          refine wpAnyH_take (i := 1) (v := ?_) rfl (by kernel_rfl) (by kernel_rfl) (by kernel_rfl) (fun _ _ _ h => h) (Or.inl ⟨by rfl, ?_⟩) hS0 ?_
          rotate_left
          · (intro W hSw; (try dsimp only at hSw); go_simp; try (with_reducible rfl))
          try simp only [Act.put, List.getElem_toArray, List.getElem_cons_succ, List.getElem_cons_zero, List.setIfInBounds_toArray, List.set_cons_zero, List.set_cons_succ]
          refine wpAnyH_take (i := 2) (v := ?_) rfl (by kernel_rfl) (by kernel_rfl) (by kernel_rfl) (fun _ _ _ h => h) (Or.inl ⟨by rfl, ?_⟩) hS0 ?_
          rotate_left
          · (intro W hSw; (try dsimp only at hSw); go_simp; try (with_reducible rfl))
          try simp only [Act.put, List.getElem_toArray, List.getElem_cons_succ, List.getElem_cons_zero, List.setIfInBounds_toArray, List.set_cons_zero, List.set_cons_succ]
          refine wpAnyH_ready (rs := [3]) (by kernel_rfl) (by simp) ?_
          refine AllReadyH.cons rfl (fun K hK => ?_) (AllReadyH.nil)
          go_simp
          have gA := gr_al (w2.drewN 1) (.cells #[.int .i64 (-1), .int .i64 (100)] 3)
          refine hK.out _ _ (row1 ((gA.block _ hl2).trans HZ1.out)).1 (fun hS1 => ?_)
          clear hK K
          try simp only [Act.put, List.getElem_toArray, List.getElem_cons_succ, List.getElem_cons_zero, List.setIfInBounds_toArray, List.set_cons_zero, List.set_cons_succ]
          refine wpAnyH_ready (rs := [4]) (by kernel_rfl) (by simp) ?_
          refine AllReadyH.cons rfl (fun K hK => ?_) AllReadyH.nil
          go_simp
          refine (HONE.out).mono ?_
          rintro e w3 ⟨q, rfl, _, hr3, hg3⟩
          try go_wp2_with fail
          refine hK.out _ _ (row1 (keep_blk HZ1.out ⟨hg3.os, hg3.tape, hg3.output, hg3.size, hg3.block⟩ (by omega))).1 (fun hS2 => ?_)
          clear hK K
          try simp only [Act.put, List.getElem_toArray, List.getElem_cons_succ, List.getElem_cons_zero, List.setIfInBounds_toArray, List.set_cons_zero, List.set_cons_succ]
          have hg3' : w2.grownBy w3 (some g) := ⟨hg3.os, hg3.tape, hg3.output, hg3.size, hg3.block⟩
          have ho3 := HO.out.keepR hg3' (by omega)
          have gg3 := grown_tr gg2 hg3'
          have hz03 := keep_blk HZ0.out hg3' (by omega)
          obtain ⟨b', c0', ee', hbb', hbl', hcc', hcell', hfr'⟩ := own_rowK (A := []) (K := 6) (enc := eF) (fun _ => rfl) ho3.1
          injection ee' with e1' e2' e3'
          injection e1' with e1'
          injection e1' with e1'
          subst e1'
          have d0 := hcell' 4 _ rfl
          have g0 := hfr' 4
          simp only [List.length_nil, Nat.zero_mul, Nat.zero_add] at d0 g0
          have o1 := OwnN.set (A := []) (j := 4) (u := .int .i64 q) (x' := ((⟨root, pkg, name, init, q, body⟩ : Fil), (.slice xa body.length xc : Value))) ho3 (fun _ => rfl) rfl (by decide) rfl rfl rfl
          simp only [List.length_nil, Nat.zero_mul, Nat.zero_add] at o1
          have hz0s := set_other (b' := b) (o := 4) (v := .int .i64 q) hz03 (by omega)
          have HZS := Lib.hid hz0s
          have HO1 := Lib.hid o1
          clear o1 hz0s hz03 ho3 hcell' hfr' hcc' e2' e3'
          refine wpAnyH_take (i := 5) (v := ?_) rfl (by kernel_rfl) (by kernel_rfl) (by kernel_rfl) (fun _ _ _ h => h) (Or.inl ⟨by rfl, ?_⟩) hS2 ?_
          rotate_left
          · (intro W hSw; (try dsimp only at hSw); go_simp; try (with_reducible rfl))
          try simp only [Act.put, List.getElem_toArray, List.getElem_cons_succ, List.getElem_cons_zero, List.setIfInBounds_toArray, List.set_cons_zero, List.set_cons_succ]
          refine wpAnyH_take (i := 6) (v := ?_) rfl (by kernel_rfl) (by kernel_rfl) (by kernel_rfl) (fun _ _ _ h => h) (Or.inl ⟨by rfl, ?_⟩) hS2 ?_
          rotate_left
          · (intro W hSw; (try dsimp only at hSw); go_simp; try (with_reducible rfl))
          try simp only [Act.put, List.getElem_toArray, List.getElem_cons_succ, List.getElem_cons_zero, List.setIfInBounds_toArray, List.set_cons_zero, List.set_cons_succ]
          refine wpAnyH_ready (rs := [7]) (by kernel_rfl) (by simp) ?_
          refine AllReadyH.cons rfl (fun K hK => ?_) (AllReadyH.nil)
          go_simp
          refine hK.out _ _ (by rw [World.cell?_setCell_far _ _ _ _ (by show b ≠ w1.heap.size; omega)]; exact hS2) (fun hS3 => ?_)
          clear hK K
          try simp only [Act.put, List.getElem_toArray, List.getElem_cons_succ, List.getElem_cons_zero, List.setIfInBounds_toArray, List.set_cons_zero, List.set_cons_succ]
          refine wpAnyH_done (by kernel_rfl) ?_ _
          obtain ⟨z0, zf0⟩ := row1 HZS.out
          go_wp2
          refine bodyPost_ret (results_cell_row rfl _ _ w.heap.size 29 _ (0, 0) _ rfl (heap_set1 HZS.out) Tryd.underlying29 rfl (by kernel_rfl)) rfl ?_
          refine ⟨_, ((⟨root, pkg, name, init, q, body⟩ : Fil), (.slice xa body.length xc : Value)) :: B, _, rfl, (OwnN.setB (b := w.heap.size) (o := 0) HO1.out (by omega)).flR, by simp only [List.length_cons]; omega, ?_, (hr3.grown (grown_set _ _ _ _) (fun b hb => by injection hb with hb; omega)).grown (grown_set _ _ _ _) (fun b hb => by injection hb with hb; omega), by omega, grown_fresh (grown_fresh gg3 (grown_set _ _ _ _) (by omega)) (grown_set _ _ _ _) (Nat.le_refl _)⟩
          intro r hr
          rw [List.mem_cons] at hr
          rcases hr with rfl | hr
          · exact (HSM.out _ (List.mem_cons_self ..)).t
          · exact (HSM.out r (List.mem_cons_of_mem _ hr)).t
        · have q2 : (k == 2) = false := by simp [h2]
          by_cases h3 : k = 3
          · subst h3
            have hxo2 := HO.out.2.1 _ (List.mem_cons_self ..)
            have HXO := Lib.hid hxo2
            have hxb : ∀ q, (Value.slice xa body.length xc).ownBlock = some q → w.heap.size + 1 ≤ q ∧ q < w1.heap.size ∧ q ≠ b := fun q hq => by
              have h1 := HOB.out q (Or.inr ⟨_, List.mem_cons_self .., hq⟩)
              have h2 := HO.out.2.2.2 _ (List.mem_cons_self ..) q hq
              exact ⟨by omega, h1.2, fun y => h2 (by rw [y]; rfl)⟩
            have HXB := Lib.hid hxb
            have HSRC := Lib.hid (SlR.oneAt (w2.drewN 1) w.heap.size w2.heap.size (⟨9, ByteArray.empty, 0, ByteArray.empty, 0⟩ : Stm) 66 (enc := eSt) (k := 5) rfl (by omega) rfl)
            clear hxo2 hxb
            go_wp2
            go_region_law (refine step_app _ rfl (.tmp 49) (.tmp 51) ti_stmG rfl (by simp [Act.eval, Act.put]) (HXO.out.drewN 1 |>.alloc _) (by simp [Act.eval, Act.put]) HSRC.out (fun _ _ => rfl) (by simp [eSt, Value.oneCell']) (by unfold maxLen; simp; omega) (by simp; omega) (by simp; omega) ?_
                           intro v9 w9 hown9 hg9 hat9
                           obtain ⟨va9, vc9, hv9, _, _⟩ := hown9.form
                           obtain ⟨m9, hm9⟩ : ∃ m9, m9 = (body ++ [(⟨9, ByteArray.empty, 0, ByteArray.empty, 0⟩ : Stm)]).length := ⟨_, rfl⟩
                           rw [← hm9] at hv9
                           subst hv9
                           clear hm9
                           have hoo : Own w9 (w.heap.size + 1) 40 6 eF (.slice (some ⟨b, 0, none⟩) n vc) (((⟨root, pkg, name, init, stamp, body⟩ : Fil), (.slice xa body.length xc : Value)) :: B) := HO.out.1.keep (fun q hq => by
                             have hq : some b = some q := hq
                             injection hq with hq
                             subst hq
                             exact (hg9.block _ (by simp; omega) (fun y => (HXB.out _ y.symm).2.2 rfl)).trans ((gr_al (w2.drewN 1) _).block _ (by show b < w2.heap.size; omega)))
                           obtain ⟨b', c0', ee', hbb', hbl', hcc', hcell', hfr'⟩ := own_rowK (A := []) (K := 6) (enc := eF) (fun _ => rfl) hoo
                           injection ee' with e1' e2' e3'
                           injection e1' with e1'
                           injection e1' with e1'
                           subst e1'
                           have d0 := hcell' 5 _ rfl
                           have g0 := hfr' 5
                           simp only [List.length_nil, Nat.zero_mul, Nat.zero_add] at d0 g0
                           obtain ⟨y1, yf1⟩ := row1 ((hg9.block w1.heap.size (by simp; omega) (fun y => by have := (HXB.out _ y.symm).2.1; omega)).trans (((gr_al (w2.drewN 1) _).block w1.heap.size (by show w1.heap.size < w2.heap.size; omega)).trans HZ1.out))
                           have HOO := Lib.hid hoo
                           have HO9 := Lib.hid hown9
                           clear hoo hcell' hfr' hcc' e2' e3' hown9)
            all_goals
              have hlt9 : ∀ q, (Value.slice va9 m9 vc9).ownBlock = some q → w.heap.size + 1 ≤ q ∧ q ≠ b ∧ q ≠ w1.heap.size := fun q hq => by
                rcases hat9 with y | y
                · rw [y] at hq; have := HXB.out q hq; omega
                · rw [y] at hq; injection hq with hq; have := hq; simp at this; omega
              have hzb := set_other (b' := b) (o := 5) (v := (.slice va9 m9 vc9 : Value)) ((hg9.block w.heap.size (by simp; omega) (fun y => by have := (HXB.out _ y.symm).1; omega)).trans (((gr_al (w2.drewN 1) _).block w.heap.size (by show w.heap.size < w2.heap.size; omega)).trans HZ0.out)) (by omega)
              have hzc := set_other (b' := b) (o := 5) (v := (.slice va9 m9 vc9 : Value)) ((hg9.block w1.heap.size (by simp; omega) (fun y => by have := (HXB.out _ y.symm).2.1; omega)).trans (((gr_al (w2.drewN 1) _).block w1.heap.size (by show w1.heap.size < w2.heap.size; omega)).trans HZ1.out)) (by omega)
              have oo := own_setK (enc := eF) (K := 6) (A := []) (j := 5) (u := (.slice va9 m9 vc9 : Value)) (x' := ((⟨root, pkg, name, init, stamp, body ++ [⟨9, ByteArray.empty, 0, ByteArray.empty, 0⟩]⟩ : Fil), (.slice va9 m9 vc9 : Value))) (fun _ => rfl) HOO.out rfl (by decide) rfl
              simp only [List.length_nil, Nat.zero_mul, Nat.zero_add, List.nil_append] at oo
              have hpw := HO.out.2.2.1
              unfold ApartN at hpw
              rw [List.pairwise_cons] at hpw
              have hin9 : ∀ r ∈ (((⟨root, pkg, name, init, stamp, body ++ [⟨9, ByteArray.empty, 0, ByteArray.empty, 0⟩]⟩ : Fil), (.slice va9 m9 vc9 : Value)) :: B), Own (w9.setCell ⟨b, 5, none⟩ (.slice va9 m9 vc9 : Value)) (w.heap.size + 1) 66 5 eSt r.2 r.1.body := fun r hr => by
                rw [List.mem_cons] at hr
                rcases hr with rfl | hr
                · exact HO9.out.keep (fun q hq => Below.heap_setCell _ _ _ q (hlt9 q hq).2.1)
                · have h1 := HO.out.2.1 r (List.mem_cons_of_mem _ hr)
                  refine (h1.keep (w' := w9) (fun q hq => (hg9.block q (by have := (h1.block q hq).2; simp; omega) (fun y => hpw.1 r hr q y.symm hq)).trans ((gr_al (w2.drewN 1) _).block q (h1.block q hq).2))).keep (fun q hq => Below.heap_setCell _ _ _ q (fun y => HO.out.2.2.2 r (List.mem_cons_of_mem _ hr) q hq (by rw [y]; rfl)))
              have gg9 : w.grownBy w9 (some g) := grown_fresh2 (grown_tr gg2 (grown_al w2 _ _)) ⟨hg9.os, hg9.tape, hg9.output, hg9.size, hg9.block⟩ (fun q hq => by have := (HXB.out q hq).1; omega)
              have hr9 : Rdr w9 g _ := (hr2.al _).grown ⟨hg9.os, hg9.tape, hg9.output, hg9.size, hg9.block⟩ (fun q hq => by have := (HXB.out q hq).1; omega)
              obtain ⟨z0, zf0⟩ := row1 hzb
              obtain ⟨z1, zf1⟩ := row1 hzc
              have HZB := Lib.hid hzb
              have HF9 := Lib.hid (FlR.mono' (lo' := w.heap.size + 1) (FlR.setB (b := w.heap.size) (o := 0) (u := .slice (some ⟨b, 0, none⟩) n vc) (flR_of (tF := 40) (tS := 66) oo hin9) (by omega)) (Nat.le_refl _) (hi' := ((w9.setCell ⟨b, 5, none⟩ (.slice va9 m9 vc9 : Value)).setCell ⟨w.heap.size, 0, none⟩ (.slice (some ⟨b, 0, none⟩) n vc)).heap.size) (by simp [World.setCell]))
              clear hzb hzc oo hin9
              go_wp2
              refine bodyPost_ret (results_cell_row rfl _ _ w.heap.size 29 _ (0, 0) _ rfl (heap_set1 HZB.out) Tryd.underlying29 rfl (by kernel_rfl)) rfl ?_
              refine ⟨_, ((⟨root, pkg, name, init, stamp, body ++ [⟨9, ByteArray.empty, 0, ByteArray.empty, 0⟩]⟩ : Fil), (.slice va9 m9 vc9 : Value)) :: B, _, rfl, HF9.out, by simp only [List.length_cons]; omega, ?_, (hr9.grown (grown_set _ _ _ _) (fun b hb => by injection hb with hb; omega)).grown (grown_set _ _ _ _) (fun b hb => by injection hb with hb; omega), by omega, grown_fresh (grown_fresh gg9 (grown_set _ _ _ _) (by omega)) (grown_set _ _ _ _) (Nat.le_refl _)⟩
              intro r hr
              rw [List.mem_cons] at hr
              rcases hr with rfl | hr
              · obtain ⟨y1, y2, y3, y4⟩ := HSM.out _ (List.mem_cons_self ..)
                refine ⟨by simp only [List.length_append, List.length_cons, List.length_nil]; omega, fun s hs => ?_, y3, y4⟩
                rw [List.mem_append, List.mem_singleton] at hs
                rcases hs with hs | rfl
                · exact ⟨(y2 s hs).1, (y2 s hs).2.1⟩
                · exact ⟨by decide, by decide⟩
              · exact (HSM.out r (List.mem_cons_of_mem _ hr)).t
          · have q3 : (k == 3) = false := by simp [h3]
            clear h0 h1 h2 h3
            go_wp2
            refine bodyPost_ret (results_cell_row rfl _ _ w.heap.size 29 _ (0, 0) _ rfl (heap_set1 HZ0.out) Tryd.underlying29 rfl (by kernel_rfl)) rfl ?_
            exact ⟨_, _, _, rfl, (OwnN.setB (b := w.heap.size) (o := 0) HO.out (by omega)).flR, by simp only [List.length_cons]; omega, fun r hr => (HSM.out r hr).t, hr2.grown (grown_set _ _ _ _) (fun b hb => by injection hb with hb; omega), by omega, grown_fresh gg2 (grown_set _ _ _ _) (Nat.le_refl _)⟩
end Go.Proofs.YthjegibkbpafeaaDoor
