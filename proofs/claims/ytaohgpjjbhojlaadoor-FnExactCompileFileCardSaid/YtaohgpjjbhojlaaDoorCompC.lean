/-
  Walks: marks in compiled files; the law on compiled files.
-/
import Derived.Test.YtaohgpjjbhojlaaDoorCompB
import Derived.Test.YtaohgpjjbhojlaaDoorMarkB
namespace Go.Proofs.YtaohgpjjbhojlaaDoor
open Go Go.RowKit Imp
set_option linter.unusedVariables false
set_option linter.unusedSimpArgs false
theorem markFile_any {base : Nat} (f : Fil) (u : Value) (w : World) (k0 : Nat) (ho : Own w base 54 5 eSt u f.body) (h0 : 1 ≤ k0) (hk : k0 + 5 * f.body.length ≤ 42949670) :
    Calls Tryd.prog 10 #[vF (f, u), .int .i64 k0] w fun e w' => e = .returned (.int .i64 ((k0 + 5 * f.body.length : Nat) : Int)) ∧ Own w' base 54 5 eSt u (marksB k0 f.body.length) ∧ w.grownBy w' u.ownBlock := by
  have h := fun o => markStmtS_any u f.body (w.alloc o) k0 (ho.alloc o) h0 hk
  obtain ⟨R, hR⟩ : ∃ R : Nat, R = k0 + 5 * f.body.length := ⟨_, rfl⟩
  rw [← hR] at h ⊢
  have H := Lib.hid h
  obtain ⟨ua, uc, rfl, _, _⟩ := ho.form
  clear h hR ho
  go_enter Tryd.func10, Tryd.ntmps10
  go_wp2_with fail
  refine (H.out _).mono ?_
  rintro e w2 ⟨rfl, ho2, hb2⟩
  go_wp2
  go_ret
  exact ⟨rfl, ho2, grown_tr (grown_gr (gr_al _ _)) hb2⟩
theorem markCompiled_any {base : Nat} (c : Cmp) (u : Value) (w : World) (k0 : Nat) (ho : Own w base 54 5 eSt u c.body) (h0 : 1 ≤ k0) (hk : k0 + 5 * c.body.length ≤ 42949670) :
    Calls Tryd.prog 11 #[vCm c u, .int .i64 k0] w fun e w' => e = .returned (.int .i64 ((k0 + 5 * c.body.length : Nat) : Int)) ∧ Own w' base 54 5 eSt u (marksB k0 c.body.length) ∧ w.grownBy w' u.ownBlock := by
  have h := fun o => markStmtS_any u c.body (w.alloc o) k0 (ho.alloc o) h0 hk
  obtain ⟨R, hR⟩ : ∃ R : Nat, R = k0 + 5 * c.body.length := ⟨_, rfl⟩
  rw [← hR] at h ⊢
  have H := Lib.hid h
  obtain ⟨ua, uc, rfl, _, _⟩ := ho.form
  clear h hR ho
  go_enter Tryd.func11, Tryd.ntmps11
  go_wp2_with fail
  refine (H.out _).mono ?_
  rintro e w2 ⟨rfl, ho2, hb2⟩
  go_wp2
  go_ret
  exact ⟨rfl, ho2, grown_tr (grown_gr (gr_al _ _)) hb2⟩
theorem heldCompiled_any {lo hi : Nat} (c : Cmp) (u : Value) (w : World) (k0 n : Nat) (hv : SlR w lo hi 5 eSt u (marksB k0 n)) (hhi : hi ≤ w.heap.size) (h0 : 1 ≤ k0) (hk : k0 + 5 * n ≤ 42949670) :
    Calls Tryd.prog 12 #[vCm c u, .int .i64 k0] w fun e w' => e = .returned (.int .i64 ((k0 + 5 * n : Nat) : Int)) ∧ Gr w w' := by
  have h := fun o => heldStmtS_any u (w.alloc o) k0 n (SlR.below hv (gr_al w o) hhi) (by simp; omega) h0 hk
  obtain ⟨R, hR⟩ : ∃ R : Nat, R = k0 + 5 * n := ⟨_, rfl⟩
  rw [← hR] at h ⊢
  have H := Lib.hid h
  obtain ⟨ua, uc, rfl, _, _⟩ := hv.form
  have hneg : ¬ (R : Int) < 0 := by omega
  clear h hR hv
  go_enter Tryd.func12, Tryd.ntmps12
  go_wp2_with fail
  refine (H.out _).mono ?_
  rintro e w2 ⟨rfl, hb2⟩
  go_wp2
  go_ret
  exact ⟨rfl, (gr_al _ _).tr hb2⟩
set_option maxHeartbeats 3200000 in
theorem walk_FnExactCompileFile (w : World) (hok : OkW w) (v : Value) (r : FR) (hL : v = vF r ∧ okF r.1 ∧ BodyR w 0 w.heap.size r) (mode : Int) (hmode : -9223372036854775808 ≤ mode ∧ mode ≤ 9223372036854775807) :
    Calls Tryd.prog 3 #[v, .int .i64 mode] w fun e w' => e = .returned (.bool true) ∧ Below w.heap.size w w' := by
  obtain ⟨rfl, hsz, hb⟩ := hL
  obtain ⟨f, bv⟩ := r
  have hA := heap_alloc_new w (.cells #[.int .i64 f.root, .string f.pkg, .string f.name, .bool f.init, .int .i64 f.stamp, bv] 24)
  have hgA := gr_al w (.cells #[.int .i64 f.root, .string f.pkg, .string f.name, .bool f.init, .int .i64 f.stamp, bv] 24)
  have hbW := fun W (h : Gr w W) => SlR.below hb h (Nat.le_refl _)
  have HB := Lib.hid hbW
  have HA := Lib.hid hA
  clear hb hbW hA
  go_enter Tryd.func3, Tryd.ntmps3
  go_wp2_with fail
  refine (szFile_any (f, bv) _ _ (HB.out _ hgA) (by simp) hsz (by omega) (by omega)).mono ?_
  rintro e w1 ⟨q, rfl, hq, hql, hB1⟩
  have hg1 := Gr.tr hgA hB1
  by_cases h0 : q < 0
  · go_wp2
    go_ret
    exact ⟨rfl, hg1⟩
  · have htot := hq (by omega)
    unfold szF at htot
    simp only at htot
    have hlen : f.body.length ≤ 1048576 := by omega
    have hp : f.pkg.size ≤ 4194304 := by omega
    have hn : f.name.size ≤ 4194304 := by omega
    have h1 := fun u lo hi W k h h' => sCompileFile_any (lo := lo) (hi := hi) f u mode W k h h' hp hn (by omega) (by omega)
    have h2 := fun u lo hi W k h h' => iCompileFile_any (lo := lo) (hi := hi) f u mode W k h h' hp hn (by omega) (by omega)
    have h3 := fun W (h : Gr w W) => toFile_own (f, bv) W (HB.out _ h) h.size hlen
    have hCl := Nat.le_trans (fCompile_len f mode) hlen
    obtain ⟨C, hC⟩ : ∃ C, C = fCompile f mode := ⟨_, rfl⟩
    rw [← hC] at h1 h2 hCl
    unfold DComp at h1 h2
    try simp only at h3
    have H1 := Lib.hid h1
    have H2 := Lib.hid h2
    have H3 := Lib.hid h3
    have hargs : ∀ W, Gr (w.alloc (.cells #[.int .i64 f.root, .string f.pkg, .string f.name, .bool f.init, .int .i64 f.stamp, bv] 24)) W → W.cell? ⟨w.heap.size, 0, none⟩ = some (.int .i64 f.root) ∧ W.cell? ⟨w.heap.size, 1, none⟩ = some (.string f.pkg) ∧ W.cell? ⟨w.heap.size, 2, none⟩ = some (.string f.name) ∧ W.cell? ⟨w.heap.size, 3, none⟩ = some (.bool f.init) ∧ W.cell? ⟨w.heap.size, 4, none⟩ = some (.int .i64 f.stamp) ∧ W.cell? ⟨w.heap.size, 5, none⟩ = some bv :=
      fun W h => cells6 HA.out h
    have HARG := Lib.hid hargs
    clear hq hql htot hC h1 h2 h3 hsz hargs
    obtain ⟨c0, c1, c2, c3, c4, c5⟩ := HARG.out _ hB1
    -- the reference's
    go_wp2_with fail
    refine (H3.out _ hg1).mono ?_
    rintro e w2 ⟨u2, rfl, ho2, g2⟩
    have hB2 := hB1.tr g2
    obtain ⟨a2, k2, e2, _, _⟩ := ho2.form
    subst e2
    go_wp2_with fail
    refine (H1.out _ _ _ _ (hok.gr (hgA.tr hB2)) (ho2.reads (fun _ _ => rfl)) (Nat.le_refl _)).mono ?_
    rintro e w3 ⟨uw, rfl, hoW, g3⟩
    have hB3 := hB2.tr g3
    obtain ⟨aw, kw, ew, _, _⟩ := hoW.form
    subst ew
    clear c0 c1 c2 c3 c4 c5
    have hrowW := heap_alloc_new w3 (.cells #[.int .i64 C.root, .string C.mod, .bool C.init, .int .i64 C.mode, .int .i64 C.stamp, .int .i64 C.size, .int .i64 C.hash, .slice aw C.body.length kw] 28)
    have hgW := gr_al w3 (.cells #[.int .i64 C.root, .string C.mod, .bool C.init, .int .i64 C.mode, .int .i64 C.stamp, .int .i64 C.size, .int .i64 C.hash, .slice aw C.body.length kw] 28)
    have hB3a := hB3.tr hgW
    have hwf : ∀ W, Gr (w3.alloc (.cells #[.int .i64 C.root, .string C.mod, .bool C.init, .int .i64 C.mode, .int .i64 C.stamp, .int .i64 C.size, .int .i64 C.hash, .slice aw C.body.length kw] 28)) W → SlR W w2.heap.size w3.heap.size 5 eSt (.slice aw C.body.length kw) C.body ∧ (W.cell? ⟨w3.heap.size, 0, none⟩ = some (.int .i64 C.root) ∧ W.cell? ⟨w3.heap.size, 1, none⟩ = some (.string C.mod) ∧ W.cell? ⟨w3.heap.size, 2, none⟩ = some (.bool C.init) ∧ W.cell? ⟨w3.heap.size, 3, none⟩ = some (.int .i64 C.mode) ∧ W.cell? ⟨w3.heap.size, 4, none⟩ = some (.int .i64 C.stamp) ∧ W.cell? ⟨w3.heap.size, 5, none⟩ = some (.int .i64 C.size) ∧ W.cell? ⟨w3.heap.size, 6, none⟩ = some (.int .i64 C.hash) ∧ W.cell? ⟨w3.heap.size, 7, none⟩ = some (.slice aw C.body.length kw)) :=
      fun W h => ⟨SlR.below (hoW.reads (fun _ _ => rfl)) (hgW.tr h) (Nat.le_refl _), (rows8 ((h.block w3.heap.size (by simp)).trans hrowW)).1⟩
    have HW := Lib.hid hwf
    clear hwf hrowW
    obtain ⟨c0, c1, c2, c3, c4, c5⟩ := HARG.out _ hB3a
    -- the argument
    go_wp2_with fail
    refine (H3.out _ (hgA.tr hB3a)).mono ?_
    rintro e w4 ⟨u4, rfl, ho4, g4⟩
    have hB4 := hB3a.tr g4
    obtain ⟨a4, k4, e4, _, _⟩ := ho4.form
    subst e4
    clear c0 c1 c2 c3 c4 c5
    have hrowX := heap_alloc_new w4 (.cells #[.int .i64 f.root, .string f.pkg, .string f.name, .bool f.init, .int .i64 f.stamp, (.slice a4 f.body.length k4)] 31)
    have hgX := gr_al w4 (.cells #[.int .i64 f.root, .string f.pkg, .string f.name, .bool f.init, .int .i64 f.stamp, (.slice a4 f.body.length k4)] 31)
    have hB4a := hB4.tr hgX
    have ho4a := ho4.alloc (.cells #[.int .i64 f.root, .string f.pkg, .string f.name, .bool f.init, .int .i64 f.stamp, (.slice a4 f.body.length k4)] 31)
    have hxf : ∀ W, Gr (w4.alloc (.cells #[.int .i64 f.root, .string f.pkg, .string f.name, .bool f.init, .int .i64 f.stamp, (.slice a4 f.body.length k4)] 31)) W → Own W ((w3.alloc (.cells #[.int .i64 C.root, .string C.mod, .bool C.init, .int .i64 C.mode, .int .i64 C.stamp, .int .i64 C.size, .int .i64 C.hash, .slice aw C.body.length kw] 28)).heap.size + 3) 54 5 eSt (.slice a4 f.body.length k4) f.body ∧ (W.cell? ⟨w4.heap.size, 0, none⟩ = some (.int .i64 f.root) ∧ W.cell? ⟨w4.heap.size, 1, none⟩ = some (.string f.pkg) ∧ W.cell? ⟨w4.heap.size, 2, none⟩ = some (.string f.name) ∧ W.cell? ⟨w4.heap.size, 3, none⟩ = some (.bool f.init) ∧ W.cell? ⟨w4.heap.size, 4, none⟩ = some (.int .i64 f.stamp) ∧ W.cell? ⟨w4.heap.size, 5, none⟩ = some (.slice a4 f.body.length k4)) :=
      fun W h => ⟨ho4a.keep (fun b hb => h.block b (ho4a.block b hb).2), cells6 hrowX h⟩
    have HX := Lib.hid hxf
    clear hxf hrowX
    -- the program's
    go_wp2_with fail
    refine (H2.out _ _ _ _ (hok.gr (hgA.tr hB4a)) (ho4a.reads (fun _ _ => rfl)) (Nat.le_refl _)).mono ?_
    rintro e w5 ⟨ug, rfl, hoG, g5⟩
    have hB5 := hB4a.tr g5
    obtain ⟨ag, kg, eg, _, _⟩ := hoG.form
    subst eg
    have hrowG := heap_alloc_new w5 (.cells #[.int .i64 C.root, .string C.mod, .bool C.init, .int .i64 C.mode, .int .i64 C.stamp, .int .i64 C.size, .int .i64 C.hash, .slice ag C.body.length kg] 28)
    have hgG := gr_al w5 (.cells #[.int .i64 C.root, .string C.mod, .bool C.init, .int .i64 C.mode, .int .i64 C.stamp, .int .i64 C.size, .int .i64 C.hash, .slice ag C.body.length kg] 28)
    have hB5a := hB5.tr hgG
    have hoGa := hoG.alloc (.cells #[.int .i64 C.root, .string C.mod, .bool C.init, .int .i64 C.mode, .int .i64 C.stamp, .int .i64 C.size, .int .i64 C.hash, .slice ag C.body.length kg] 28)
    have g35 := ((g4.tr hgX).tr g5).tr hgG
    obtain ⟨rW, d0, d1, d2, d3, d4, d5, d6, d7⟩ := HW.out _ g35
    go_wp2_with fail
    refine (eqCompiled_any C (.slice ag C.body.length kg) (.slice aw C.body.length kw) _ (hoGa.reads (fun _ _ => rfl)) rW (Nat.le_refl _) (Nat.le_trans (Nat.le_trans (Nat.le_succ _) (by simp)) g35.size)).mono ?_
    rintro e w6 ⟨rfl, g6⟩
    have hB6 := hB5a.tr g6
    have hgx6 := ((g5.tr hgG).tr g6)
    clear d0 d1 d2 d3 d4 d5 d6 d7
    have hall : ∀ W, Gr w6 W → Gr w6 W ∧ (W.cell? ⟨w.heap.size, 0, none⟩ = some (.int .i64 f.root) ∧ W.cell? ⟨w.heap.size, 1, none⟩ = some (.string f.pkg) ∧ W.cell? ⟨w.heap.size, 2, none⟩ = some (.string f.name) ∧ W.cell? ⟨w.heap.size, 3, none⟩ = some (.bool f.init) ∧ W.cell? ⟨w.heap.size, 4, none⟩ = some (.int .i64 f.stamp) ∧ W.cell? ⟨w.heap.size, 5, none⟩ = some bv) ∧
        (W.cell? ⟨w4.heap.size, 0, none⟩ = some (.int .i64 f.root) ∧ W.cell? ⟨w4.heap.size, 1, none⟩ = some (.string f.pkg) ∧ W.cell? ⟨w4.heap.size, 2, none⟩ = some (.string f.name) ∧ W.cell? ⟨w4.heap.size, 3, none⟩ = some (.bool f.init) ∧ W.cell? ⟨w4.heap.size, 4, none⟩ = some (.int .i64 f.stamp) ∧ W.cell? ⟨w4.heap.size, 5, none⟩ = some (.slice a4 f.body.length k4)) :=
      fun W h => ⟨h, HARG.out _ (hB6.tr h), (HX.out _ (hgx6.tr h)).2⟩
    have HALL := Lib.hid hall
    clear hall
    go_wp2
    refine wp_region_held_drew (S := (fun W => Gr w6 W ∧ (W.cell? ⟨w.heap.size, 0, none⟩ = some (.int .i64 f.root) ∧ W.cell? ⟨w.heap.size, 1, none⟩ = some (.string f.pkg) ∧ W.cell? ⟨w.heap.size, 2, none⟩ = some (.string f.name) ∧ W.cell? ⟨w.heap.size, 3, none⟩ = some (.bool f.init) ∧ W.cell? ⟨w.heap.size, 4, none⟩ = some (.int .i64 f.stamp) ∧ W.cell? ⟨w.heap.size, 5, none⟩ = some bv) ∧ (W.cell? ⟨w4.heap.size, 0, none⟩ = some (.int .i64 f.root) ∧ W.cell? ⟨w4.heap.size, 1, none⟩ = some (.string f.pkg) ∧ W.cell? ⟨w4.heap.size, 2, none⟩ = some (.string f.name) ∧ W.cell? ⟨w4.heap.size, 3, none⟩ = some (.bool f.init) ∧ W.cell? ⟨w4.heap.size, 4, none⟩ = some (.int .i64 f.stamp) ∧ W.cell? ⟨w4.heap.size, 5, none⟩ = some (.slice a4 f.body.length k4)))) (by kernel_rfl) (HALL.out _ (below_drewN (Gr.rfl' w6) 1)) (fun hS0 => ?_)
    refine wpAnyH_take (i := 0) (v := ?_) rfl (by kernel_rfl) (by kernel_rfl) (by kernel_rfl) (fun _ _ _ h => h) (Or.inl ⟨by rfl, ?_⟩) hS0 ?_
    rotate_left
    · (intro W hSw; (try dsimp only at hSw); go_simp; try (with_reducible rfl))
    try simp only [Act.put, List.getElem_toArray, List.getElem_cons_succ, List.getElem_cons_zero, List.setIfInBounds_toArray, List.set_cons_zero, List.set_cons_succ]
    refine wpAnyH_take (i := 1) (v := ?_) rfl (by kernel_rfl) (by kernel_rfl) (by kernel_rfl) (fun _ _ _ h => h) (Or.inl ⟨by rfl, ?_⟩) hS0 ?_
    rotate_left
    · (intro W hSw; (try dsimp only at hSw); go_simp; try (with_reducible rfl))
    try simp only [Act.put, List.getElem_toArray, List.getElem_cons_succ, List.getElem_cons_zero, List.setIfInBounds_toArray, List.set_cons_zero, List.set_cons_succ]
    refine wpAnyH_ready (rs := [2]) (by kernel_rfl) (by simp) ?_
    refine AllReadyH.cons rfl (fun K hK => ?_) AllReadyH.nil
    go_simp
    refine (H3.out _ ((hgA.tr hB6).tr hS0.1)).mono ?_
    rintro e w7 ⟨u7, rfl, ho7, hb7⟩
    try go_wp2_with fail
    refine hK.out _ _ (HALL.out _ (hS0.1.tr hb7)) (fun hS1 => ?_)
    clear hK K
    try simp only [Act.put, List.getElem_toArray, List.getElem_cons_succ, List.getElem_cons_zero, List.setIfInBounds_toArray, List.set_cons_zero, List.set_cons_succ]
    refine wpAnyH_ready (rs := [3]) (by kernel_rfl) (by simp) ?_
    refine AllReadyH.cons rfl (fun K hK => ?_) AllReadyH.nil
    go_simp
    refine (eqFile_any f (.slice a4 f.body.length k4) u7 _ ((HX.out _ (hgx6.tr hS1.1)).1.reads (fun _ _ => rfl)) (ho7.reads (fun _ _ => rfl)) (Nat.le_refl _) (Nat.le_refl _)).mono ?_
    rintro e w8 ⟨rfl, hb8⟩
    try go_wp2_with fail
    refine hK.out _ _ (HALL.out _ (hS1.1.tr hb8)) (fun hS2 => ?_)
    clear hK K
    try simp only [Act.put, List.getElem_toArray, List.getElem_cons_succ, List.getElem_cons_zero, List.setIfInBounds_toArray, List.set_cons_zero, List.set_cons_succ]
    refine wpAnyH_take (i := 4) (v := ?_) rfl (by kernel_rfl) (by kernel_rfl) (by kernel_rfl) (fun _ _ _ h => h) (Or.inl ⟨by rfl, ?_⟩) hS2 ?_
    rotate_left
    · (intro W hSw; (try dsimp only at hSw); go_simp; try (with_reducible rfl))
    try simp only [Act.put, List.getElem_toArray, List.getElem_cons_succ, List.getElem_cons_zero, List.setIfInBounds_toArray, List.set_cons_zero, List.set_cons_succ]
    refine wpAnyH_done (by kernel_rfl) ?_ _
    have g68 := hS2.1
    have gx8 := hgx6.tr g68
    obtain ⟨oX, x0, x1, x2, x3, x4, x5⟩ := HX.out _ gx8
    have oG := hoGa.keep (fun b hb => (g6.tr g68).block b (hoGa.block b hb).2)
    have rowG := ((g6.tr g68).block w5.heap.size (by simp)).trans hrowG
    obtain ⟨N1, hN1⟩ : ∃ N : Nat, N = 1 + 5 * f.body.length := ⟨_, rfl⟩
    have hmk := fun W ho => markFile_any (base := (w3.alloc (.cells #[.int .i64 C.root, .string C.mod, .bool C.init, .int .i64 C.mode, .int .i64 C.stamp, .int .i64 C.size, .int .i64 C.hash, .slice aw C.body.length kw] 28)).heap.size + 3) f (.slice a4 f.body.length k4) W 1 ho (by omega) (by omega)
    rw [← hN1] at hmk
    obtain ⟨N2, hN2⟩ : ∃ N : Nat, N = 1 + 5 * C.body.length := ⟨_, rfl⟩
    have hmc := fun W ho => markCompiled_any (base := (w4.alloc (.cells #[.int .i64 f.root, .string f.pkg, .string f.name, .bool f.init, .int .i64 f.stamp, (.slice a4 f.body.length k4)] 31)).heap.size) C (.slice ag C.body.length kg) W 1 ho (by omega) (by omega)
    have hhc := fun lo hi W hv hhi => heldCompiled_any (lo := lo) (hi := hi) C (.slice ag C.body.length kg) W 1 C.body.length hv hhi (by omega) (by omega)
    rw [← hN2] at hmc hhc
    have HMK := Lib.hid hmk
    have HMC := Lib.hid hmc
    have HHC := Lib.hid hhc
    have hn1 : ¬ (N1 : Int) < 0 := by omega
    have hn2 : ¬ (N2 : Int) < 0 := by omega
    have hn3 : ((N2 : Int) != (N2 : Int)) = false := by simp
    have bX := fun b hb => (ho4.block b hb)
    have bG := fun b hb => (hoG.block b hb)
    clear hmk hmc hhc hN1 hN2 hrowG
    go_wp2_with fail
    refine (HMK.out _ oX).mono ?_
    rintro e w9 ⟨rfl, oX9, gm9⟩
    -- behind the marks in the argument
    have s9 := gm9.size
    have g39 : Gr (w3.alloc (.cells #[.int .i64 C.root, .string C.mod, .bool C.init, .int .i64 C.mode, .int .i64 C.stamp, .int .i64 C.size, .int .i64 C.hash, .slice aw C.body.length kw] 28)) w9 := ((g35.tr g6).tr g68).grown gm9 ((g35.tr g6).tr g68).size (fun b hb => by have := (bX b hb).1; omega)
    have hB9 : Gr _ w9 := (hB6.tr g68).grown gm9 (hB6.tr g68).size (fun b hb => by have := (bX b hb).1; have := hB3a.size; omega)
    have oG9 := oG.keep (fun b hb => gm9.block b (oG.block b hb).2 (by intro q; have h1 := (bX b q.symm).2; have h2 := (bG b hb).1; simp at h2; omega))
    have hiG : w5.heap.size < w9.heap.size := Nat.lt_of_lt_of_le (Nat.lt_of_lt_of_le (by simp) (g6.tr g68).size) s9
    have rowG9 := (gm9.block w5.heap.size (Nat.lt_of_lt_of_le (by simp) (g6.tr g68).size) (by intro q; have h1 := (bX _ q.symm).2; have h2 := g5.size; simp at h2; omega)).trans rowG
    obtain ⟨rW9, d0, d1, d2, d3, d4, d5, d6, d7⟩ := HW.out _ g39
    obtain ⟨⟨y0, y1, y2, y3, y4, y5, y6, y7⟩, _⟩ := rows8 rowG9
    clear x0 x1 x2 x3 x4 x5
    go_wp2_with fail
    refine (eqCompiled_any C (.slice ag C.body.length kg) (.slice aw C.body.length kw) _ (oG9.reads (fun _ _ => rfl)) rW9 (Nat.le_refl _) (Nat.le_trans (by simp) g39.size)).mono ?_
    rintro e w10 ⟨rfl, g10⟩
    clear d0 d1 d2 d3 d4 d5 d6 d7 y0 y1 y2 y3 y4 y5 y6 y7
    have rowG10 := (g10.block w5.heap.size hiG).trans rowG9
    have oG10 := oG9.keep (fun b hb => g10.block b (oG9.block b hb).2)
    obtain ⟨⟨y0, y1, y2, y3, y4, y5, y6, y7⟩, _⟩ := rows8 rowG10
    go_wp2_with fail
    refine (HMC.out _ oG10).mono ?_
    rintro e w11 ⟨rfl, oG11, gm11⟩
    clear y0 y1 y2 y3 y4 y5 y6 y7
    have g311 : Gr (w3.alloc (.cells #[.int .i64 C.root, .string C.mod, .bool C.init, .int .i64 C.mode, .int .i64 C.stamp, .int .i64 C.size, .int .i64 C.hash, .slice aw C.body.length kw] 28)) w11 := (g39.tr g10).grown gm11 (g39.tr g10).size (fun b hb => by have h1 := (bG b hb).1; have h2 := g4.size; simp at h1 h2 ⊢; omega)
    have hB11 : Gr _ w11 := (hB9.tr g10).grown gm11 (hB9.tr g10).size (fun b hb => by have h1 := (bG b hb).1; have h2 := hB4a.size; omega)
    have rowG11 := (gm11.block w5.heap.size (Nat.lt_of_lt_of_le hiG g10.size) (by intro q; have := (bG _ q.symm).2; omega)).trans rowG10
    have hiG11 : w5.heap.size < w11.heap.size := Nat.lt_of_lt_of_le hiG (Nat.le_trans g10.size gm11.size)
    obtain ⟨⟨y0, y1, y2, y3, y4, y5, y6, y7⟩, _⟩ := rows8 rowG11
    go_wp2_with fail
    refine (HHC.out _ _ _ (oG11.reads (fun _ _ => rfl)) (Nat.le_refl _)).mono ?_
    rintro e w12 ⟨rfl, g12⟩
    clear y0 y1 y2 y3 y4 y5 y6 y7
    have hB12 := hB11.tr g12
    obtain ⟨c0, c1, c2, c3, c4, c5⟩ := HARG.out _ hB12
    go_wp2_with fail
    refine (H3.out _ (hgA.tr hB12)).mono ?_
    rintro e w13 ⟨u13, rfl, ho13, g13⟩
    have hB13 := hB12.tr g13
    obtain ⟨a13, k13, e13, _, _⟩ := ho13.form
    subst e13
    clear c0 c1 c2 c3 c4 c5
    go_wp2_with fail
    refine (H2.out _ _ _ _ (hok.gr (hgA.tr hB13)) (ho13.reads (fun _ _ => rfl)) (Nat.le_refl _)).mono ?_
    rintro e w14 ⟨u14, rfl, ho14, g14⟩
    have hB14 := hB13.tr g14
    obtain ⟨a14, k14, e14, _, _⟩ := ho14.form
    subst e14
    have g1214 := ((g12.tr g13).tr g14).tr (gr_al w14 (.cells #[.int .i64 C.root, .string C.mod, .bool C.init, .int .i64 C.mode, .int .i64 C.stamp, .int .i64 C.size, .int .i64 C.hash, .slice a14 C.body.length k14] 28))
    have ho14a := ho14.alloc (.cells #[.int .i64 C.root, .string C.mod, .bool C.init, .int .i64 C.mode, .int .i64 C.stamp, .int .i64 C.size, .int .i64 C.hash, .slice a14 C.body.length k14] 28)
    obtain ⟨rW14, d0, d1, d2, d3, d4, d5, d6, d7⟩ := HW.out _ (g311.tr g1214)
    go_wp2_with fail
    refine (eqCompiled_any C (.slice a14 C.body.length k14) (.slice aw C.body.length kw) _ (ho14a.reads (fun _ _ => rfl)) rW14 (Nat.le_refl _) (Nat.le_trans (by simp) (g311.tr g1214).size)).mono ?_
    rintro e w15 ⟨rfl, g15⟩
    clear d0 d1 d2 d3 d4 d5 d6 d7
    have g1115 := g1214.tr g15
    have rowG15 := (g1115.block w5.heap.size hiG11).trans rowG11
    have oG15 := oG11.keep (fun b hb => g1115.block b (oG11.block b hb).2)
    obtain ⟨⟨y0, y1, y2, y3, y4, y5, y6, y7⟩, _⟩ := rows8 rowG15
    go_wp2_with fail
    refine (HHC.out _ _ _ (oG15.reads (fun _ _ => rfl)) (Nat.le_refl _)).mono ?_
    rintro e w16 ⟨rfl, g16⟩
    go_wp2
    go_ret
    exact ⟨rfl, (hgA.tr (hB11.tr g1115)).tr g16⟩
end Go.Proofs.YtaohgpjjbhojlaaDoor
