/-
  Walk of the law on finders that forget all. Printed by dirsl.py.
-/
import Derived.Test.YteccopgnlbphbaaDoorDirsM
namespace Imp
open Go Go.RowKit
/-- Four blocks, whole. -/
def Four (W : World) (b1 b2 b3 b4 : Nat) (o1 o2 o3 o4 : Obj) : Prop := W.heap[b1]? = some o1 ∧ W.heap[b2]? = some o2 ∧ W.heap[b3]? = some o3 ∧ W.heap[b4]? = some o4
theorem Four.gr {W W' : World} {b1 b2 b3 b4 : Nat} {o1 o2 o3 o4 : Obj} (h : Four W b1 b2 b3 b4 o1 o2 o3 o4) (g : Below W.heap.size W W') : Four W' b1 b2 b3 b4 o1 o2 o3 o4 :=
  ⟨(g.block b1 (lt_of_block h.1)).trans h.1, (g.block b2 (lt_of_block h.2.1)).trans h.2.1, (g.block b3 (lt_of_block h.2.2.1)).trans h.2.2.1, (g.block b4 (lt_of_block h.2.2.2)).trans h.2.2.2⟩
theorem Four.chg {p : Nat → Prop} {W W' : World} {b1 b2 b3 b4 : Nat} {o1 o2 o3 o4 : Obj} (h : Four W b1 b2 b3 b4 o1 o2 o3 o4) (g : ChgN p W W') (h1 : ¬ p b1) (h2 : ¬ p b2) (h3 : ¬ p b3) (h4 : ¬ p b4) : Four W' b1 b2 b3 b4 o1 o2 o3 o4 :=
  ⟨(g.block b1 (lt_of_block h.1) h1).trans h.1, (g.block b2 (lt_of_block h.2.1) h2).trans h.2.1, (g.block b3 (lt_of_block h.2.2.1) h3).trans h.2.2.1, (g.block b4 (lt_of_block h.2.2.2) h4).trans h.2.2.2⟩
theorem DsR.nil (w : World) (lo hi : Nat) (a : Option Addr) : DsR w lo hi (.slice a 0 0) [] := ⟨SlR.nil _ _ 0 (Nat.zero_le _) _, by simp⟩
end Imp
namespace Go.Proofs.YteccopgnlbphbaaDoor
open Go Go.RowKit Imp
set_option linter.unusedVariables false
set_option linter.unusedSimpArgs false
set_option maxRecDepth 10000 in
set_option maxHeartbeats 3200000 in
theorem walk_FnExactForgetAll (w : World) (hok : OkW w) (v : Value) (L : List DR) (hL : ∃ u, ∃ fills hits : Int, v = vFd u fills hits ∧ DsR w 0 w.heap.size u L ∧ (∀ r ∈ L, okD r.1) ∧ okI fills ∧ okI hits) :
    Calls Tryd.prog 3 #[v] w fun e w' => e = .returned (.bool true) ∧ Below w.heap.size w w' := by
  obtain ⟨u, fills, hits, rfl, hfl, hsz, _, _⟩ := hL
  obtain ⟨ua, uc, rfl, _, _⟩ := hfl.1.form
  have hA := heap_alloc_new w (.cells #[.slice ua L.length uc, .int .i64 fills, .int .i64 hits] 24)
  have hgA := gr_al w (.cells #[.slice ua L.length uc, .int .i64 fills, .int .i64 hits] 24)
  have hbW := fun W (h : Gr w W) => hfl.below h (Nat.le_refl _)
  have HB := Lib.hid hbW
  have HA := Lib.hid hA
  clear hfl hbW hA
  go_enter Tryd.func3, Tryd.ntmps3
  go_wp2_with fail
  refine (szFinder_any _ L fills hits _ _ (HB.out _ hgA) (by simp) hsz (by omega) (by omega)).mono ?_
  rintro e w1 ⟨q, rfl, hq, hql, hb1⟩
  have hg1 := Gr.tr hgA hb1
  by_cases h0 : q < 0
  · go_wp2
    go_ret
    exact ⟨rfl, hg1⟩
  · have htot := hq (by omega)
    have hlen : L.length ≤ 1048576 := by omega
    have hnmL : nmsT L ≤ 1048576 := by have := nmsT_totD L; omega
    have hszF : ∀ r ∈ L, szD r.1 ≤ 1048576 := fun r hr => by have := totD_mem hr; omega
    have hbn : ∀ r ∈ L, r.1.names.length ≤ 1048576 := fun r hr => by have := hszF r hr; unfold szD at this; omega
    have hsmL : ∀ r ∈ L, SmD r := fun r hr => by
      have := hszF r hr
      unfold szD at this
      show r.1.pkg.size ≤ _
      omega
    obtain ⟨F, G, hFG⟩ : ∃ F G, fFor (L.map (·.1)) fills hits = (F, G) := ⟨_, _, rfl⟩
    have h1 : ∀ lo hi vv (M : List DR) W, OkW W → DsR W lo hi vv M → M.map (·.1) = L.map (·.1) → hi ≤ W.heap.size → Calls Tryd.prog 10 #[vFd vv fills hits] W fun e w' => e = .returned (vFd (.slice none 0 0) F G) ∧ Gr W w' := by
      intro lo hi vv M W k h e h'
      have := sForgetAll_any vv M fills hits W k h h' (smD_of hsmL e)
      rwa [e, hFG] at this
    have h2 : ∀ lo hi vv (M : List DR) W, OkW W → DsR W lo hi vv M → M.map (·.1) = L.map (·.1) → hi ≤ W.heap.size → Calls Tryd.prog 12 #[vFd vv fills hits] W fun e w' => ∃ a, e = .returned (vFd (.slice a 0 0) F G) ∧ Gr W w' := by
      intro lo hi vv M W k h e h'
      have := iForgetAll_any vv M fills hits W k h h' (smD_of hsmL e)
      rwa [e, hFG] at this
    have h3 := fun W (h : Gr w W) => toFinder_own _ L fills hits W (HB.out _ h) h.size hlen hbn
    have H1 := Lib.hid h1
    have H2 := Lib.hid h2
    have H3 := Lib.hid h3
    have heq : ∀ (a b : Option Addr) W, Calls Tryd.prog 13 #[vFd (.slice a 0 0) F G, vFd (.slice b 0 0) F G] W fun e w' => e = .returned (.bool true) ∧ Gr W w' :=
      fun a b W => eqFinder_any (lo := 0) (hi := W.heap.size) (lo' := 0) (hi' := W.heap.size) _ _ [] [] F G W (DsR.nil _ _ _ _) (DsR.nil _ _ _ _) rfl (Nat.le_refl _) (Nat.le_refl _)
    have HEQ := Lib.hid heq
    have hmk : ∀ (b : Option Addr) W, Calls Tryd.prog 14 #[vFd (.slice b 0 0) F G, .int .i64 1] W fun e w' => e = .returned (.int .i64 1) ∧ Gr W w' := fun b W => markFinder_nil b F G W 1 (by omega)
    have hhd : ∀ (b : Option Addr) W, Calls Tryd.prog 15 #[vFd (.slice b 0 0) F G, .int .i64 1] W fun e w' => e = .returned (.int .i64 1) ∧ Gr W w' := fun b W => heldFinder_nil b F G W 1 (by omega)
    have HMK := Lib.hid hmk
    have HHD := Lib.hid hhd
    clear hq hql htot h1 h2 h3 hsz hszF hbn hsmL hFG heq hmk hhd
    obtain ⟨⟨c0, c1, c2⟩, _⟩ := rows3 ((hb1.block _ (by simp)).trans HA.out)
    -- the reference's answer
    go_wp2_with fail
    refine (H3.out _ hg1).mono ?_
    rintro e w2 ⟨u2, rfl, M2, hM2, ho2, hb2⟩
    have hg2 := hg1.tr hb2
    go_wp2_with fail
    refine (H1.out _ _ u2 M2 _ (hok.gr hg2) ho2.reads hM2 (Nat.le_refl _)).mono ?_
    rintro e w3 ⟨rfl, hb3⟩
    have hg3 := hg2.tr hb3
    have hgW := gr_al w3 (.cells #[.slice none 0 0, .int .i64 F, .int .i64 G] 28)
    have hW := heap_alloc_new w3 (.cells #[.slice none 0 0, .int .i64 F, .int .i64 G] 28)
    have hA3 := ((hb1.tr (hb2.tr hb3)).block _ (by simp)).trans HA.out
    have hA3' := (hgW.block _ (lt_of_block hA3)).trans hA3
    clear c0 c1 c2 hM2 ho2
    obtain ⟨⟨c0, c1, c2⟩, _⟩ := rows3 hA3'
    -- the program's argument
    go_wp2_with fail
    refine (H3.out _ (hg3.tr hgW)).mono ?_
    rintro e w4 ⟨u4, rfl, M4, hM4, ho4, hb4⟩
    have hg4 := (hg3.tr hgW).tr hb4
    obtain ⟨a4, k4, e4, _, _⟩ := ho4.1.form
    subst e4
    have hgX := gr_al w4 (.cells #[.slice a4 M4.length k4, .int .i64 fills, .int .i64 hits] 28)
    have hX := heap_alloc_new w4 (.cells #[.slice a4 M4.length k4, .int .i64 fills, .int .i64 hits] 28)
    have hobl := ho4.block
    have ho4x := ho4.gr hgX
    have hrd := fun W (h : Gr w4 W) => OwnD.reads ho4 |>.below h (Nat.le_refl _)
    clear c0 c1 c2
    go_wp2_with fail
    refine (H2.out _ _ _ M4 _ (hok.gr (hg4.tr hgX)) (hrd _ hgX) hM4 hgX.size).mono ?_
    rintro e w5 ⟨ag, rfl, hb5⟩
    have hgG := gr_al w5 (.cells #[.slice ag 0 0, .int .i64 F, .int .i64 G] 28)
    have hG := heap_alloc_new w5 (.cells #[.slice ag 0 0, .int .i64 F, .int .i64 G] 28)
    have hw5 := (hg4.tr hgX).tr hb5
    have hw5a := hw5.tr hgG
    have hF4 : Four (w5.alloc (.cells #[.slice ag 0 0, .int .i64 F, .int .i64 G] 28)) w.heap.size w3.heap.size w4.heap.size w5.heap.size (.cells #[.slice ua L.length uc, .int .i64 fills, .int .i64 hits] 24) (.cells #[.slice none 0 0, .int .i64 F, .int .i64 G] 28) (.cells #[.slice a4 M4.length k4, .int .i64 fills, .int .i64 hits] 28) (.cells #[.slice ag 0 0, .int .i64 F, .int .i64 G] 28) := by
      have q := (((hgW.tr hb4).tr hgX).tr hb5).tr hgG
      exact ⟨(q.block _ (lt_of_block hA3)).trans hA3, (((((hb4.tr hgX).tr hb5).tr hgG).block _ (by simp)).trans hW), ((hb5.tr hgG).block _ (by simp)).trans hX, hG⟩
    have hall : ∀ W, Gr (w5.alloc (.cells #[.slice ag 0 0, .int .i64 F, .int .i64 G] 28)) W → Gr (w5.alloc (.cells #[.slice ag 0 0, .int .i64 F, .int .i64 G] 28)) W ∧ (W.cell? ⟨w.heap.size, 0, none⟩ = some (.slice ua L.length uc) ∧ W.cell? ⟨w.heap.size, 1, none⟩ = some (.int .i64 fills) ∧ W.cell? ⟨w.heap.size, 2, none⟩ = some (.int .i64 hits)) ∧ (W.cell? ⟨w3.heap.size, 0, none⟩ = some (.slice none 0 0) ∧ W.cell? ⟨w3.heap.size, 1, none⟩ = some (.int .i64 F) ∧ W.cell? ⟨w3.heap.size, 2, none⟩ = some (.int .i64 G)) ∧ (W.cell? ⟨w4.heap.size, 0, none⟩ = some (.slice a4 M4.length k4) ∧ W.cell? ⟨w4.heap.size, 1, none⟩ = some (.int .i64 fills) ∧ W.cell? ⟨w4.heap.size, 2, none⟩ = some (.int .i64 hits)) ∧ (W.cell? ⟨w5.heap.size, 0, none⟩ = some (.slice ag 0 0) ∧ W.cell? ⟨w5.heap.size, 1, none⟩ = some (.int .i64 F) ∧ W.cell? ⟨w5.heap.size, 2, none⟩ = some (.int .i64 G)) := fun W h => by
      have q := hF4.gr h
      exact ⟨h, (rows3 q.1).1, (rows3 q.2.1).1, (rows3 q.2.2.1).1, (rows3 q.2.2.2).1⟩
    have HALL := Lib.hid hall
    have hall2 : ∀ W, Gr (w5.alloc (.cells #[.slice ag 0 0, .int .i64 F, .int .i64 G] 28)) W → Four W w.heap.size w3.heap.size w4.heap.size w5.heap.size (.cells #[.slice ua L.length uc, .int .i64 fills, .int .i64 hits] 24) (.cells #[.slice none 0 0, .int .i64 F, .int .i64 G] 28) (.cells #[.slice a4 M4.length k4, .int .i64 fills, .int .i64 hits] 28) (.cells #[.slice ag 0 0, .int .i64 F, .int .i64 G] 28) := fun W h => hF4.gr h
    have HALL2 := Lib.hid hall2
    have HRD := Lib.hid hrd
    have HM4 := Lib.hid hM4
    have g45 := (hgX.tr hb5).tr hgG
    have s1 : w.heap.size < w3.heap.size + 1 + 3 := by have := hg3.size; omega
    have s3 : w4.heap.size < w5.heap.size := Nat.lt_of_lt_of_le (by simp) hb5.size
    have hown5 := ho4x.gr (hb5.tr hgG)
    have hlow : ∀ i, ownsN (.slice a4 M4.length k4) M4 i → w3.heap.size + 1 + 3 ≤ i ∧ i < w4.heap.size := fun i q => by
      have := hobl i q
      simpa using this
    have hMl : M4.length = L.length := by have := congrArg List.length HM4.out; simpa using this
    have hMn : nmsT M4 = nmsT L := nmsT_map HM4.out
    have HMl := Lib.hid hMl
    have HMn := Lib.hid hMn
    clear hMl hMn
    clear hall hall2 hrd hM4 hF4 hX hG hW hA3 hA3' hobl ho4 ho4x
    obtain ⟨_, ⟨⟨c0, c1, c2⟩, ⟨d0, d1, d2⟩, ⟨e0, e1, e2⟩, g0, g1, g2⟩⟩ := HALL.out _ (Gr.rfl' _)
    go_wp2_with fail
    refine (HEQ.out ag none _).mono ?_
    rintro e w6 ⟨rfl, hb6⟩
    clear c0 c1 c2 d0 d1 d2 e0 e1 e2 g0 g1 g2
    go_wp2
    refine wp_region_held_drew (S := (fun W => Gr (w5.alloc (.cells #[.slice ag 0 0, .int .i64 F, .int .i64 G] 28)) W ∧ (W.cell? ⟨w.heap.size, 0, none⟩ = some (.slice ua L.length uc) ∧ W.cell? ⟨w.heap.size, 1, none⟩ = some (.int .i64 fills) ∧ W.cell? ⟨w.heap.size, 2, none⟩ = some (.int .i64 hits)) ∧ (W.cell? ⟨w3.heap.size, 0, none⟩ = some (.slice none 0 0) ∧ W.cell? ⟨w3.heap.size, 1, none⟩ = some (.int .i64 F) ∧ W.cell? ⟨w3.heap.size, 2, none⟩ = some (.int .i64 G)) ∧ (W.cell? ⟨w4.heap.size, 0, none⟩ = some (.slice a4 M4.length k4) ∧ W.cell? ⟨w4.heap.size, 1, none⟩ = some (.int .i64 fills) ∧ W.cell? ⟨w4.heap.size, 2, none⟩ = some (.int .i64 hits)) ∧ (W.cell? ⟨w5.heap.size, 0, none⟩ = some (.slice ag 0 0) ∧ W.cell? ⟨w5.heap.size, 1, none⟩ = some (.int .i64 F) ∧ W.cell? ⟨w5.heap.size, 2, none⟩ = some (.int .i64 G)))) (by kernel_rfl) (HALL.out _ (below_drewN hb6 1)) (fun hS0 => ?_)
    refine wpAnyH_take (i := 0) (v := ?_) rfl (by kernel_rfl) (by kernel_rfl) (by kernel_rfl) (fun _ _ _ h => h) (Or.inl ⟨by rfl, ?_⟩) hS0 ?_
    rotate_left
    · (intro W hSw; (try dsimp only at hSw); go_simp; try (with_reducible rfl))
    try simp only [Act.put, List.getElem_toArray, List.getElem_cons_succ, List.getElem_cons_zero, List.setIfInBounds_toArray, List.set_cons_zero, List.set_cons_succ]
    refine wpAnyH_take (i := 1) (v := ?_) rfl (by kernel_rfl) (by kernel_rfl) (by kernel_rfl) (fun _ _ _ h => h) (Or.inl ⟨by rfl, ?_⟩) hS0 ?_
    rotate_left
    · (intro W hSw; (try dsimp only at hSw); go_simp; try (with_reducible rfl))
    try simp only [Act.put, List.getElem_toArray, List.getElem_cons_succ, List.getElem_cons_zero, List.setIfInBounds_toArray, List.set_cons_zero, List.set_cons_succ]
    refine wpAnyH_ready (rs := [2]) (by kernel_rfl) (by simp) ?_
    refine AllReadyH.cons rfl (fun K hK => ?_) AllReadyH.nil
    go_simp
    refine (H3.out _ (hw5a.tr hS0.1)).mono ?_
    rintro e w7 ⟨u7, rfl, M7, hM7, ho7, hb7⟩
    try go_wp2_with fail
    refine hK.out _ _ (HALL.out _ (hS0.1.tr hb7)) (fun hS1 => ?_)
    clear hK K
    try simp only [Act.put, List.getElem_toArray, List.getElem_cons_succ, List.getElem_cons_zero, List.setIfInBounds_toArray, List.set_cons_zero, List.set_cons_succ]
    obtain ⟨a7, k7, e7, _, _⟩ := ho7.1.form
    subst e7
    have rd7 := OwnD.reads ho7
    have rd4 := HRD.out _ (g45.tr hS1.1)
    have sz4 := (g45.tr hS1.1).size
    have heq7 := eqFinder_any (.slice a4 M4.length k4) (.slice a7 M7.length k7) M4 M7 fills hits _ rd4 rd7 (HM4.out.trans hM7.symm) sz4 (Nat.le_refl _)
    have HEQ7 := Lib.hid heq7
    clear heq7
    refine wpAnyH_ready (rs := [3]) (by kernel_rfl) (by simp) ?_
    refine AllReadyH.cons rfl (fun K hK => ?_) AllReadyH.nil
    go_simp
    refine (HEQ7.out).mono ?_
    rintro e w8 ⟨rfl, hb8⟩
    try go_wp2_with fail
    refine hK.out _ _ (HALL.out _ (hS1.1.tr hb8)) (fun hS2 => ?_)
    clear hK K
    try simp only [Act.put, List.getElem_toArray, List.getElem_cons_succ, List.getElem_cons_zero, List.setIfInBounds_toArray, List.set_cons_zero, List.set_cons_succ]
    refine wpAnyH_take (i := 4) (v := ?_) rfl (by kernel_rfl) (by kernel_rfl) (by kernel_rfl) (fun _ _ _ h => h) (Or.inl ⟨by rfl, ?_⟩) hS2 ?_
    rotate_left
    · (intro W hSw; (try dsimp only at hSw); go_simp; try (with_reducible rfl))
    try simp only [Act.put, List.getElem_toArray, List.getElem_cons_succ, List.getElem_cons_zero, List.setIfInBounds_toArray, List.set_cons_zero, List.set_cons_succ]
    refine wpAnyH_done (by kernel_rfl) ?_ _
    obtain ⟨hB, ⟨⟨c0, c1, c2⟩, ⟨d0, d1, d2⟩, ⟨e0, e1, e2⟩, g0, g1, g2⟩⟩ := hS2
    have hmark := markFinder_any _ M4 fills hits _ 1 (hown5.gr hB) (by omega) (by have := HMl.out; have := HMn.out; omega)
    obtain ⟨K, hK⟩ : ∃ K : Nat, K = 1 + 3 * M4.length + nmsT M4 := ⟨_, rfl⟩
    rw [← hK] at hmark
    have hKn : ¬ (K : Int) < 0 := by omega
    have HK := Lib.hid hmark
    clear hmark hK
    go_wp2_with fail
    refine HK.out.mono ?_
    rintro e w9 ⟨rfl, hchg⟩
    -- behind the marks
    have hB9 : Gr w w9 := Imp.Below.chg (hw5a.tr hB) hchg (hw5a.tr hB).size (fun i q => by have := (hlow i q).1; have := hg3.size; omega)
    have hF5 : Four _ w.heap.size w3.heap.size w4.heap.size w5.heap.size (.cells #[.slice ua L.length uc, .int .i64 fills, .int .i64 hits] 24) (.cells #[.slice none 0 0, .int .i64 F, .int .i64 G] 28) (.cells #[.slice a4 M4.length k4, .int .i64 fills, .int .i64 hits] 28) (.cells #[.slice ag 0 0, .int .i64 F, .int .i64 G] 28) := HALL2.out _ hB
    have hF9 := hF5.chg hchg (fun q => by have := (hlow _ q).1; omega) (fun q => by have := (hlow _ q).1; omega) (fun q => by have := (hlow _ q).2; omega) (fun q => by have := (hlow _ q).2; omega)
    have hall : ∀ W, Gr w9 W → (W.cell? ⟨w.heap.size, 0, none⟩ = some (.slice ua L.length uc) ∧ W.cell? ⟨w.heap.size, 1, none⟩ = some (.int .i64 fills) ∧ W.cell? ⟨w.heap.size, 2, none⟩ = some (.int .i64 hits)) ∧ (W.cell? ⟨w3.heap.size, 0, none⟩ = some (.slice none 0 0) ∧ W.cell? ⟨w3.heap.size, 1, none⟩ = some (.int .i64 F) ∧ W.cell? ⟨w3.heap.size, 2, none⟩ = some (.int .i64 G)) ∧ (W.cell? ⟨w4.heap.size, 0, none⟩ = some (.slice a4 M4.length k4) ∧ W.cell? ⟨w4.heap.size, 1, none⟩ = some (.int .i64 fills) ∧ W.cell? ⟨w4.heap.size, 2, none⟩ = some (.int .i64 hits)) ∧ (W.cell? ⟨w5.heap.size, 0, none⟩ = some (.slice ag 0 0) ∧ W.cell? ⟨w5.heap.size, 1, none⟩ = some (.int .i64 F) ∧ W.cell? ⟨w5.heap.size, 2, none⟩ = some (.int .i64 G)) := fun W h => by
      have q := hF9.gr h
      exact ⟨(rows3 q.1).1, (rows3 q.2.1).1, (rows3 q.2.2.1).1, (rows3 q.2.2.2).1⟩
    have HALL9 := Lib.hid hall
    clear hall hF5 hF9 hchg HALL HALL2
    clear c0 c1 c2 d0 d1 d2 e0 e1 e2 g0 g1 g2
    obtain ⟨⟨c0, c1, c2⟩, ⟨d0, d1, d2⟩, ⟨e0, e1, e2⟩, g0, g1, g2⟩ := HALL9.out _ (Gr.rfl' _)
    go_wp2_with fail
    refine (HEQ.out ag none _).mono ?_
    rintro e w10 ⟨rfl, hb10⟩
    clear c0 c1 c2 d0 d1 d2 e0 e1 e2 g0 g1 g2
    obtain ⟨⟨c0, c1, c2⟩, ⟨d0, d1, d2⟩, ⟨e0, e1, e2⟩, g0, g1, g2⟩ := HALL9.out _ hb10
    go_wp2_with fail
    refine (HMK.out ag _).mono ?_
    rintro e w11 ⟨rfl, hb11⟩
    have hb11 := hb10.tr hb11
    clear c0 c1 c2 d0 d1 d2 e0 e1 e2 g0 g1 g2
    obtain ⟨⟨c0, c1, c2⟩, ⟨d0, d1, d2⟩, ⟨e0, e1, e2⟩, g0, g1, g2⟩ := HALL9.out _ hb11
    go_wp2_with fail
    refine (HHD.out ag _).mono ?_
    rintro e w12 ⟨rfl, hb12⟩
    have hb12 := hb11.tr hb12
    clear c0 c1 c2 d0 d1 d2 e0 e1 e2 g0 g1 g2
    obtain ⟨⟨c0, c1, c2⟩, ⟨d0, d1, d2⟩, ⟨e0, e1, e2⟩, g0, g1, g2⟩ := HALL9.out _ hb12
    go_wp2_with fail
    refine (H3.out _ (hB9.tr hb12)).mono ?_
    rintro e w13 ⟨u13, rfl, M13, hM13, ho13, hb13⟩
    have hb13 := hb12.tr hb13
    obtain ⟨a13, k13, e13, _, _⟩ := ho13.1.form
    subst e13
    go_wp2_with fail
    refine (H2.out _ _ _ M13 _ (hok.gr (hB9.tr hb13)) ho13.reads hM13 (Nat.le_refl _)).mono ?_
    rintro e w14 ⟨ah, rfl, hb14⟩
    have hb14 := (hb13.tr hb14).tr (gr_al w14 (.cells #[.slice ah 0 0, .int .i64 F, .int .i64 G] 28))
    clear c0 c1 c2 d0 d1 d2 e0 e1 e2 g0 g1 g2
    obtain ⟨⟨c0, c1, c2⟩, ⟨d0, d1, d2⟩, ⟨e0, e1, e2⟩, g0, g1, g2⟩ := HALL9.out _ hb14
    go_wp2_with fail
    refine (HEQ.out ah none _).mono ?_
    rintro e w15 ⟨rfl, hb15⟩
    have hb15 := hb14.tr hb15
    clear c0 c1 c2 d0 d1 d2 e0 e1 e2 g0 g1 g2
    obtain ⟨⟨c0, c1, c2⟩, ⟨d0, d1, d2⟩, ⟨e0, e1, e2⟩, g0, g1, g2⟩ := HALL9.out _ hb15
    go_wp2_with fail
    refine (HHD.out ag _).mono ?_
    rintro e w16 ⟨rfl, hb16⟩
    go_wp2
    go_ret
    exact ⟨rfl, (hB9.tr hb15).tr hb16⟩
end Go.Proofs.YteccopgnlbphbaaDoor
