/-
  Walks: modules of files; the law that the two packages tell the same of them.
-/
import Derived.Test.YtipklobcfmcebaaDoorOpen
import Derived.Test.YtipklobcfmcebaaDoorTreeD
import Derived.Test.YtipklobcfmcebaaDoorTreeB
import Derived.Deep.RegionHeld3
namespace Imp
open Go
def nameP (f : Fil) : List UInt8 := if f.init then bs f.pkg else childP (bs f.pkg) (bs f.name)
def fMod (f : Fil) : List UInt8 := if okFil f then nameP f else []
theorem fMod_ok {f : Fil} (h : okFil f = true) : fMod f = nameP f := by unfold fMod; rw [if_pos h]
theorem fMod_bad {f : Fil} (h : okFil f = false) : fMod f = [] := by unfold fMod; rw [h]; rfl
theorem child_of_ok {f : Fil} (h : okFil f = true) (hi : f.init = false) : fChild (bs f.pkg) (bs f.name) = childP (bs f.pkg) (bs f.name) := by
  unfold okFil at h
  rw [hi] at h
  simp only [Bool.and_eq_true, Bool.false_eq_true, ↓reduceIte] at h
  unfold fChild
  rw [h.1.1.1.2, h.2.1, h.2.2]; rfl
end Imp
namespace Go.Proofs.YtipklobcfmcebaaDoor
open Go Go.RowKit Imp
set_option linter.unusedVariables false
set_option linter.unusedSimpArgs false

theorem smoduleName_any (r : FR) (w : World) (hp : r.1.pkg.size ≤ 4194304) (hn : r.1.name.size ≤ 4194304) :
    Calls Tryd.prog 79 #[vF r] w fun e w' => e = .returned (.string (mk (nameP r.1))) ∧ Gr w w' := by
  obtain ⟨⟨root, pkg, name, init, stamp, body⟩, bv⟩ := r
  simp only [nameP] at *
  cases init
  · go_enter Tryd.func79, Tryd.ntmps79
    go_wp2_with (go_at_call 133; refine (schild_any _ _ _ hp hn).mono ?_; rintro e w3 ⟨rfl, rfl⟩)
    go_ret
    exact ⟨rfl, gr_al _ _⟩
  · go_enter Tryd.func79, Tryd.ntmps79
    go_wp2
    go_ret
    exact ⟨ret_str (by simp), gr_al _ _⟩
theorem sModuleOf_any {lo hi : Nat} (r : FR) (w : World) (hok : OkW w) (hb : BodyR w lo hi r) (hhi : hi ≤ w.heap.size) (hp : r.1.pkg.size ≤ 4194304) (hn : r.1.name.size ≤ 4194304) (hsm : ∀ s ∈ r.1.body, szSt s ≤ 16777216) :
    Calls Tryd.prog 29 #[vF r] w fun e w' => e = .returned (.string (mk (fMod r.1))) ∧ Gr w w' := by
  have hA := heap_alloc_new w (.cells #[.int .i64 r.1.root, .string r.1.pkg, .string r.1.name, .bool r.1.init, .int .i64 r.1.stamp, r.2] 44)
  have h1 := fun o => svalidFile_any r (w.alloc o) (hok.al o) (SlR.below hb (gr_al w o) hhi) (by simp; omega) hp hn hsm
  have h2 := fun W => smoduleName_any r W hp hn
  cases hF : okFil r.1
  · rw [hF] at h1
    rw [fMod_bad hF]
    obtain ⟨R, hR⟩ : ∃ R, R = mk [] := ⟨_, rfl⟩
    rw [← hR]
    have HR := Lib.hid hR
    have H1 := Lib.hid h1
    clear hR h1
    go_enter Tryd.func29, Tryd.ntmps29
    go_wp2_with fail
    refine (H1.out _).mono ?_
    rintro e w1 ⟨rfl, hb1⟩
    go_wp2
    go_ret
    exact ⟨ret_str (by rw [HR.out]), Gr.tr (gr_al _ _) hb1⟩
  · rw [hF] at h1
    rw [fMod_ok hF]
    generalize nameP r.1 = N at h2
    have H1 := Lib.hid h1
    clear h1
    go_enter Tryd.func29, Tryd.ntmps29
    go_wp2_with fail
    refine (H1.out _).mono ?_
    rintro e w1 ⟨rfl, hb1⟩
    obtain ⟨c0, c1, c2, c3, c4, c5⟩ := cells6 hA hb1
    go_wp2_with fail
    refine (h2 _).mono ?_
    rintro e w2 ⟨rfl, hb2⟩
    go_wp2
    go_ret
    exact ⟨rfl, (Gr.tr (gr_al _ _) hb1).tr hb2⟩
theorem iModuleOf_any {lo hi : Nat} (r : FR) (w : World) (hok : OkW w) (hb : BodyR w lo hi r) (hhi : hi ≤ w.heap.size) (hp : r.1.pkg.size ≤ 4194304) (hn : r.1.name.size ≤ 4194304) (hsm : ∀ s ∈ r.1.body, szSt s ≤ 16777216) :
    Calls Tryd.prog 31 #[vF r] w fun e w' => e = .returned (.string (mk (fMod r.1))) ∧ Gr w w' := by
  obtain ⟨⟨root, pkg, name, init, stamp, body⟩, bv⟩ := r
  have hA := heap_alloc_new w (.cells #[.int .i64 root, .string pkg, .string name, .bool init, .int .i64 stamp, bv] 44)
  have h1 := fun o => ifileOk_any (⟨root, pkg, name, init, stamp, body⟩, bv) (w.alloc o) (hok.al o) (SlR.below hb (gr_al w o) hhi) (by simp; omega) hp hn hsm
  have h2 := fun W h => iChildOf_any pkg name W hp hn h
  have hch : okFil ⟨root, pkg, name, init, stamp, body⟩ = true → init = false → fChild (bs pkg) (bs name) = childP (bs pkg) (bs name) := fun h k => child_of_ok h k
  obtain ⟨F, hF⟩ : ∃ F, F = okFil ⟨root, pkg, name, init, stamp, body⟩ := ⟨_, rfl⟩
  simp only at h1 hp hn
  rw [← hF] at h1 hch
  have hmod : fMod ⟨root, pkg, name, init, stamp, body⟩ = if F then nameP ⟨root, pkg, name, init, stamp, body⟩ else [] := by unfold fMod; rw [hF]
  have H1 := Lib.hid h1
  have HM := Lib.hid hmod
  have HC := Lib.hid hch
  have H2 := Lib.hid h2
  clear h1 hmod hch h2 hF hb hsm
  obtain ⟨R, hR⟩ : ∃ R, R = mk (fMod ⟨root, pkg, name, init, stamp, body⟩) := ⟨_, rfl⟩
  simp only
  rw [← hR]
  have HR := Lib.hid hR
  clear hR
  cases F
  · go_enter Tryd.func31, Tryd.ntmps31
    go_wp2_with fail
    refine (H1.out _).mono ?_
    rintro e w1 ⟨rfl, hb1⟩
    go_wp2
    go_ret
    exact ⟨ret_str (by rw [HR.out, HM.out]; rfl), Gr.tr (gr_al _ _) hb1⟩
  · cases init
    · have h2 := H2.out
      rw [HC.out rfl rfl] at h2
      have hN : R = mk (childP (bs pkg) (bs name)) := by rw [HR.out, HM.out]; rfl
      rw [← hN] at h2
      have H3 := Lib.hid h2
      clear h2 hN
      go_enter Tryd.func31, Tryd.ntmps31
      go_wp2_with fail
      refine (H1.out _).mono ?_
      rintro e w1 ⟨rfl, hb1⟩
      obtain ⟨c0, c1, c2, c3, c4, c5⟩ := cells6 hA hb1
      have hok1 := (hok.al _).gr hb1
      go_wp2_with fail
      refine (H3.out _ hok1).mono ?_
      rintro e w2 ⟨rfl, hb2⟩
      go_wp2
      go_ret
      exact ⟨rfl, (Gr.tr (gr_al _ _) hb1).tr hb2⟩
    · have hN : pkg = R := by rw [HR.out, HM.out]; exact (mk_bs pkg).symm
      have HN := Lib.hid hN
      clear hN
      go_enter Tryd.func31, Tryd.ntmps31
      go_wp2_with fail
      refine (H1.out _).mono ?_
      rintro e w1 ⟨rfl, hb1⟩
      obtain ⟨c0, c1, c2, c3, c4, c5⟩ := cells6 hA hb1
      go_wp2
      go_ret
      exact ⟨ret_str HN.out, Gr.tr (gr_al _ _) hb1⟩
theorem walk_FnExactModuleOf (w : World) (hok : OkW w) (v : Value) (r : FR) (hL : v = vF r ∧ okF r.1 ∧ BodyR w 0 w.heap.size r) :
    Calls Tryd.prog 6 #[v] w fun e w' => e = .returned (.bool true) ∧ Below w.heap.size w w' := by
  obtain ⟨rfl, hsz, hb⟩ := hL
  obtain ⟨f, bv⟩ := r
  have hA := heap_alloc_new w (.cells #[.int .i64 f.root, .string f.pkg, .string f.name, .bool f.init, .int .i64 f.stamp, bv] 39)
  have hgA := gr_al w (.cells #[.int .i64 f.root, .string f.pkg, .string f.name, .bool f.init, .int .i64 f.stamp, bv] 39)
  have hbW := fun W (h : Gr w W) => SlR.below hb h (Nat.le_refl _)
  have HB := Lib.hid hbW
  have HA := Lib.hid hA
  clear hb hbW hA
  go_enter Tryd.func6, Tryd.ntmps6
  go_wp2_with fail
  refine (szFile_any (f, bv) _ _ (HB.out _ hgA) (by simp) hsz (by omega) (by omega)).mono ?_
  rintro e w1 ⟨q, rfl, hq, hql, hb1⟩
  have hg1 := Gr.tr hgA hb1
  by_cases h0 : q < 0
  · go_wp2
    go_ret
    exact ⟨rfl, hg1⟩
  · have htot := hq (by omega)
    unfold szF at htot
    simp only at htot
    have hlen : f.body.length ≤ 1048576 := by omega
    have hp : f.pkg.size ≤ 4194304 := by omega
    have hn : f.name.size ≤ 4194304 := by omega
    have hsm : ∀ s ∈ f.body, szSt s ≤ 16777216 := fun s hs => by have := totB_mem hs; omega
    have h1 := fun u lo hi W k h h' => sModuleOf_any (lo := lo) (hi := hi) (f, u) W k h h' hp hn hsm
    have h2 := fun u lo hi W k h h' => iModuleOf_any (lo := lo) (hi := hi) (f, u) W k h h' hp hn hsm
    have h3 := fun W (h : Gr w W) => toFile_own (f, bv) W (HB.out _ h) h.size hlen
    simp only at h1 h2 h3
    obtain ⟨R, hR⟩ : ∃ R, R = mk (fMod f) := ⟨_, rfl⟩
    rw [← hR] at h1 h2
    have q2 : (R.toList != R.toList) = false := by simp
    have H1 := Lib.hid h1
    have H2 := Lib.hid h2
    have H3 := Lib.hid h3
    clear hq hql htot hR h1 h2 h3 hsz
    obtain ⟨c0, c1, c2, c3, c4, c5⟩ := cells6 HA.out hb1
    have hgB := hb1
    go_wp2_with fail
    refine (H3.out _ hg1).mono ?_
    rintro e w2 ⟨u2, rfl, ho2, hb2⟩
    have hg2 := hg1.tr hb2
    obtain ⟨a2, k2, e2, _, _⟩ := ho2.form
    subst e2
    go_wp2_with fail
    refine (H1.out _ _ _ _ (hok.gr hg2) (ho2.reads (fun _ _ => rfl)) (Nat.le_refl _)).mono ?_
    rintro e w3 ⟨rfl, hb3⟩
    have hg3 := hg2.tr hb3
    have hgB := (hgB.tr hb2).tr hb3
    clear c0 c1 c2 c3 c4 c5
    obtain ⟨c0, c1, c2, c3, c4, c5⟩ := cells6 HA.out hgB
    go_wp2_with fail
    refine (H3.out _ hg3).mono ?_
    rintro e w4 ⟨u4, rfl, ho4, hb4⟩
    have hg4 := hg3.tr hb4
    have hgB := hgB.tr hb4
    obtain ⟨a4, k4, e4, _, _⟩ := ho4.form
    subst e4
    have hX := heap_alloc_new w4 (.cells #[.int .i64 f.root, .string f.pkg, .string f.name, .bool f.init, .int .i64 f.stamp, (.slice a4 f.body.length k4)] 44)
    have hgX := gr_al w4 (.cells #[.int .i64 f.root, .string f.pkg, .string f.name, .bool f.init, .int .i64 f.stamp, (.slice a4 f.body.length k4)] 44)
    have r4 := fun W (h : Gr w4 W) => SlR.below (ho4.reads (fun _ _ => rfl)) h (Nat.le_refl _)
    have R4 := Lib.hid r4
    have HX := Lib.hid hX
    clear hX r4 c0 c1 c2 c3 c4 c5
    go_wp2_with fail
    refine (H2.out (.slice a4 f.body.length k4) _ _ _ (hok.gr (hg4.tr hgX)) (R4.out _ hgX) hgX.size).mono ?_
    rintro e w5 ⟨rfl, hb5⟩
    have hg5 := (hg4.tr hgX).tr hb5
    have hall : ∀ W, Gr w5 W → Gr w5 W ∧ (W.cell? ⟨w.heap.size, 0, none⟩ = some (.int .i64 f.root) ∧ W.cell? ⟨w.heap.size, 1, none⟩ = some (.string f.pkg) ∧ W.cell? ⟨w.heap.size, 2, none⟩ = some (.string f.name) ∧ W.cell? ⟨w.heap.size, 3, none⟩ = some (.bool f.init) ∧ W.cell? ⟨w.heap.size, 4, none⟩ = some (.int .i64 f.stamp) ∧ W.cell? ⟨w.heap.size, 5, none⟩ = some bv) ∧
        (W.cell? ⟨w4.heap.size, 0, none⟩ = some (.int .i64 f.root) ∧ W.cell? ⟨w4.heap.size, 1, none⟩ = some (.string f.pkg) ∧ W.cell? ⟨w4.heap.size, 2, none⟩ = some (.string f.name) ∧ W.cell? ⟨w4.heap.size, 3, none⟩ = some (.bool f.init) ∧ W.cell? ⟨w4.heap.size, 4, none⟩ = some (.int .i64 f.stamp) ∧ W.cell? ⟨w4.heap.size, 5, none⟩ = some (.slice a4 f.body.length k4)) :=
      fun W h => ⟨h, cells6 HA.out (((hgB.tr hgX).tr hb5).tr h), cells6 HX.out (hb5.tr h)⟩
    have HALL := Lib.hid hall
    clear hall
    go_wp2
    refine wp_region_held_drew (S := (fun W => Gr w5 W ∧ (W.cell? ⟨w.heap.size, 0, none⟩ = some (.int .i64 f.root) ∧ W.cell? ⟨w.heap.size, 1, none⟩ = some (.string f.pkg) ∧ W.cell? ⟨w.heap.size, 2, none⟩ = some (.string f.name) ∧ W.cell? ⟨w.heap.size, 3, none⟩ = some (.bool f.init) ∧ W.cell? ⟨w.heap.size, 4, none⟩ = some (.int .i64 f.stamp) ∧ W.cell? ⟨w.heap.size, 5, none⟩ = some bv) ∧ (W.cell? ⟨w4.heap.size, 0, none⟩ = some (.int .i64 f.root) ∧ W.cell? ⟨w4.heap.size, 1, none⟩ = some (.string f.pkg) ∧ W.cell? ⟨w4.heap.size, 2, none⟩ = some (.string f.name) ∧ W.cell? ⟨w4.heap.size, 3, none⟩ = some (.bool f.init) ∧ W.cell? ⟨w4.heap.size, 4, none⟩ = some (.int .i64 f.stamp) ∧ W.cell? ⟨w4.heap.size, 5, none⟩ = some (.slice a4 f.body.length k4)))) (by kernel_rfl) (HALL.out _ (below_drewN (Gr.rfl' w5) 1)) (fun hS0 => ?_)
    refine wpAnyH_take (i := 0) (v := ?_) rfl (by kernel_rfl) (by kernel_rfl) (by kernel_rfl) (fun _ _ _ h => h) (Or.inl ⟨by rfl, ?_⟩) hS0 ?_
    rotate_left
    · (intro W hSw; (try dsimp only at hSw); go_simp; try (with_reducible rfl))
    try simp only [Act.put, List.getElem_toArray, List.getElem_cons_succ, List.getElem_cons_zero, List.setIfInBounds_toArray, List.set_cons_zero, List.set_cons_succ]
    refine wpAnyH_take (i := 1) (v := ?_) rfl (by kernel_rfl) (by kernel_rfl) (by kernel_rfl) (fun _ _ _ h => h) (Or.inl ⟨by rfl, ?_⟩) hS0 ?_
    rotate_left
    · (intro W hSw; (try dsimp only at hSw); go_simp; try (with_reducible rfl))
    try simp only [Act.put, List.getElem_toArray, List.getElem_cons_succ, List.getElem_cons_zero, List.setIfInBounds_toArray, List.set_cons_zero, List.set_cons_succ]
    refine wpAnyH_ready (rs := [2]) (by kernel_rfl) (by simp) ?_
    refine AllReadyH.cons rfl (fun K hK => ?_) AllReadyH.nil
    go_simp
    refine (H3.out _ (hg5.tr hS0.1)).mono ?_
    rintro e w6 ⟨u6, rfl, ho6, hb6⟩
    try go_wp2_with fail
    refine hK.out _ _ (HALL.out _ (hS0.1.tr hb6)) (fun hS1 => ?_)
    clear hK K
    try simp only [Act.put, List.getElem_toArray, List.getElem_cons_succ, List.getElem_cons_zero, List.setIfInBounds_toArray, List.set_cons_zero, List.set_cons_succ]
    refine wpAnyH_ready (rs := [3]) (by kernel_rfl) (by simp) ?_
    refine AllReadyH.cons rfl (fun K hK => ?_) AllReadyH.nil
    go_simp
    refine (eqFile_any f (.slice a4 f.body.length k4) u6 _ (R4.out _ ((hgX.tr hb5).tr hS1.1)) (ho6.reads (fun _ _ => rfl)) ((hgX.tr hb5).tr hS1.1).size (Nat.le_refl _)).mono ?_
    rintro e w7 ⟨rfl, hb7⟩
    try go_wp2_with fail
    refine hK.out _ _ (HALL.out _ (hS1.1.tr hb7)) (fun hS2 => ?_)
    clear hK K
    try simp only [Act.put, List.getElem_toArray, List.getElem_cons_succ, List.getElem_cons_zero, List.setIfInBounds_toArray, List.set_cons_zero, List.set_cons_succ]
    refine wpAnyH_take (i := 4) (v := ?_) rfl (by kernel_rfl) (by kernel_rfl) (by kernel_rfl) (fun _ _ _ h => h) (Or.inl ⟨by rfl, ?_⟩) hS2 ?_
    rotate_left
    · (intro W hSw; (try dsimp only at hSw); go_simp; try (with_reducible rfl))
    try simp only [Act.put, List.getElem_toArray, List.getElem_cons_succ, List.getElem_cons_zero, List.setIfInBounds_toArray, List.set_cons_zero, List.set_cons_succ]
    refine wpAnyH_done (by kernel_rfl) ?_ _
    go_wp2
    go_ret
    exact ⟨rfl, hg5.tr hS2.1⟩
end Go.Proofs.YtipklobcfmcebaaDoor
