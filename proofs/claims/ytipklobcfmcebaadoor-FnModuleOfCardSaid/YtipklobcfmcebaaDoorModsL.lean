/-
  Walk of the law on modules of drawn files.
-/
import Derived.Test.YtipklobcfmcebaaDoorDrawF
import Derived.Test.YtipklobcfmcebaaDoorLawsF
namespace Imp
open Go
theorem nameP_name {f : Fil} (h : okFil f = true) : vName (nameP f) = true := by
  unfold okFil at h
  simp only [Bool.and_eq_true] at h
  obtain ⟨⟨⟨⟨_, h2⟩, _⟩, _⟩, h5⟩ := h
  unfold nameP
  cases hi : f.init
  · rw [hi] at h5
    simp only [Bool.false_eq_true, ↓reduceIte, Bool.and_eq_true] at h5
    exact h5.2
  · rw [hi] at h5
    simp only [↓reduceIte, Bool.and_eq_true] at h5
    have he : (bs f.pkg).isEmpty = false := by rw [← isEmptyT]; simpa using h5.1
    unfold vPkg at h2
    rw [he, Bool.false_or] at h2
    exact h2
where isEmptyT {s : ByteArray} : s.toList.isEmpty = (bs s).isEmpty := by rw [Go.Proofs.YtipklobcfmcebaaDoor.isEmpty_toList]
theorem part_of_ok {f : Fil} (h : okFil f = true) (hi : f.init = false) : vPart (bs f.name) = true := by
  unfold okFil at h
  rw [hi] at h
  simp only [Bool.and_eq_true, Bool.false_eq_true, ↓reduceIte] at h
  exact h.2.1
end Imp
namespace Go.Proofs.YtipklobcfmcebaaDoor
open Go Go.RowKit Imp
set_option linter.unusedVariables false
set_option linter.unusedSimpArgs false

set_option maxHeartbeats 1600000 in
theorem anyFile_any (g p : Nat) (w : World) (h : Rdr w g p) (hp : p < 300000000) :
    Calls Tryd.prog 94 #[.pointer (some ⟨g, 0, none⟩)] w (DFil w g p 260) := by
  have hlt := h.lt
  go_enter Tryd.func94, Tryd.ntmps94
  go_wp2_with fail
  refine (someFile_any g p _ (h.al _) (by omega)).mono ?_
  rintro e w3 ⟨f, v, p3, rfl, ho3, hll, hls, hpk, hnm, hr3, hp3, hg3⟩
  have hz3 := keep_blk (heap_alloc_new w _) hg3 (by omega)
  have gg3 := grown_tr (grown_al w _ _) hg3
  have hl3 : w.heap.size + 1 ≤ w3.heap.size := by have := hg3.size; simpa using this
  obtain ⟨va, vc, rfl, _, _⟩ := ho3.form
  simp only [World.size_alloc] at ho3
  have hob := ho3.block
  have ho3 := ho3.mono (base' := w.heap.size) (by omega)
  obtain ⟨root, pkg, name, init, stamp, L⟩ := f
  simp only at hob ho3 hll hls hpk hnm
  have hf3 := heap_alloc_new w3 (.cells #[.int .i64 root, .string pkg, .string name, .bool init, .int .i64 stamp, .slice va L.length vc] 44)
  have hz3 : (w3.alloc (.cells #[.int .i64 root, .string pkg, .string name, .bool init, .int .i64 stamp, .slice va L.length vc] 44)).heap[w.heap.size]? = _ := (Below.heap_alloc w3 _ w.heap.size (by omega)).trans hz3
  go_wp2_with fail
  refine (pick_any g _ 16 _ (hr3.al _) (by omega) (by omega)).mono ?_
  rintro e w4 ⟨k, rfl, _, _, hr4, hg4⟩
  have hz4 := keep_blk hz3 hg4 (by omega)
  have hf4 := keep_blk hf3 hg4 (by omega)
  have gg4 := grown_tr (grown_tr gg3 (grown_al w3 _ _)) hg4
  have hl4 : w3.heap.size + 1 ≤ w4.heap.size := by have := hg4.size; (try simp at this); omega
  have ho4 := Own.keepR (Own.alloc ho3 _) hg4 hlt
  have hne1 : ¬ w3.heap.size = w.heap.size := by omega
  have hne2 : ¬ w.heap.size = w3.heap.size := by omega
  have HLS := Lib.hid hls
  clear hz3 hf3 gg3 hr3 hg4 hls ho3 hg3
  by_cases k0 : k = 0
  · subst k0
    obtain ⟨⟨x0, x1, x2, x3, x4, x5⟩, y0, y1, y2, y3, y4, y5⟩ := rows6 hf4
    obtain ⟨⟨a0, a1, a2, a3, a4, a5⟩, b0, b1, b2, b3, b4, b5⟩ := rows6 hz4
    have HZ := Lib.hid hz4
    clear hf4 hz4
    go_wp2
    have hput := put6 (set_other (o := 3) (v := .bool (!init)) HZ.out (by omega : w.heap.size ≠ w3.heap.size)) (.int .i64 root) (.string pkg) (.string name) (.bool (!init)) (.int .i64 stamp) (.slice va L.length vc)
    refine bodyPost_ret (results_cell_row rfl _ _ w.heap.size 44 _ (0, 0) _ rfl hput.1 Tryd.underlying44 rfl (by kernel_rfl)) rfl ?_
    refine ⟨⟨root, pkg, name, !init, stamp, L⟩, _, _, rfl, Own.keep (Own.keep ho4 (fun b hb => Below.heap_setCell _ ⟨w3.heap.size, 3, none⟩ (.bool (!init)) b (by show b ≠ w3.heap.size; have := (hob b hb).2; omega))) (fun b hb => hput.2.block b ?_ ?_), hll, HLS.out, hpk, hnm, (hr4.grown (grown_set _ w3.heap.size 3 (.bool (!init))) (by intro b hb; injection hb with hb; omega)).grown hput.2 (by intro b hb; injection hb with hb; omega), by omega, grown_fresh (grown_fresh gg4 (grown_set _ w3.heap.size 3 (.bool (!init))) (by omega)) hput.2 (Nat.le_refl _)⟩
    · have := (hob b hb).2; simp; omega
    · intro q; injection q with q; have := (hob b hb).1; omega
  · have q0 : (k == 0) = false := by simp [k0]
    by_cases k1 : k = 1
    · subst k1
      go_wp2_with fail
      refine (anyPackage_any g _ w4 hr4 (by omega)).mono ?_
      rintro e w5 ⟨s, p5, rfl, hs, hr5, hp5, hg5⟩
      have hz5 := keep_blk hz4 hg5 (by omega)
      have hf5 := keep_blk hf4 hg5 (by omega)
      have gg5 := grown_tr gg4 hg5
      have hl5 : w3.heap.size + 1 ≤ w5.heap.size := Nat.le_trans hl4 hg5.size
      have ho5 := Own.keepR ho4 hg5 hlt
      obtain ⟨⟨x0, x1, x2, x3, x4, x5⟩, y0, y1, y2, y3, y4, y5⟩ := rows6 hf5
      obtain ⟨⟨a0, a1, a2, a3, a4, a5⟩, b0, b1, b2, b3, b4, b5⟩ := rows6 hz5
      have HZ := Lib.hid hz5
      clear hf4 hz4 hf5 hz5
      go_wp2
      have hput := put6 (set_other (o := 1) (v := .string s) HZ.out (by omega : w.heap.size ≠ w3.heap.size)) (.int .i64 root) (.string s) (.string name) (.bool init) (.int .i64 stamp) (.slice va L.length vc)
      refine bodyPost_ret (results_cell_row rfl _ _ w.heap.size 44 _ (0, 0) _ rfl hput.1 Tryd.underlying44 rfl (by kernel_rfl)) rfl ?_
      refine ⟨⟨root, s, name, init, stamp, L⟩, _, _, rfl, Own.keep (Own.keep ho5 (fun b hb => Below.heap_setCell _ ⟨w3.heap.size, 1, none⟩ (.string s) b (by show b ≠ w3.heap.size; have := (hob b hb).2; omega))) (fun b hb => hput.2.block b ?_ ?_), hll, HLS.out, hs, hnm, (hr5.grown (grown_set _ w3.heap.size 1 (.string s)) (by intro b hb; injection hb with hb; omega)).grown hput.2 (by intro b hb; injection hb with hb; omega), by omega, grown_fresh (grown_fresh gg5 (grown_set _ w3.heap.size 1 (.string s)) (by omega)) hput.2 (Nat.le_refl _)⟩
      · have := (hob b hb).2; simp; omega
      · intro q; injection q with q; have := (hob b hb).1; omega
    · have q1 : (k == 1) = false := by simp [k1]
      by_cases k2 : k = 2
      · subst k2
        go_wp2_with fail
        refine (anyBody_any g _ w4 hr4 (by omega)).mono ?_
        rintro e w5 ⟨v5, M, p5, rfl, ho5, hml, hms, hr5, hp5, hg5⟩
        obtain ⟨ma, mc, rfl, _, _⟩ := ho5.form
        have hz5 := keep_blk hz4 hg5 (by omega)
        have hf5 := keep_blk hf4 hg5 (by omega)
        have gg5 := grown_tr gg4 hg5
        have hl5 : w3.heap.size + 1 ≤ w5.heap.size := Nat.le_trans hl4 hg5.size
        have hob5 := ho5.block
        have ho5 := ho5.mono (base' := w.heap.size) (by omega)
        obtain ⟨⟨x0, x1, x2, x3, x4, x5⟩, y0, y1, y2, y3, y4, y5⟩ := rows6 hf5
        obtain ⟨⟨a0, a1, a2, a3, a4, a5⟩, b0, b1, b2, b3, b4, b5⟩ := rows6 hz5
        have HZ := Lib.hid hz5
        have HMS := Lib.hid hms
        clear hf4 hz4 hf5 hz5 hms
        go_wp2
        have hput := put6 (set_other (o := 5) (v := .slice ma M.length mc) HZ.out (by omega : w.heap.size ≠ w3.heap.size)) (.int .i64 root) (.string pkg) (.string name) (.bool init) (.int .i64 stamp) (.slice ma M.length mc)
        refine bodyPost_ret (results_cell_row rfl _ _ w.heap.size 44 _ (0, 0) _ rfl hput.1 Tryd.underlying44 rfl (by kernel_rfl)) rfl ?_
        refine ⟨⟨root, pkg, name, init, stamp, M⟩, _, _, rfl, Own.keep (Own.keep ho5 (fun b hb => Below.heap_setCell _ ⟨w3.heap.size, 5, none⟩ (.slice ma M.length mc) b (by show b ≠ w3.heap.size; have := (hob5 b hb).1; omega))) (fun b hb => hput.2.block b ?_ ?_), hml, HMS.out, hpk, hnm, (hr5.grown (grown_set _ w3.heap.size 5 (.slice ma M.length mc)) (by intro b hb; injection hb with hb; omega)).grown hput.2 (by intro b hb; injection hb with hb; omega), by omega, grown_fresh (grown_fresh gg5 (grown_set _ w3.heap.size 5 (.slice ma M.length mc)) (by omega)) hput.2 (Nat.le_refl _)⟩
        · have := (hob5 b hb).2; simp; omega
        · intro q; injection q with q; have := (hob5 b hb).1; omega
      · have q2 : (k == 2) = false := by simp [k2]
        obtain ⟨⟨x0, x1, x2, x3, x4, x5⟩, y0, y1, y2, y3, y4, y5⟩ := rows6 hf4
        obtain ⟨⟨a0, a1, a2, a3, a4, a5⟩, b0, b1, b2, b3, b4, b5⟩ := rows6 hz4
        have HZ := Lib.hid hz4
        clear hf4 hz4 k0 k1 k2
        go_wp2
        have hput := put6 HZ.out (.int .i64 root) (.string pkg) (.string name) (.bool init) (.int .i64 stamp) (.slice va L.length vc)
        refine bodyPost_ret (results_cell_row rfl _ _ w.heap.size 44 _ (0, 0) _ rfl hput.1 Tryd.underlying44 rfl (by kernel_rfl)) rfl ?_
        refine ⟨⟨root, pkg, name, init, stamp, L⟩, _, _, rfl, Own.keep ho4 (fun b hb => hput.2.block b ?_ ?_), hll, HLS.out, hpk, hnm, hr4.grown hput.2 (by intro b hb; injection hb with hb; omega), by omega, grown_fresh gg4 hput.2 (Nat.le_refl _)⟩
        · have := (hob b hb).2; omega
        · intro q; injection q with q; have := (hob b hb).1; omega
theorem DrawModuleOf_any {lo hi : Nat} (v : Value) (L : List UInt8) (w : World) (hv : SlR w lo hi 1 eB v L) (hhi : hi ≤ w.heap.size) (hl : L.length ≤ 1048576) :
    Calls Tryd.prog 43 #[v] w fun e w' => ∃ f : Fil, ∃ u, e = .returned (vF (f, u)) ∧ SlR w' w.heap.size w'.heap.size 5 eSt u f.body ∧ (∀ s ∈ f.body, s.mod.size ≤ 5 ∧ s.name.size ≤ 5) ∧ f.pkg.size ≤ 7 ∧ f.name.size ≤ 1 ∧ Gr w w' := by
  have hr0 := fun o => newReader_any v L (w.alloc o) (hv.below (gr_al w o) hhi) (by simp; omega) hl
  have HR0 := Lib.hid hr0
  clear hr0
  go_enter Tryd.func43, Tryd.ntmps43
  go_wp2_with fail
  refine (HR0.out _).mono ?_
  rintro e w1 ⟨rfl, hr, hsz, hb⟩
  have hsz' : w1.heap.size = w.heap.size + 1 + 1 := by rw [hsz]; simp
  have hz1 := (hb.block w.heap.size (by simp)).trans (heap_alloc_new w _)
  have hg1 : Gr w w1 := (gr_al w _).tr hb
  simp only [World.size_alloc] at hr
  go_wp2_with fail
  refine (anyFile_any (w.heap.size + 1) 0 w1 hr (by omega)).mono ?_
  rintro e w2 ⟨f, v2, p2, rfl, ho2, hll, hls, hpk, hnm, hr2, hp2, hg2⟩
  obtain ⟨va, vc, rfl, _, _⟩ := ho2.form
  have hob := ho2.block
  have hz2 := keep_blk hz1 hg2 (by omega)
  have hl2 := hg2.size
  obtain ⟨⟨a0, a1, a2, a3, a4, a5⟩, b0, b1, b2, b3, b4, b5⟩ := rows6 hz2
  have HZ := Lib.hid hz2
  have HLS := Lib.hid hls
  clear hz1 hz2 hls
  go_wp2
  have hput := put6 HZ.out (.int .i64 f.root) (.string f.pkg) (.string f.name) (.bool f.init) (.int .i64 f.stamp) (.slice va f.body.length vc)
  refine bodyPost_ret (results_cell_row rfl _ _ w.heap.size 44 _ (0, 0) _ rfl hput.1 Tryd.underlying44 rfl (by kernel_rfl)) rfl ?_
  have ho3 : Own _ w1.heap.size 161 5 eSt _ f.body := Own.keep ho2 (fun b hb => hput.2.block b (hob b hb).2 (by intro q; injection q with q; have := (hob b hb).1; omega))
  refine ⟨f, _, rfl, (ho3.reads (fun _ _ => rfl)).mono (by omega) (Nat.le_refl _), HLS.out, hpk, hnm, ?_⟩
  exact (hg1.grown hg2 (by omega) (fun b hb => by injection hb with hb; omega)).grown hput.2 (by omega) (fun b hb => by injection hb with hb; omega)
set_option maxHeartbeats 3200000 in
theorem walk_FnModuleOf (w : World) (hok : OkW w) (v : Value) (L : List UInt8) (hv : SlR w 0 w.heap.size 1 eB v L) :
    Calls Tryd.prog 9 #[v] w fun e w' => e = .returned (.bool true) ∧ Below w.heap.size w w' := by
  have hlen := hv.len_le
  have hv0 := hv
  obtain ⟨a, c, rfl, _, _⟩ := hv.form
  unfold maxLen at hlen
  by_cases hbig : L.length ≤ 1048576
  · have hd : decide ((1048576 : Int) < (L.length : Int)) = false := decide_eq_false (by omega)
    go_enter Tryd.func9, Tryd.ntmps9
    go_wp2_with fail
    refine (DrawModuleOf_any _ L _ hv0 (Nat.le_refl _) hbig).mono ?_
    rintro e w1 ⟨f, u, rfl, hu, hms, hpk, hnm, hb1⟩
    obtain ⟨ua, uc, rfl, _, _⟩ := hu.form
    have hok := hok.gr hb1
    have hst : ∀ s ∈ f.body, szSt s ≤ 16777216 := fun s hs => by obtain ⟨h1, h2⟩ := hms s hs; unfold szSt; omega
    have hX := heap_alloc_new w1 (.cells #[.int .i64 f.root, .string f.pkg, .string f.name, .bool f.init, .int .i64 f.stamp, .slice ua f.body.length uc] 44)
    have hgX := gr_al w1 (.cells #[.int .i64 f.root, .string f.pkg, .string f.name, .bool f.init, .int .i64 f.stamp, .slice ua f.body.length uc] 44)
    have h1 := fun W (h : Gr w1 W) k => sModuleOf_any (f, .slice ua f.body.length uc) W k (SlR.below hu h (Nat.le_refl _)) h.size (by show f.pkg.size ≤ _; omega) (by show f.name.size ≤ _; omega) hst
    have h2 := fun W (h : Gr w1 W) k => iModuleOf_any (f, .slice ua f.body.length uc) W k (SlR.below hu h (Nat.le_refl _)) h.size (by show f.pkg.size ≤ _; omega) (by show f.name.size ≤ _; omega) hst
    simp only at h1 h2
    obtain ⟨R, hR⟩ : ∃ R, R = mk (fMod f) := ⟨_, rfl⟩
    rw [← hR] at h1 h2
    have hRb : bs R = fMod f := by rw [hR]
    have hRe := emp_of hRb
    have q1 := beq_same R
    have q2 := bne_same R
    have H1 := Lib.hid h1
    have H2 := Lib.hid h2
    have HX := Lib.hid hX
    clear h1 h2 hX hst hms hu
    have hgr := hb1.tr hgX
    by_cases hF : okFil f = true
    · have hm := fMod_ok hF
      have hnn := nameP_name hF
      rw [← hm, ← hRb] at hnn
      have hRs : R.size ≤ 11 := by have := vName_length hnn; rw [bs_length] at this; exact this
      rw [← hRb, emp_false (vName_ne hnn)] at hRe
      have h3 := fun w h => iValidName_any R w (by omega) h
      rw [hnn] at h3
      have H3 := Lib.hid h3
      have hpar : f.init = false → ∀ w, OkW w → Calls Tryd.prog 24 #[.string R] w fun e w' => e = .returned (.string f.pkg) ∧ Gr w w' := by
        intro hi w h
        have := iParentOf_any R w (by omega) h
        have e : fParent (bs R) = bs f.pkg := by
          rw [fParent, hnn, if_pos rfl, hRb, hm]
          unfold nameP
          rw [hi]
          exact (parent_child (part_of_ok hF hi)).1
        rwa [e, mk_bs] at this
      have hlas : f.init = false → ∀ w, OkW w → Calls Tryd.prog 44 #[.string R] w fun e w' => e = .returned (.string f.name) ∧ Gr w w' := by
        intro hi w h
        have := iLastOf_any R w (by omega) h
        have e : fLast (bs R) = bs f.name := by
          rw [fLast, hnn, if_pos rfl, hRb, hm]
          unfold nameP
          rw [hi]
          exact (parent_child (part_of_ok hF hi)).2
        rwa [e, mk_bs] at this
      have hini : f.init = true → R = f.pkg := by
        intro hi
        rw [hR, hm]
        unfold nameP
        rw [hi]
        exact mk_bs f.pkg
      have HPAR := Lib.hid hpar
      have HLAS := Lib.hid hlas
      have HINI := Lib.hid hini
      clear h3 hpar hlas hini hm hRb hR hF hnn
      go_wp2_with fail
      refine (H2.out _ hgX (hok.gr hgX)).mono ?_
      rintro e w2 ⟨rfl, hb2⟩
      obtain ⟨c0, c1, c2, c3, c4, c5⟩ := cells6 HX.out hb2
      go_wp2_with fail
      refine (H1.out _ (hgX.tr hb2) (hok.gr (hgX.tr hb2))).mono ?_
      rintro e w3 ⟨rfl, hb3⟩
      clear c0 c1 c2 c3 c4 c5
      have hgX3 := (hgX.tr hb2).tr hb3
      have hok3 := hok.gr hgX3
      have hg3 := hb1.tr hgX3
      have hall : ∀ W, Gr w3 W → Gr w3 W ∧ OkW W ∧ (W.cell? ⟨w1.heap.size, 0, none⟩ = some (.int .i64 f.root) ∧ W.cell? ⟨w1.heap.size, 1, none⟩ = some (.string f.pkg) ∧ W.cell? ⟨w1.heap.size, 2, none⟩ = some (.string f.name) ∧ W.cell? ⟨w1.heap.size, 3, none⟩ = some (.bool f.init) ∧ W.cell? ⟨w1.heap.size, 4, none⟩ = some (.int .i64 f.stamp) ∧ W.cell? ⟨w1.heap.size, 5, none⟩ = some (.slice ua f.body.length uc)) :=
        fun W h => ⟨h, hok3.gr h, cells6 HX.out ((hb2.tr hb3).tr h)⟩
      have hp1 := beq_same f.pkg
      have hp2 := beq_same f.name
      have HALL := Lib.hid hall
      clear hall
      obtain ⟨root, pkg, name, init, stamp, body⟩ := f
      simp only at HALL HPAR HLAS HINI hp1 hp2
      cases init
      · go_wp2
        refine wp_region_held_drew (S := (fun W => Gr w3 W ∧ OkW W ∧ (W.cell? ⟨w1.heap.size, 0, none⟩ = some (.int .i64 root) ∧ W.cell? ⟨w1.heap.size, 1, none⟩ = some (.string pkg) ∧ W.cell? ⟨w1.heap.size, 2, none⟩ = some (.string name) ∧ W.cell? ⟨w1.heap.size, 3, none⟩ = some (.bool false) ∧ W.cell? ⟨w1.heap.size, 4, none⟩ = some (.int .i64 stamp) ∧ W.cell? ⟨w1.heap.size, 5, none⟩ = some (.slice ua body.length uc)))) (by kernel_rfl) (HALL.out _ (below_drewN (Gr.rfl' w3) 1)) (fun hS0 => ?_)
        refine wpAnyH_take (i := 0) (v := ?_) rfl (by kernel_rfl) (by kernel_rfl) (by kernel_rfl) (fun _ _ _ h => h) (Or.inl ⟨by rfl, ?_⟩) hS0 ?_
        rotate_left
        · (intro W hSw; (try dsimp only at hSw); go_simp; try (with_reducible rfl))
        try simp only [Act.put, List.getElem_toArray, List.getElem_cons_succ, List.getElem_cons_zero, List.setIfInBounds_toArray, List.set_cons_zero, List.set_cons_succ]
        refine wpAnyH_ready (rs := [1]) (by kernel_rfl) (by simp) ?_
        refine AllReadyH.cons rfl (fun K hK => ?_) AllReadyH.nil
        go_simp
        refine (H3.out _ hS0.2.1).mono ?_
        rintro e w4 ⟨rfl, hb4⟩
        try go_wp2_with fail
        refine hK.out _ _ (HALL.out _ (hS0.1.tr hb4)) (fun hS1 => ?_)
        clear hK K
        try simp only [Act.put, List.getElem_toArray, List.getElem_cons_succ, List.getElem_cons_zero, List.setIfInBounds_toArray, List.set_cons_zero, List.set_cons_succ]
        refine wpAnyH_take (i := 2) (v := ?_) rfl (by kernel_rfl) (by kernel_rfl) (by kernel_rfl) (fun _ _ _ h => h) (Or.inl ⟨by rfl, ?_⟩) hS1 ?_
        rotate_left
        · (intro W hSw; (try dsimp only at hSw); go_simp; try (with_reducible rfl))
        try simp only [Act.put, List.getElem_toArray, List.getElem_cons_succ, List.getElem_cons_zero, List.setIfInBounds_toArray, List.set_cons_zero, List.set_cons_succ]
        refine wpAnyH_take (i := 3) (v := ?_) rfl (by kernel_rfl) (by kernel_rfl) (by kernel_rfl) (fun _ _ _ h => h) (Or.inl ⟨by rfl, ?_⟩) hS1 ?_
        rotate_left
        · (intro W hSw; (try dsimp only at hSw); go_simp; try (with_reducible rfl))
        try simp only [Act.put, List.getElem_toArray, List.getElem_cons_succ, List.getElem_cons_zero, List.setIfInBounds_toArray, List.set_cons_zero, List.set_cons_succ]
        refine wpAnyH_take (i := 4) (v := ?_) rfl (by kernel_rfl) (by kernel_rfl) (by kernel_rfl) (fun _ _ _ h => h) (Or.inl ⟨by rfl, ?_⟩) hS1 ?_
        rotate_left
        · (intro W hSw; (try dsimp only at hSw); go_simp; try (with_reducible rfl))
        try simp only [Act.put, List.getElem_toArray, List.getElem_cons_succ, List.getElem_cons_zero, List.setIfInBounds_toArray, List.set_cons_zero, List.set_cons_succ]
        refine wpAnyH_take (i := 5) (v := ?_) rfl (by kernel_rfl) (by kernel_rfl) (by kernel_rfl) (fun _ _ _ h => h) (Or.inl ⟨by rfl, ?_⟩) hS1 ?_
        rotate_left
        · (intro W hSw; (try dsimp only at hSw); go_simp; try (with_reducible rfl))
        try simp only [Act.put, List.getElem_toArray, List.getElem_cons_succ, List.getElem_cons_zero, List.setIfInBounds_toArray, List.set_cons_zero, List.set_cons_succ]
        refine wpAnyH_take (i := 6) (v := undef) rfl (by kernel_rfl) (by kernel_rfl) (by kernel_rfl) (fun _ _ _ h => h) (Or.inr ⟨by rfl, rfl⟩) hS1 ?_
        try simp only [Act.put, List.getElem_toArray, List.getElem_cons_succ, List.getElem_cons_zero, List.setIfInBounds_toArray, List.set_cons_zero, List.set_cons_succ]
        refine wpAnyH_take (i := 7) (v := undef) rfl (by kernel_rfl) (by kernel_rfl) (by kernel_rfl) (fun _ _ _ h => h) (Or.inr ⟨by rfl, rfl⟩) hS1 ?_
        try simp only [Act.put, List.getElem_toArray, List.getElem_cons_succ, List.getElem_cons_zero, List.setIfInBounds_toArray, List.set_cons_zero, List.set_cons_succ]
        refine wpAnyH_take (i := 8) (v := undef) rfl (by kernel_rfl) (by kernel_rfl) (by kernel_rfl) (fun _ _ _ h => h) (Or.inr ⟨by rfl, rfl⟩) hS1 ?_
        try simp only [Act.put, List.getElem_toArray, List.getElem_cons_succ, List.getElem_cons_zero, List.setIfInBounds_toArray, List.set_cons_zero, List.set_cons_succ]
        refine wpAnyH_take (i := 9) (v := undef) rfl (by kernel_rfl) (by kernel_rfl) (by kernel_rfl) (fun _ _ _ h => h) (Or.inr ⟨by rfl, rfl⟩) hS1 ?_
        try simp only [Act.put, List.getElem_toArray, List.getElem_cons_succ, List.getElem_cons_zero, List.setIfInBounds_toArray, List.set_cons_zero, List.set_cons_succ]
        refine wpAnyH_take (i := 10) (v := ?_) rfl (by kernel_rfl) (by kernel_rfl) (by kernel_rfl) (fun _ _ _ h => h) (Or.inl ⟨by rfl, ?_⟩) hS1 ?_
        rotate_left
        · (intro W hSw; (try dsimp only at hSw); go_simp; try (with_reducible rfl))
        try simp only [Act.put, List.getElem_toArray, List.getElem_cons_succ, List.getElem_cons_zero, List.setIfInBounds_toArray, List.set_cons_zero, List.set_cons_succ]
        refine wpAnyH_take (i := 11) (v := ?_) rfl (by kernel_rfl) (by kernel_rfl) (by kernel_rfl) (fun _ _ _ h => h) (Or.inl ⟨by rfl, ?_⟩) hS1 ?_
        rotate_left
        · (intro W hSw; (try dsimp only at hSw); go_simp; try (with_reducible rfl))
        try simp only [Act.put, List.getElem_toArray, List.getElem_cons_succ, List.getElem_cons_zero, List.setIfInBounds_toArray, List.set_cons_zero, List.set_cons_succ]
        refine wpAnyH_take (i := 12) (v := ?_) rfl (by kernel_rfl) (by kernel_rfl) (by kernel_rfl) (fun _ _ _ h => h) (Or.inl ⟨by rfl, ?_⟩) hS1 ?_
        rotate_left
        · (intro W hSw; (try dsimp only at hSw); go_simp; try (with_reducible rfl))
        try simp only [Act.put, List.getElem_toArray, List.getElem_cons_succ, List.getElem_cons_zero, List.setIfInBounds_toArray, List.set_cons_zero, List.set_cons_succ]
        refine wpAnyH_take (i := 13) (v := ?_) rfl (by kernel_rfl) (by kernel_rfl) (by kernel_rfl) (fun _ _ _ h => h) (Or.inl ⟨by rfl, ?_⟩) hS1 ?_
        rotate_left
        · (intro W hSw; (try dsimp only at hSw); go_simp; try (with_reducible rfl))
        try simp only [Act.put, List.getElem_toArray, List.getElem_cons_succ, List.getElem_cons_zero, List.setIfInBounds_toArray, List.set_cons_zero, List.set_cons_succ]
        refine wpAnyH_take (i := 14) (v := ?_) rfl (by kernel_rfl) (by kernel_rfl) (by kernel_rfl) (fun _ _ _ h => h) (Or.inl ⟨by rfl, ?_⟩) hS1 ?_
        rotate_left
        · (intro W hSw; (try dsimp only at hSw); go_simp; try (with_reducible rfl))
        try simp only [Act.put, List.getElem_toArray, List.getElem_cons_succ, List.getElem_cons_zero, List.setIfInBounds_toArray, List.set_cons_zero, List.set_cons_succ]
        refine wpAnyH_take (i := 15) (v := ?_) rfl (by kernel_rfl) (by kernel_rfl) (by kernel_rfl) (fun _ _ _ h => h) (Or.inl ⟨by rfl, ?_⟩) hS1 ?_
        rotate_left
        · (intro W hSw; (try dsimp only at hSw); go_simp; try (with_reducible rfl))
        try simp only [Act.put, List.getElem_toArray, List.getElem_cons_succ, List.getElem_cons_zero, List.setIfInBounds_toArray, List.set_cons_zero, List.set_cons_succ]
        refine wpAnyH_take (i := 16) (v := ?_) rfl (by kernel_rfl) (by kernel_rfl) (by kernel_rfl) (fun _ _ _ h => h) (Or.inl ⟨by rfl, ?_⟩) hS1 ?_
        rotate_left
        · (intro W hSw; (try dsimp only at hSw); go_simp; try (with_reducible rfl))
        try simp only [Act.put, List.getElem_toArray, List.getElem_cons_succ, List.getElem_cons_zero, List.setIfInBounds_toArray, List.set_cons_zero, List.set_cons_succ]
        refine wpAnyH_take (i := 18) (v := ?_) rfl (by kernel_rfl) (by kernel_rfl) (by kernel_rfl) (fun _ _ _ h => h) (Or.inl ⟨by rfl, ?_⟩) hS1 ?_
        rotate_left
        · (intro W hSw; (try dsimp only at hSw); go_simp; try (with_reducible rfl))
        try simp only [Act.put, List.getElem_toArray, List.getElem_cons_succ, List.getElem_cons_zero, List.setIfInBounds_toArray, List.set_cons_zero, List.set_cons_succ]
        refine wpAnyH_take (i := 19) (v := ?_) rfl (by kernel_rfl) (by kernel_rfl) (by kernel_rfl) (fun _ _ _ h => h) (Or.inl ⟨by rfl, ?_⟩) hS1 ?_
        rotate_left
        · (intro W hSw; (try dsimp only at hSw); go_simp; try (with_reducible rfl))
        try simp only [Act.put, List.getElem_toArray, List.getElem_cons_succ, List.getElem_cons_zero, List.setIfInBounds_toArray, List.set_cons_zero, List.set_cons_succ]
        refine wpAnyH_ready (rs := [17]) (by kernel_rfl) (by simp) ?_
        refine AllReadyH.cons rfl (fun K hK => ?_) AllReadyH.nil
        go_simp
        refine (HPAR.out (by simp) _ hS1.2.1).mono ?_
        rintro e w5 ⟨rfl, hb5⟩
        try go_wp2_with fail
        refine hK.out _ _ (HALL.out _ (hS1.1.tr hb5)) (fun hS2 => ?_)
        clear hK K
        try simp only [Act.put, List.getElem_toArray, List.getElem_cons_succ, List.getElem_cons_zero, List.setIfInBounds_toArray, List.set_cons_zero, List.set_cons_succ]
        refine wpAnyH_take (i := 20) (v := ?_) rfl (by kernel_rfl) (by kernel_rfl) (by kernel_rfl) (fun _ _ _ h => h) (Or.inl ⟨by rfl, ?_⟩) hS2 ?_
        rotate_left
        · (intro W hSw; (try dsimp only at hSw); go_simp; try (with_reducible rfl))
        try simp only [Act.put, List.getElem_toArray, List.getElem_cons_succ, List.getElem_cons_zero, List.setIfInBounds_toArray, List.set_cons_zero, List.set_cons_succ]
        refine wpAnyH_take (i := 21) (v := ?_) rfl (by kernel_rfl) (by kernel_rfl) (by kernel_rfl) (fun _ _ _ h => h) (Or.inl ⟨by rfl, ?_⟩) hS2 ?_
        rotate_left
        · (intro W hSw; (try dsimp only at hSw); go_simp; try (with_reducible rfl))
        try simp only [Act.put, List.getElem_toArray, List.getElem_cons_succ, List.getElem_cons_zero, List.setIfInBounds_toArray, List.set_cons_zero, List.set_cons_succ]
        refine wpAnyH_take (i := 22) (v := ?_) rfl (by kernel_rfl) (by kernel_rfl) (by kernel_rfl) (fun _ _ _ h => h) (Or.inl ⟨by rfl, ?_⟩) hS2 ?_
        rotate_left
        · (intro W hSw; (try dsimp only at hSw); go_simp; try (with_reducible rfl))
        try simp only [Act.put, List.getElem_toArray, List.getElem_cons_succ, List.getElem_cons_zero, List.setIfInBounds_toArray, List.set_cons_zero, List.set_cons_succ]
        refine wpAnyH_take (i := 23) (v := ?_) rfl (by kernel_rfl) (by kernel_rfl) (by kernel_rfl) (fun _ _ _ h => h) (Or.inl ⟨by rfl, ?_⟩) hS2 ?_
        rotate_left
        · (intro W hSw; (try dsimp only at hSw); go_simp; try (with_reducible rfl))
        try simp only [Act.put, List.getElem_toArray, List.getElem_cons_succ, List.getElem_cons_zero, List.setIfInBounds_toArray, List.set_cons_zero, List.set_cons_succ]
        refine wpAnyH_take (i := 25) (v := ?_) rfl (by kernel_rfl) (by kernel_rfl) (by kernel_rfl) (fun _ _ _ h => h) (Or.inl ⟨by rfl, ?_⟩) hS2 ?_
        rotate_left
        · (intro W hSw; (try dsimp only at hSw); go_simp; try (with_reducible rfl))
        try simp only [Act.put, List.getElem_toArray, List.getElem_cons_succ, List.getElem_cons_zero, List.setIfInBounds_toArray, List.set_cons_zero, List.set_cons_succ]
        refine wpAnyH_take (i := 26) (v := ?_) rfl (by kernel_rfl) (by kernel_rfl) (by kernel_rfl) (fun _ _ _ h => h) (Or.inl ⟨by rfl, ?_⟩) hS2 ?_
        rotate_left
        · (intro W hSw; (try dsimp only at hSw); go_simp; try (with_reducible rfl))
        try simp only [Act.put, List.getElem_toArray, List.getElem_cons_succ, List.getElem_cons_zero, List.setIfInBounds_toArray, List.set_cons_zero, List.set_cons_succ]
        refine wpAnyH_ready (rs := [24]) (by kernel_rfl) (by simp) ?_
        refine AllReadyH.cons rfl (fun K hK => ?_) AllReadyH.nil
        go_simp
        refine (HLAS.out (by simp) _ hS2.2.1).mono ?_
        rintro e w6 ⟨rfl, hb6⟩
        try go_wp2_with fail
        refine hK.out _ _ (HALL.out _ (hS2.1.tr hb6)) (fun hS3 => ?_)
        clear hK K
        try simp only [Act.put, List.getElem_toArray, List.getElem_cons_succ, List.getElem_cons_zero, List.setIfInBounds_toArray, List.set_cons_zero, List.set_cons_succ]
        refine wpAnyH_take (i := 27) (v := ?_) rfl (by kernel_rfl) (by kernel_rfl) (by kernel_rfl) (fun _ _ _ h => h) (Or.inl ⟨by rfl, ?_⟩) hS3 ?_
        rotate_left
        · (intro W hSw; (try dsimp only at hSw); go_simp; try (with_reducible rfl))
        try simp only [Act.put, List.getElem_toArray, List.getElem_cons_succ, List.getElem_cons_zero, List.setIfInBounds_toArray, List.set_cons_zero, List.set_cons_succ]
        refine wpAnyH_take (i := 28) (v := ?_) rfl (by kernel_rfl) (by kernel_rfl) (by kernel_rfl) (fun _ _ _ h => h) (Or.inl ⟨by rfl, ?_⟩) hS3 ?_
        rotate_left
        · (intro W hSw; (try dsimp only at hSw); go_simp; try (with_reducible rfl))
        try simp only [Act.put, List.getElem_toArray, List.getElem_cons_succ, List.getElem_cons_zero, List.setIfInBounds_toArray, List.set_cons_zero, List.set_cons_succ]
        refine wpAnyH_take (i := 29) (v := ?_) rfl (by kernel_rfl) (by kernel_rfl) (by kernel_rfl) (fun _ _ _ h => h) (Or.inl ⟨by rfl, ?_⟩) hS3 ?_
        rotate_left
        · (intro W hSw; (try dsimp only at hSw); go_simp; try (with_reducible rfl))
        try simp only [Act.put, List.getElem_toArray, List.getElem_cons_succ, List.getElem_cons_zero, List.setIfInBounds_toArray, List.set_cons_zero, List.set_cons_succ]
        refine wpAnyH_take (i := 30) (v := ?_) rfl (by kernel_rfl) (by kernel_rfl) (by kernel_rfl) (fun _ _ _ h => h) (Or.inl ⟨by rfl, ?_⟩) hS3 ?_
        rotate_left
        · (intro W hSw; (try dsimp only at hSw); go_simp; try (with_reducible rfl))
        try simp only [Act.put, List.getElem_toArray, List.getElem_cons_succ, List.getElem_cons_zero, List.setIfInBounds_toArray, List.set_cons_zero, List.set_cons_succ]
        refine wpAnyH_take (i := 31) (v := ?_) rfl (by kernel_rfl) (by kernel_rfl) (by kernel_rfl) (fun _ _ _ h => h) (Or.inl ⟨by rfl, ?_⟩) hS3 ?_
        rotate_left
        · (intro W hSw; (try dsimp only at hSw); go_simp; try (with_reducible rfl))
        try simp only [Act.put, List.getElem_toArray, List.getElem_cons_succ, List.getElem_cons_zero, List.setIfInBounds_toArray, List.set_cons_zero, List.set_cons_succ]
        refine wpAnyH_done (by kernel_rfl) ?_ _
        go_wp2
        go_ret
        exact ⟨rfl, hg3.tr hS3.1⟩
      · have hini := HINI.out (by simp)
        subst hini
        go_wp2
        refine wp_region_held_drew (S := (fun W => Gr w3 W ∧ OkW W ∧ (W.cell? ⟨w1.heap.size, 0, none⟩ = some (.int .i64 root) ∧ W.cell? ⟨w1.heap.size, 1, none⟩ = some (.string R) ∧ W.cell? ⟨w1.heap.size, 2, none⟩ = some (.string name) ∧ W.cell? ⟨w1.heap.size, 3, none⟩ = some (.bool true) ∧ W.cell? ⟨w1.heap.size, 4, none⟩ = some (.int .i64 stamp) ∧ W.cell? ⟨w1.heap.size, 5, none⟩ = some (.slice ua body.length uc)))) (by kernel_rfl) (HALL.out _ (below_drewN (Gr.rfl' w3) 1)) (fun hS0 => ?_)
        refine wpAnyH_take (i := 0) (v := ?_) rfl (by kernel_rfl) (by kernel_rfl) (by kernel_rfl) (fun _ _ _ h => h) (Or.inl ⟨by rfl, ?_⟩) hS0 ?_
        rotate_left
        · (intro W hSw; (try dsimp only at hSw); go_simp; try (with_reducible rfl))
        try simp only [Act.put, List.getElem_toArray, List.getElem_cons_succ, List.getElem_cons_zero, List.setIfInBounds_toArray, List.set_cons_zero, List.set_cons_succ]
        refine wpAnyH_ready (rs := [1]) (by kernel_rfl) (by simp) ?_
        refine AllReadyH.cons rfl (fun K hK => ?_) AllReadyH.nil
        go_simp
        refine (H3.out _ hS0.2.1).mono ?_
        rintro e w4 ⟨rfl, hb4⟩
        try go_wp2_with fail
        refine hK.out _ _ (HALL.out _ (hS0.1.tr hb4)) (fun hS1 => ?_)
        clear hK K
        try simp only [Act.put, List.getElem_toArray, List.getElem_cons_succ, List.getElem_cons_zero, List.setIfInBounds_toArray, List.set_cons_zero, List.set_cons_succ]
        refine wpAnyH_take (i := 2) (v := ?_) rfl (by kernel_rfl) (by kernel_rfl) (by kernel_rfl) (fun _ _ _ h => h) (Or.inl ⟨by rfl, ?_⟩) hS1 ?_
        rotate_left
        · (intro W hSw; (try dsimp only at hSw); go_simp; try (with_reducible rfl))
        try simp only [Act.put, List.getElem_toArray, List.getElem_cons_succ, List.getElem_cons_zero, List.setIfInBounds_toArray, List.set_cons_zero, List.set_cons_succ]
        refine wpAnyH_take (i := 3) (v := ?_) rfl (by kernel_rfl) (by kernel_rfl) (by kernel_rfl) (fun _ _ _ h => h) (Or.inl ⟨by rfl, ?_⟩) hS1 ?_
        rotate_left
        · (intro W hSw; (try dsimp only at hSw); go_simp; try (with_reducible rfl))
        try simp only [Act.put, List.getElem_toArray, List.getElem_cons_succ, List.getElem_cons_zero, List.setIfInBounds_toArray, List.set_cons_zero, List.set_cons_succ]
        refine wpAnyH_take (i := 4) (v := ?_) rfl (by kernel_rfl) (by kernel_rfl) (by kernel_rfl) (fun _ _ _ h => h) (Or.inl ⟨by rfl, ?_⟩) hS1 ?_
        rotate_left
        · (intro W hSw; (try dsimp only at hSw); go_simp; try (with_reducible rfl))
        try simp only [Act.put, List.getElem_toArray, List.getElem_cons_succ, List.getElem_cons_zero, List.setIfInBounds_toArray, List.set_cons_zero, List.set_cons_succ]
        refine wpAnyH_take (i := 5) (v := ?_) rfl (by kernel_rfl) (by kernel_rfl) (by kernel_rfl) (fun _ _ _ h => h) (Or.inl ⟨by rfl, ?_⟩) hS1 ?_
        rotate_left
        · (intro W hSw; (try dsimp only at hSw); go_simp; try (with_reducible rfl))
        try simp only [Act.put, List.getElem_toArray, List.getElem_cons_succ, List.getElem_cons_zero, List.setIfInBounds_toArray, List.set_cons_zero, List.set_cons_succ]
        refine wpAnyH_take (i := 6) (v := ?_) rfl (by kernel_rfl) (by kernel_rfl) (by kernel_rfl) (fun _ _ _ h => h) (Or.inl ⟨by rfl, ?_⟩) hS1 ?_
        rotate_left
        · (intro W hSw; (try dsimp only at hSw); go_simp; try (with_reducible rfl))
        try simp only [Act.put, List.getElem_toArray, List.getElem_cons_succ, List.getElem_cons_zero, List.setIfInBounds_toArray, List.set_cons_zero, List.set_cons_succ]
        refine wpAnyH_take (i := 7) (v := ?_) rfl (by kernel_rfl) (by kernel_rfl) (by kernel_rfl) (fun _ _ _ h => h) (Or.inl ⟨by rfl, ?_⟩) hS1 ?_
        rotate_left
        · (intro W hSw; (try dsimp only at hSw); go_simp; try (with_reducible rfl))
        try simp only [Act.put, List.getElem_toArray, List.getElem_cons_succ, List.getElem_cons_zero, List.setIfInBounds_toArray, List.set_cons_zero, List.set_cons_succ]
        refine wpAnyH_take (i := 8) (v := ?_) rfl (by kernel_rfl) (by kernel_rfl) (by kernel_rfl) (fun _ _ _ h => h) (Or.inl ⟨by rfl, ?_⟩) hS1 ?_
        rotate_left
        · (intro W hSw; (try dsimp only at hSw); go_simp; try (with_reducible rfl))
        try simp only [Act.put, List.getElem_toArray, List.getElem_cons_succ, List.getElem_cons_zero, List.setIfInBounds_toArray, List.set_cons_zero, List.set_cons_succ]
        refine wpAnyH_take (i := 9) (v := ?_) rfl (by kernel_rfl) (by kernel_rfl) (by kernel_rfl) (fun _ _ _ h => h) (Or.inl ⟨by rfl, ?_⟩) hS1 ?_
        rotate_left
        · (intro W hSw; (try dsimp only at hSw); go_simp; try (with_reducible rfl))
        try simp only [Act.put, List.getElem_toArray, List.getElem_cons_succ, List.getElem_cons_zero, List.setIfInBounds_toArray, List.set_cons_zero, List.set_cons_succ]
        refine wpAnyH_take (i := 10) (v := ?_) rfl (by kernel_rfl) (by kernel_rfl) (by kernel_rfl) (fun _ _ _ h => h) (Or.inl ⟨by rfl, ?_⟩) hS1 ?_
        rotate_left
        · (intro W hSw; (try dsimp only at hSw); go_simp; try (with_reducible rfl))
        try simp only [Act.put, List.getElem_toArray, List.getElem_cons_succ, List.getElem_cons_zero, List.setIfInBounds_toArray, List.set_cons_zero, List.set_cons_succ]
        refine wpAnyH_take (i := 11) (v := ?_) rfl (by kernel_rfl) (by kernel_rfl) (by kernel_rfl) (fun _ _ _ h => h) (Or.inl ⟨by rfl, ?_⟩) hS1 ?_
        rotate_left
        · (intro W hSw; (try dsimp only at hSw); go_simp; try (with_reducible rfl))
        try simp only [Act.put, List.getElem_toArray, List.getElem_cons_succ, List.getElem_cons_zero, List.setIfInBounds_toArray, List.set_cons_zero, List.set_cons_succ]
        refine wpAnyH_take (i := 12) (v := undef) rfl (by kernel_rfl) (by kernel_rfl) (by kernel_rfl) (fun _ _ _ h => h) (Or.inr ⟨by rfl, rfl⟩) hS1 ?_
        try simp only [Act.put, List.getElem_toArray, List.getElem_cons_succ, List.getElem_cons_zero, List.setIfInBounds_toArray, List.set_cons_zero, List.set_cons_succ]
        refine wpAnyH_take (i := 13) (v := undef) rfl (by kernel_rfl) (by kernel_rfl) (by kernel_rfl) (fun _ _ _ h => h) (Or.inr ⟨by rfl, rfl⟩) hS1 ?_
        try simp only [Act.put, List.getElem_toArray, List.getElem_cons_succ, List.getElem_cons_zero, List.setIfInBounds_toArray, List.set_cons_zero, List.set_cons_succ]
        refine wpAnyH_take (i := 14) (v := undef) rfl (by kernel_rfl) (by kernel_rfl) (by kernel_rfl) (fun _ _ _ h => h) (Or.inr ⟨by rfl, rfl⟩) hS1 ?_
        try simp only [Act.put, List.getElem_toArray, List.getElem_cons_succ, List.getElem_cons_zero, List.setIfInBounds_toArray, List.set_cons_zero, List.set_cons_succ]
        refine wpAnyH_take (i := 15) (v := undef) rfl (by kernel_rfl) (by kernel_rfl) (by kernel_rfl) (fun _ _ _ h => h) (Or.inr ⟨by rfl, rfl⟩) hS1 ?_
        try simp only [Act.put, List.getElem_toArray, List.getElem_cons_succ, List.getElem_cons_zero, List.setIfInBounds_toArray, List.set_cons_zero, List.set_cons_succ]
        refine wpAnyH_take (i := 16) (v := undef) rfl (by kernel_rfl) (by kernel_rfl) (by kernel_rfl) (fun _ _ _ h => h) (Or.inr ⟨by rfl, rfl⟩) hS1 ?_
        try simp only [Act.put, List.getElem_toArray, List.getElem_cons_succ, List.getElem_cons_zero, List.setIfInBounds_toArray, List.set_cons_zero, List.set_cons_succ]
        refine wpAnyH_take (i := 17) (v := undef) rfl (by kernel_rfl) (by kernel_rfl) (by kernel_rfl) (fun _ _ _ h => h) (Or.inr ⟨by rfl, rfl⟩) hS1 ?_
        try simp only [Act.put, List.getElem_toArray, List.getElem_cons_succ, List.getElem_cons_zero, List.setIfInBounds_toArray, List.set_cons_zero, List.set_cons_succ]
        refine wpAnyH_take (i := 18) (v := undef) rfl (by kernel_rfl) (by kernel_rfl) (by kernel_rfl) (fun _ _ _ h => h) (Or.inr ⟨by rfl, rfl⟩) hS1 ?_
        try simp only [Act.put, List.getElem_toArray, List.getElem_cons_succ, List.getElem_cons_zero, List.setIfInBounds_toArray, List.set_cons_zero, List.set_cons_succ]
        refine wpAnyH_take (i := 19) (v := undef) rfl (by kernel_rfl) (by kernel_rfl) (by kernel_rfl) (fun _ _ _ h => h) (Or.inr ⟨by rfl, rfl⟩) hS1 ?_
        try simp only [Act.put, List.getElem_toArray, List.getElem_cons_succ, List.getElem_cons_zero, List.setIfInBounds_toArray, List.set_cons_zero, List.set_cons_succ]
        refine wpAnyH_take (i := 20) (v := undef) rfl (by kernel_rfl) (by kernel_rfl) (by kernel_rfl) (fun _ _ _ h => h) (Or.inr ⟨by rfl, rfl⟩) hS1 ?_
        try simp only [Act.put, List.getElem_toArray, List.getElem_cons_succ, List.getElem_cons_zero, List.setIfInBounds_toArray, List.set_cons_zero, List.set_cons_succ]
        refine wpAnyH_take (i := 21) (v := undef) rfl (by kernel_rfl) (by kernel_rfl) (by kernel_rfl) (fun _ _ _ h => h) (Or.inr ⟨by rfl, rfl⟩) hS1 ?_
        try simp only [Act.put, List.getElem_toArray, List.getElem_cons_succ, List.getElem_cons_zero, List.setIfInBounds_toArray, List.set_cons_zero, List.set_cons_succ]
        refine wpAnyH_take (i := 22) (v := undef) rfl (by kernel_rfl) (by kernel_rfl) (by kernel_rfl) (fun _ _ _ h => h) (Or.inr ⟨by rfl, rfl⟩) hS1 ?_
        try simp only [Act.put, List.getElem_toArray, List.getElem_cons_succ, List.getElem_cons_zero, List.setIfInBounds_toArray, List.set_cons_zero, List.set_cons_succ]
        refine wpAnyH_take (i := 23) (v := undef) rfl (by kernel_rfl) (by kernel_rfl) (by kernel_rfl) (fun _ _ _ h => h) (Or.inr ⟨by rfl, rfl⟩) hS1 ?_
        try simp only [Act.put, List.getElem_toArray, List.getElem_cons_succ, List.getElem_cons_zero, List.setIfInBounds_toArray, List.set_cons_zero, List.set_cons_succ]
        refine wpAnyH_take (i := 24) (v := undef) rfl (by kernel_rfl) (by kernel_rfl) (by kernel_rfl) (fun _ _ _ h => h) (Or.inr ⟨by rfl, rfl⟩) hS1 ?_
        try simp only [Act.put, List.getElem_toArray, List.getElem_cons_succ, List.getElem_cons_zero, List.setIfInBounds_toArray, List.set_cons_zero, List.set_cons_succ]
        refine wpAnyH_take (i := 25) (v := undef) rfl (by kernel_rfl) (by kernel_rfl) (by kernel_rfl) (fun _ _ _ h => h) (Or.inr ⟨by rfl, rfl⟩) hS1 ?_
        try simp only [Act.put, List.getElem_toArray, List.getElem_cons_succ, List.getElem_cons_zero, List.setIfInBounds_toArray, List.set_cons_zero, List.set_cons_succ]
        refine wpAnyH_take (i := 26) (v := undef) rfl (by kernel_rfl) (by kernel_rfl) (by kernel_rfl) (fun _ _ _ h => h) (Or.inr ⟨by rfl, rfl⟩) hS1 ?_
        try simp only [Act.put, List.getElem_toArray, List.getElem_cons_succ, List.getElem_cons_zero, List.setIfInBounds_toArray, List.set_cons_zero, List.set_cons_succ]
        refine wpAnyH_take (i := 27) (v := undef) rfl (by kernel_rfl) (by kernel_rfl) (by kernel_rfl) (fun _ _ _ h => h) (Or.inr ⟨by rfl, rfl⟩) hS1 ?_
        try simp only [Act.put, List.getElem_toArray, List.getElem_cons_succ, List.getElem_cons_zero, List.setIfInBounds_toArray, List.set_cons_zero, List.set_cons_succ]
        refine wpAnyH_take (i := 28) (v := undef) rfl (by kernel_rfl) (by kernel_rfl) (by kernel_rfl) (fun _ _ _ h => h) (Or.inr ⟨by rfl, rfl⟩) hS1 ?_
        try simp only [Act.put, List.getElem_toArray, List.getElem_cons_succ, List.getElem_cons_zero, List.setIfInBounds_toArray, List.set_cons_zero, List.set_cons_succ]
        refine wpAnyH_take (i := 29) (v := ?_) rfl (by kernel_rfl) (by kernel_rfl) (by kernel_rfl) (fun _ _ _ h => h) (Or.inl ⟨by rfl, ?_⟩) hS1 ?_
        rotate_left
        · (intro W hSw; (try dsimp only at hSw); go_simp; try (with_reducible rfl))
        try simp only [Act.put, List.getElem_toArray, List.getElem_cons_succ, List.getElem_cons_zero, List.setIfInBounds_toArray, List.set_cons_zero, List.set_cons_succ]
        refine wpAnyH_take (i := 30) (v := ?_) rfl (by kernel_rfl) (by kernel_rfl) (by kernel_rfl) (fun _ _ _ h => h) (Or.inl ⟨by rfl, ?_⟩) hS1 ?_
        rotate_left
        · (intro W hSw; (try dsimp only at hSw); go_simp; try (with_reducible rfl))
        try simp only [Act.put, List.getElem_toArray, List.getElem_cons_succ, List.getElem_cons_zero, List.setIfInBounds_toArray, List.set_cons_zero, List.set_cons_succ]
        refine wpAnyH_take (i := 31) (v := ?_) rfl (by kernel_rfl) (by kernel_rfl) (by kernel_rfl) (fun _ _ _ h => h) (Or.inl ⟨by rfl, ?_⟩) hS1 ?_
        rotate_left
        · (intro W hSw; (try dsimp only at hSw); go_simp; try (with_reducible rfl))
        try simp only [Act.put, List.getElem_toArray, List.getElem_cons_succ, List.getElem_cons_zero, List.setIfInBounds_toArray, List.set_cons_zero, List.set_cons_succ]
        refine wpAnyH_done (by kernel_rfl) ?_ _
        go_wp2
        go_ret
        exact ⟨rfl, hg3.tr hS1.1⟩
    · have hF' : okFil f = false := (Bool.not_eq_true _).mp hF
      have hm := fMod_bad hF'
      rw [hm, List.isEmpty_nil] at hRe
      clear hm hRb hR hF hF'
      go_wp2_with fail
      refine (H2.out _ hgX (hok.gr hgX)).mono ?_
      rintro e w2 ⟨rfl, hb2⟩
      obtain ⟨c0, c1, c2, c3, c4, c5⟩ := cells6 HX.out hb2
      go_wp2_with fail
      refine (H1.out _ (hgX.tr hb2) (hok.gr (hgX.tr hb2))).mono ?_
      rintro e w3 ⟨rfl, hb3⟩
      clear c0 c1 c2 c3 c4 c5
      obtain ⟨c0, c1, c2, c3, c4, c5⟩ := cells6 HX.out (hb2.tr hb3)
      go_wp2_with fail
      refine (H1.out _ ((hgX.tr hb2).tr hb3) (hok.gr ((hgX.tr hb2).tr hb3))).mono ?_
      rintro e w4 ⟨rfl, hb4⟩
      go_wp2
      go_ret
      exact ⟨rfl, ((hgr.tr hb2).tr hb3).tr hb4⟩
  · go_enter Tryd.func9, Tryd.ntmps9
    go_wp2
    go_ret
    exact ⟨rfl, Below.refl _ _⟩
end Go.Proofs.YtipklobcfmcebaaDoor
