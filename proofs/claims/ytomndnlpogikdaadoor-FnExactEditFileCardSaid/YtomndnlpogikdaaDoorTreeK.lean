/-
  Walks: a file of a tree edited, both packages. Printed by treee.py.
-/
import Derived.Test.YtomndnlpogikdaaDoorTreeA
import Derived.Test.YtomndnlpogikdaaDoorTreeP
namespace Imp
open Go Go.RowKit
/-- Whether a tree can be edited so, and what it is then. -/
def okEdit (T : List Fil) (i : Int) (st : Int) (b : List Stm) : Bool := okTree T && (decide (0 ≤ i) && decide (i ≤ (T.length : Int) - 1)) && (decide (0 ≤ st) && decide (st ≤ 99)) && okBody b
def edited (T : List Fil) (i : Nat) (st : Int) (b : List Stm) : List Fil := T.take i ++ (T.drop i).head?.toList.map (fun f => editF f st b) ++ T.drop (i + 1)
theorem edited_at {A B : List Fil} {f : Fil} (st : Int) (b : List Stm) : edited (A ++ f :: B) A.length st b = A ++ editF f st b :: B := by
  unfold edited
  rw [List.take_left, List.drop_left, List.head?_cons, show A.length + 1 = (A ++ [f]).length by simp, show A ++ f :: B = (A ++ [f]) ++ B by simp, List.drop_left]
  simp
theorem split_map {M : List FR} {i : Nat} (h : i < M.length) : M = M.take i ++ M[i] :: M.drop (i + 1) := by
  rw [List.getElem_cons_drop, List.take_append_drop]
end Imp
namespace Go.Proofs.YtomndnlpogikdaaDoor
open Go Go.RowKit Imp
set_option linter.unusedVariables false
set_option linter.unusedSimpArgs false
set_option maxHeartbeats 3200000 in
theorem sEditFile_any {lo hi lo2 hi2 : Nat} (tv : Value) (L : List FR) (i st : Int) (bv : Value) (b : List Stm) (w : World) (hok : OkW w) (hv : FlR w lo hi tv L) (hhi : hi ≤ w.heap.size) (hf : SlR w lo2 hi2 5 eSt bv b) (hhi2 : hi2 ≤ w.heap.size)
    (hl : L.length ≤ 1048576) (hn : ∀ r ∈ L, r.1.body.length ≤ 1048576) (hfn : b.length ≤ 1048576) (hsm : ∀ r ∈ L, SmF r) (hsb : ∀ s ∈ b, szSt s ≤ 16777216) :
    Calls Tryd.prog 22 #[.agg #[tv], .int .i64 i, .int .i64 st, bv] w (DTb w (okEdit (L.map (·.1)) i st b) (edited (L.map (·.1)) i.toNat st b)) := by
  obtain ⟨ta, tc, rfl, htc, htc2⟩ := hv.1.form
  obtain ⟨ba, bc, rfl, _, _⟩ := hf.form
  have hg2 := gr_al2 w (.cells #[.slice ta L.length tc] 32) (.cells #[.slice none 0 0] 32)
  have hz1 : ((w.alloc (.cells #[.slice ta L.length tc] 32)).alloc (.cells #[.slice none 0 0] 32)).heap[w.heap.size + 1]? = some (.cells #[.slice none 0 0] 32) := heap_alloc2_new w _ _
  have hz0 : ((w.alloc (.cells #[.slice ta L.length tc] 32)).alloc (.cells #[.slice none 0 0] 32)).heap[w.heap.size]? = some (.cells #[.slice ta L.length tc] 32) := (Below.heap_alloc (w.alloc (.cells #[.slice ta L.length tc] 32)) (.cells #[.slice none 0 0] 32) w.heap.size (by simp)).trans (heap_alloc_new w (.cells #[.slice ta L.length tc] 32))
  have hct := fun W (h : Gr w W) => scopyTree_own (.slice ta L.length tc) L W (hv.below h hhi) (Nat.le_trans hhi h.size) hl hn
  have hvt := fun W (h : Gr w W) => svalidTree_any (.slice ta L.length tc) L W (hok.gr h) (hv.below h hhi) (Nat.le_trans hhi h.size) hsm
  have hrg := fun W => inRange_any i 0 ((L.length : Int) - 1) W
  have hw1 : IntKind.i64.wrap ((L.length : Int) - 1) = (L.length : Int) - 1 := IntWalk.i64_in _ (by omega)
  have hK : okEdit (L.map (·.1)) i st b = (okTree (L.map (·.1)) && (decide (0 ≤ i) && decide (i ≤ (L.length : Int) - 1)) && (decide (0 ≤ st) && decide (st ≤ 99)) && okBody b) := by unfold okEdit; rw [List.length_map]
  obtain ⟨Q, hQ⟩ : ∃ Q, okEdit (L.map (·.1)) i st b = Q := ⟨_, rfl⟩
  obtain ⟨R1, hR1⟩ : ∃ R1, okTree (L.map (·.1)) = R1 := ⟨_, rfl⟩
  obtain ⟨R2, hR2⟩ : ∃ R2, (decide (0 ≤ i) && decide (i ≤ (L.length : Int) - 1)) = R2 := ⟨_, rfl⟩
  obtain ⟨R3, hR3⟩ : ∃ R3, (decide (0 ≤ st) && decide (st ≤ 99)) = R3 := ⟨_, rfl⟩
  obtain ⟨R4, hR4⟩ : ∃ R4, okBody b = R4 := ⟨_, rfl⟩
  rw [hQ, hR1, hR2, hR3, hR4] at hK
  rw [hQ]
  simp only [hR1] at hvt
  simp only [hR2] at hrg
  have hst := fun W => inRange_any st 0 99 W
  have hvb := fun W (h : Gr w W) => svalidBody_any (.slice ba b.length bc) b W (SlR.below hf h hhi2) (Nat.le_trans hhi2 h.size) hsb (hok.gr h)
  simp only [hR3] at hst
  simp only [hR4] at hvb
  have H4 := Lib.hid hst
  have H5 := Lib.hid hvb
  clear hst hvb
  have H1 := Lib.hid hct
  have H2 := Lib.hid hvt
  have H3 := Lib.hid hrg
  have HK := Lib.hid hK
  have HZ0 := Lib.hid hz0
  have HZ1 := Lib.hid hz1
  have HF := Lib.hid hf
  have HSM := Lib.hid hsm
  have HR1 := Lib.hid hR1
  have HR2 := Lib.hid hR2
  have HR3 := Lib.hid hR3
  have HR4 := Lib.hid hR4
  obtain ⟨x0, _⟩ := row1 hz0
  clear hct hvt hrg hK hz0 hz1 hv hsm hn hQ hR1 hR2 hR3 hR4
  go_enter Tryd.func22, Tryd.ntmps22
  go_wp2_with fail
  refine (H2.out _ hg2).mono ?_
  rintro e w1 ⟨rfl, hb1⟩
  have hz0 := (hb1.block _ (lt_of_block HZ0.out)).trans HZ0.out
  have hz1 := (hb1.block _ (lt_of_block HZ1.out)).trans HZ1.out
  clear x0
  obtain ⟨x0, _⟩ := row1 hz0
  obtain ⟨x1, xf1⟩ := row1 hz1
  have hgw1 := hg2.tr hb1
  have HZ0b := Lib.hid hz0
  have HZ1b := Lib.hid hz1
  clear hz0 hz1
  cases R1
  · skip
    go_wp2
    refine bodyPost_ret (results_row_tmp rfl _ _ (w.heap.size + 1) 32 _ (0, 0) _ _ rfl rfl (heap_set1 HZ1b.out) Tryd.underlying32 rfl (by kernel_rfl)) rfl ?_
    have hq : Q = false := by rw [HK.out]; rfl
    subst hq
    exact ⟨_, [], rfl, rfl, OwnN.nil _ (Own.nil _ _ _ _ _), hgw1.setCell (by show w.heap.size ≤ w.heap.size + 1; omega) _⟩
  · go_wp2_with fail
    refine (H3.out _).mono ?_
    rintro e w' ⟨rfl, rfl⟩
    cases R2
    · skip
      go_wp2
      refine bodyPost_ret (results_row_tmp rfl _ _ (w.heap.size + 1) 32 _ (0, 0) _ _ rfl rfl (heap_set1 HZ1b.out) Tryd.underlying32 rfl (by kernel_rfl)) rfl ?_
      have hq : Q = false := by rw [HK.out]; rfl
      subst hq
      exact ⟨_, [], rfl, rfl, OwnN.nil _ (Own.nil _ _ _ _ _), hgw1.setCell (by show w.heap.size ≤ w.heap.size + 1; omega) _⟩
    · go_wp2_with fail
      refine (H4.out _).mono ?_
      rintro e w' ⟨rfl, rfl⟩
      cases R3
      · skip
        go_wp2
        refine bodyPost_ret (results_row_tmp rfl _ _ (w.heap.size + 1) 32 _ (0, 0) _ _ rfl rfl (heap_set1 HZ1b.out) Tryd.underlying32 rfl (by kernel_rfl)) rfl ?_
        have hq : Q = false := by rw [HK.out]; rfl
        subst hq
        exact ⟨_, [], rfl, rfl, OwnN.nil _ (Own.nil _ _ _ _ _), hgw1.setCell (by show w.heap.size ≤ w.heap.size + 1; omega) _⟩
      · go_wp2_with fail
        refine (H5.out _ hgw1).mono ?_
        rintro e w2 ⟨rfl, hb2⟩
        have hz0 := (hb2.block _ (lt_of_block HZ0b.out)).trans HZ0b.out
        have hz1 := (hb2.block _ (lt_of_block HZ1b.out)).trans HZ1b.out
        clear x0 x1 xf1
        obtain ⟨x0, _⟩ := row1 hz0
        obtain ⟨x1, xf1⟩ := row1 hz1
        have hgw2 := hgw1.tr hb2
        have HZ1c := Lib.hid hz1
        have HZ0c := Lib.hid hz0
        clear hz0 hz1
        cases R4
        · skip
          go_wp2
          refine bodyPost_ret (results_row_tmp rfl _ _ (w.heap.size + 1) 32 _ (0, 0) _ _ rfl rfl (heap_set1 HZ1c.out) Tryd.underlying32 rfl (by kernel_rfl)) rfl ?_
          have hq : Q = false := by rw [HK.out]; rfl
          subst hq
          exact ⟨_, [], rfl, rfl, OwnN.nil _ (Own.nil _ _ _ _ _), hgw2.setCell (by show w.heap.size ≤ w.heap.size + 1; omega) _⟩
        · have hq : Q = true := by rw [HK.out]; rfl
          subst hq
          have hR2 := HR2.out
          simp only [Bool.and_eq_true, decide_eq_true_eq] at hR2
          obtain ⟨hi0, hi1⟩ := hR2
          obtain ⟨j, rfl⟩ : ∃ j : Nat, i = j := ⟨i.toNat, by omega⟩
          have hjl : j < L.length := by omega
          go_wp2_with fail
          refine (H1.out _ hgw2).mono ?_
          rintro e w3 ⟨u, M, rfl, hM, hown, hb3⟩
          obtain ⟨ua, uc, rfl, hul, _⟩ := hown.1.form
          have hMl : M.length = L.length := by have := congrArg List.length hM; simpa using this
          have hjm : j < M.length := by omega
          have hjM : (j : Int) < (M.length : Int) := by omega
          have hMle : M.length ≤ 1048576 := by omega
          have hgo := gr_al w3 (.cells #[.slice ua M.length uc] 32)
          have hzo := heap_alloc_new w3 (.cells #[.slice ua M.length uc] 32)
          have hobl := hown.block
          have hgw3 := (hgw2.tr hb3).tr hgo
          have hs3 : w.heap.size + 2 ≤ w3.heap.size := by have := lt_of_block HZ1c.out; have := hb3.size; omega
          have hz0 := ((hb3.tr hgo).block _ (lt_of_block HZ0c.out)).trans HZ0c.out
          have hz1 := ((hb3.tr hgo).block _ (lt_of_block HZ1c.out)).trans HZ1c.out
          have hown := hown.gr hgo
          have hbw : w.heap.size + 2 ≤ w1.heap.size + 2 := by have := hgw1.size; omega
          have hbw2 := hgw2.size
          have hX := split_map hjm
          obtain ⟨x, hx⟩ : ∃ x, x = M[j] := ⟨_, rfl⟩
          obtain ⟨A, hA⟩ : ∃ A, A = M.take j := ⟨_, rfl⟩
          obtain ⟨B, hB⟩ : ∃ B, B = M.drop (j + 1) := ⟨_, rfl⟩
          have hAl : A.length = j := by rw [hA, List.length_take]; omega
          rw [← hx, ← hA, ← hB] at hX
          have hMx : M.map (·.1) = A.map (·.1) ++ x.1 :: B.map (·.1) := by rw [hX, List.map_append, List.map_cons]
          obtain ⟨n, hn⟩ : ∃ n, n = M.length := ⟨_, rfl⟩
          have HN := Lib.hid hn
          have hjn : (j : Int) < (n : Int) := by omega
          rw [← hn] at hown hzo hgo hgw3 hz0 hz1 ⊢
          rw [hX] at hown hobl
          obtain ⟨⟨root, pkg, name, init, stamp, body⟩, xv⟩ := x
          obtain ⟨g, c', e, hbb, hbl, hc', hcell, hfr⟩ := own_rowK (K := 6) (enc := eF) (fun _ => rfl) hown.1
          injection e with e1 e2 e3
          clear e2 e3
          subst e1
          have hgb := hobl g (Or.inl rfl)
          have c4 := hcell 4 _ rfl
          have f4 := hfr (j * 6 + 4)
          rw [hAl] at c4
          obtain ⟨xo, xfo⟩ := row1 hzo
          have o1 := OwnN.set (j := 4) (u := .int .i64 st) (x' := ((⟨root, pkg, name, init, st, body⟩ : Fil), xv)) hown (fun _ => rfl) rfl (by decide) rfl rfl rfl
          rw [hAl] at o1
          have hne : ¬ g = w3.heap.size := by omega
          have hne2 : ¬ w3.heap.size = g := by omega
          have hz0' := set_othero (b' := g) (o := j * 6 + 4) (v := .int .i64 st) hz0 (by omega)
          have hz1' := set_othero (b' := g) (o := j * 6 + 4) (v := .int .i64 st) hz1 (by omega)
          have hzo' := set_othero (b' := g) (o := j * 6 + 4) (v := .int .i64 st) hzo (by omega)
          
          clear hcell hfr
          have hWS := World.setCell_alloc_past (w := w3) (.cells #[.slice (some ⟨g, 0, none⟩) n uc] 32) g (j * 6 + 4) (.int .i64 st) hgb.2
          rw [hWS] at hz0' hz1' hzo' o1
          have HZO := Lib.hid hzo'
          have HO1 := Lib.hid o1
          have hgwS : Gr w ((w3.setCell ⟨g, j * 6 + 4, none⟩ (.int .i64 st)).alloc (.cells #[.slice (some ⟨g, 0, none⟩) n uc] 32)) := by rw [← hWS]; exact hgw3.setCell (p := ⟨g, j * 6 + 4, none⟩) (by show w.heap.size ≤ g; omega) _
          have hS : ∀ W, ChgN (fun b => b = g ∨ w3.heap.size < b) ((w3.setCell ⟨g, j * 6 + 4, none⟩ (.int .i64 st)).alloc (.cells #[.slice (some ⟨g, 0, none⟩) n uc] 32)) W → ChgN (fun b => b = g ∨ w3.heap.size < b) ((w3.setCell ⟨g, j * 6 + 4, none⟩ (.int .i64 st)).alloc (.cells #[.slice (some ⟨g, 0, none⟩) n uc] 32)) W ∧ W.cell? ⟨w3.heap.size, 0, none⟩ = some (.slice (some ⟨g, 0, none⟩) n uc) := fun W h => ⟨h, (row1 ((h.block _ (lt_of_block HZO.out) (by (try dsimp only); omega)).trans HZO.out)).1⟩
          have HS := Lib.hid hS
          have hsS : ((w3.setCell ⟨g, j * 6 + 4, none⟩ (.int .i64 st)).alloc (.cells #[.slice (some ⟨g, 0, none⟩) n uc] 32)).heap.size = w3.heap.size + 1 := by simp [World.setCell]
          have HSS := Lib.hid hsS
          have HX := Lib.hid hX
          have HMx := Lib.hid hMx
          have HM := Lib.hid hM
          have HAl := Lib.hid hAl
          have HZ0d := Lib.hid hz0'
          have HZ1d := Lib.hid hz1'
          have HOB := Lib.hid hobl
          clear hWS hS hsS hX hMx hM hAl hz0 hz1 hzo hz0' hz1' hzo' hx hA hB hMl o1 hown hobl x0 x1 xf1 hn hjm hjM
          go_wp2
          refine wp_region_held_drew (S := (fun W => ChgN (fun b => b = g ∨ w3.heap.size < b) ((w3.setCell ⟨g, j * 6 + 4, none⟩ (.int .i64 st)).alloc (.cells #[.slice (some ⟨g, 0, none⟩) n uc] 32)) W ∧ W.cell? ⟨w3.heap.size, 0, none⟩ = some (.slice (some ⟨g, 0, none⟩) n uc))) (by kernel_rfl) (HS.out _ (ChgN.of_gr (below_drewN (Gr.rfl' _) 1))) (fun hS0 => ?_)
          refine wpAnyH_take (i := 0) (v := ?_) rfl (by kernel_rfl) (by kernel_rfl) (by kernel_rfl) (fun _ _ _ h => h) (Or.inl ⟨by rfl, ?_⟩) hS0 ?_
          rotate_left
          · (intro W hSw; (try dsimp only at hSw); go_simp; try (with_reducible rfl))
          try simp only [Act.put, List.getElem_toArray, List.getElem_cons_succ, List.getElem_cons_zero, List.setIfInBounds_toArray, List.set_cons_zero, List.set_cons_succ]
          refine wpAnyH_take (i := 1) (v := ?_) rfl (by kernel_rfl) (by kernel_rfl) (by kernel_rfl) (fun _ _ _ h => h) (Or.inl ⟨by rfl, ?_⟩) hS0 ?_
          rotate_left
          · (intro W hSw; (try dsimp only at hSw); go_simp; try (with_reducible rfl))
          try simp only [Act.put, List.getElem_toArray, List.getElem_cons_succ, List.getElem_cons_zero, List.setIfInBounds_toArray, List.set_cons_zero, List.set_cons_succ]
          refine wpAnyH_take (i := 2) (v := ?_) rfl (by kernel_rfl) (by kernel_rfl) (by kernel_rfl) (fun _ _ _ h => h) (Or.inl ⟨by rfl, ?_⟩) hS0 ?_
          rotate_left
          · (intro W hSw; (try dsimp only at hSw); go_simp; try (with_reducible rfl))
          try simp only [Act.put, List.getElem_toArray, List.getElem_cons_succ, List.getElem_cons_zero, List.setIfInBounds_toArray, List.set_cons_zero, List.set_cons_succ]
          refine wpAnyH_take (i := 4) (v := ?_) rfl (by kernel_rfl) (by kernel_rfl) (by kernel_rfl) (fun _ _ _ h => h) (Or.inl ⟨by rfl, ?_⟩) hS0 ?_
          rotate_left
          · (intro W hSw; (try dsimp only at hSw); go_simp; try (with_reducible rfl))
          try simp only [Act.put, List.getElem_toArray, List.getElem_cons_succ, List.getElem_cons_zero, List.setIfInBounds_toArray, List.set_cons_zero, List.set_cons_succ]
          refine wpAnyH_ready (rs := [3]) (by kernel_rfl) (by simp) ?_
          refine AllReadyH.cons rfl (fun K hK => ?_) AllReadyH.nil
          go_simp
          have gE := below_drewN (gr_al ((w3.setCell ⟨g, j * 6 + 4, none⟩ (.int .i64 st)).alloc (.cells #[.slice (some ⟨g, 0, none⟩) n uc] 32)) (.cells #[] 80)) 1
          refine hK.out _ _ (HS.out _ (ChgN.of_gr gE)) (fun _ => ?_)
          clear hK K
          try simp only [Act.put, List.getElem_toArray, List.getElem_cons_succ, List.getElem_cons_zero, List.setIfInBounds_toArray, List.set_cons_zero, List.set_cons_succ]
          refine wpAnyH_ready (rs := [5]) (by kernel_rfl) (by simp) ?_
          refine AllReadyH.cons rfl (fun K hK => ?_) AllReadyH.nil
          have hoE : Own ((((w3.setCell ⟨g, j * 6 + 4, none⟩ (.int .i64 st)).alloc (.cells #[.slice (some ⟨g, 0, none⟩) n uc] 32)).alloc (.cells #[] 80)).drewN 1) (w3.heap.size + 1) 80 5 eSt (.slice (some ⟨w3.heap.size + 1, 0, none⟩) 0 0) ([] : List Stm) := by
            have := Own.empty ((w3.setCell ⟨g, j * 6 + 4, none⟩ (.int .i64 st)).alloc (.cells #[.slice (some ⟨g, 0, none⟩) n uc] 32)) (w3.heap.size + 1) 80 5 eSt (by rw [HSS.out]; exact Nat.le_refl _)
            rw [HSS.out] at this
            exact Own.chg this (p := fun _ => False) (ChgN.of_gr (below_drewN (Gr.rfl' _) 1)) (fun _ _ q => q)
          have hsrc := SlR.below HF.out (hgwS.tr gE) hhi2
          refine step_app _ rfl (.tmp 45) (.tmp 46) ti_stmO rfl (by simp [Act.eval]) hoE (by simp [Act.eval]) hsrc (fun _ _ => rfl) (by simp [eSt, Value.oneCell']) (by unfold maxLen; simp; omega) (by simp; omega) (by have q := gE.size; rw [HSS.out] at q; exact q) ?_
          intro v9 w9 hown9 hg9 hat9
          simp only [List.nil_append] at hown9
          obtain ⟨va9, vc9, hv9, _, _⟩ := hown9.form
          subst hv9
          have hc9 : ChgN (fun b => w3.heap.size < b) ((w3.setCell ⟨g, j * 6 + 4, none⟩ (.int .i64 st)).alloc (.cells #[.slice (some ⟨g, 0, none⟩) n uc] 32)) w9 := (ChgN.of_gr gE).trans (ChgN.of_grown hg9 (fun b hb => by have hb : some (w3.heap.size + 1) = some b := hb; injection hb with hb; omega))
          have hc9' : ChgN (fun b => b = g ∨ w3.heap.size < b) ((w3.setCell ⟨g, j * 6 + 4, none⟩ (.int .i64 st)).alloc (.cells #[.slice (some ⟨g, 0, none⟩) n uc] 32)) w9 := hc9.mono (fun b q => Or.inr q)
          have o9 := HO1.out.chg hc9 (fun b hb q => by have := (HO1.out.block b hb).2; rw [HSS.out] at this; (try dsimp only at q); omega)
          obtain ⟨g', c6', e, _, _, _, hcell9, hfr9⟩ := own_rowK (K := 6) (enc := eF) (fun _ => rfl) o9.1
          injection e with e1 e2 e3
          clear e2 e3
          injection e1 with e1
          injection e1 with e1
          subst e1
          have c5 := hcell9 5 _ rfl
          have f5 := hfr9 (j * 6 + 5)
          rw [HAl.out] at c5
          have hlt9 : ∀ q, Value.ownBlock (.slice va9 b.length vc9) = some q → w3.heap.size < q := fun q hb => by have := (hown9.block q hb).1; omega
          have o10 := OwnN.put (j := 5) (u := .slice va9 b.length vc9) (x' := ((⟨root, pkg, name, init, st, b⟩ : Fil), (.slice va9 b.length vc9 : Value))) o9 (fun _ => rfl) rfl (by decide) rfl (hown9.mono (by omega)) (fun y hb q => by
            have h1 := hlt9 y hb
            have h2 := HO1.out.block y q
            rw [HSS.out] at h2
            omega)
          rw [HAl.out] at o10
          refine hK.out _ _ (HS.out _ hc9') (fun hS9 => ?_)
          clear hK K
          try simp only [Act.put, List.getElem_toArray, List.getElem_cons_succ, List.getElem_cons_zero, List.setIfInBounds_toArray, List.set_cons_zero, List.set_cons_succ]
          refine wpAnyH_take (i := 6) (v := ?_) rfl (by kernel_rfl) (by kernel_rfl) (by kernel_rfl) (fun _ _ _ h => h) (Or.inl ⟨by rfl, ?_⟩) hS9 ?_
          rotate_left
          · (intro W hSw; (try dsimp only at hSw); go_simp; try (with_reducible rfl))
          try simp only [Act.put, List.getElem_toArray, List.getElem_cons_succ, List.getElem_cons_zero, List.setIfInBounds_toArray, List.set_cons_zero, List.set_cons_succ]
          refine wpAnyH_take (i := 7) (v := ?_) rfl (by kernel_rfl) (by kernel_rfl) (by kernel_rfl) (fun _ _ _ h => h) (Or.inl ⟨by rfl, ?_⟩) hS9 ?_
          rotate_left
          · (intro W hSw; (try dsimp only at hSw); go_simp; try (with_reducible rfl))
          try simp only [Act.put, List.getElem_toArray, List.getElem_cons_succ, List.getElem_cons_zero, List.setIfInBounds_toArray, List.set_cons_zero, List.set_cons_succ]
          refine wpAnyH_ready (rs := [8]) (by kernel_rfl) (by simp) ?_
          refine AllReadyH.cons rfl (fun K hK => ?_) AllReadyH.nil
          go_simp
          refine hK.out _ _ (HS.out _ (hc9'.trans (ChgN.set _ g (j * 6 + 5) _ (Or.inl rfl)))) (fun _ => ?_)
          clear hK K
          try simp only [Act.put, List.getElem_toArray, List.getElem_cons_succ, List.getElem_cons_zero, List.setIfInBounds_toArray, List.set_cons_zero, List.set_cons_succ]
          refine wpAnyH_done (by kernel_rfl) ?_ _
          have hgw9 : Gr w w9 := Imp.Below.chg hgwS hc9 hgwS.size (fun q h => by omega)
          have hgw10 : Gr w (w9.setCell ⟨g, j * 6 + 5, none⟩ (.slice va9 b.length vc9)) := hgw9.setCell (p := ⟨g, j * 6 + 5, none⟩) (by show w.heap.size ≤ g; omega) _
          have hz1e := set_othero (b' := g) (o := j * 6 + 5) (v := .slice va9 b.length vc9) ((hc9.block _ (lt_of_block HZ1d.out) (by (try dsimp only); omega)).trans HZ1d.out) (by omega)
          have hzoe := set_othero (b' := g) (o := j * 6 + 5) (v := .slice va9 b.length vc9) ((hc9.block _ (lt_of_block HZO.out) (by (try dsimp only); omega)).trans HZO.out) (by omega)
          have hMe : (A ++ ((⟨root, pkg, name, init, st, b⟩ : Fil), (.slice va9 b.length vc9 : Value)) :: B).map (·.1) = edited (L.map (·.1)) j st b := by
            rw [← HM.out, HMx.out, List.map_append, List.map_cons]
            have := edited_at (A := A.map (·.1)) (B := B.map (·.1)) (f := ⟨root, pkg, name, init, stamp, body⟩) st b
            rw [List.length_map, HAl.out] at this
            exact this.symm
          obtain ⟨x1, xf1⟩ := row1 hz1e
          obtain ⟨xo, xfo⟩ := row1 hzoe
          have hbas : w.heap.size + 2 ≤ w2.heap.size + 2 := by have := hgw2.size; omega
          have HZ1e := Lib.hid hz1e
          have HME := Lib.hid hMe
          have O10 := Lib.hid o10
          clear hz1e hzoe hMe o10 o9 hown9 c4 f4 hfr9 hcell9
          go_wp2
          refine bodyPost_ret (results_row_tmp rfl _ _ (w.heap.size + 1) 32 _ (0, 0) _ _ rfl rfl (heap_set1 HZ1e.out) Tryd.underlying32 rfl (by kernel_rfl)) rfl ?_
          exact ⟨_, _, rfl, by simpa using HME.out, (O10.out.mono hbas).chg (ChgN.set _ _ _ _ (p := fun b => b = w.heap.size + 1) rfl) (fun y hy q => by have := (O10.out.block y hy).1; omega), hgw10.setCell (by show w.heap.size ≤ w.heap.size + 1; omega) _⟩
set_option maxHeartbeats 3200000 in
theorem iEditFile_any {lo hi lo2 hi2 : Nat} (tv : Value) (L : List FR) (i st : Int) (bv : Value) (b : List Stm) (w : World) (hok : OkW w) (hv : FlR w lo hi tv L) (hhi : hi ≤ w.heap.size) (hf : SlR w lo2 hi2 5 eSt bv b) (hhi2 : hi2 ≤ w.heap.size)
    (hl : L.length ≤ 1048576) (hn : ∀ r ∈ L, r.1.body.length ≤ 1048576) (hfn : b.length ≤ 1048576) (hsm : ∀ r ∈ L, SmF r) (hsb : ∀ s ∈ b, szSt s ≤ 16777216) :
    Calls Tryd.prog 24 #[.agg #[tv], .int .i64 i, .int .i64 st, bv] w (DTb w (okEdit (L.map (·.1)) i st b) (edited (L.map (·.1)) i.toNat st b)) := by
  obtain ⟨ta, tc, rfl, htc, htc2⟩ := hv.1.form
  obtain ⟨ba, bc, rfl, _, _⟩ := hf.form
  have hg2 := gr_al2 w (.cells #[.slice ta L.length tc] 32) (.cells #[.slice none 0 0] 32)
  have hz1 : ((w.alloc (.cells #[.slice ta L.length tc] 32)).alloc (.cells #[.slice none 0 0] 32)).heap[w.heap.size + 1]? = some (.cells #[.slice none 0 0] 32) := heap_alloc2_new w _ _
  have hz0 : ((w.alloc (.cells #[.slice ta L.length tc] 32)).alloc (.cells #[.slice none 0 0] 32)).heap[w.heap.size]? = some (.cells #[.slice ta L.length tc] 32) := (Below.heap_alloc (w.alloc (.cells #[.slice ta L.length tc] 32)) (.cells #[.slice none 0 0] 32) w.heap.size (by simp)).trans (heap_alloc_new w (.cells #[.slice ta L.length tc] 32))
  have hct := fun W (h : Gr w W) => icloneTree_own (.slice ta L.length tc) L W (hv.below h hhi) (Nat.le_trans hhi h.size) hl hn
  have hvt := fun W (h : Gr w W) => iValidTree_any (.slice ta L.length tc) L W (hok.gr h) (hv.below h hhi) (Nat.le_trans hhi h.size) hsm
  have hrg := fun W => within_any i 0 ((L.length : Int) - 1) W
  have hw1 : IntKind.i64.wrap ((L.length : Int) - 1) = (L.length : Int) - 1 := IntWalk.i64_in _ (by omega)
  have hK : okEdit (L.map (·.1)) i st b = (okTree (L.map (·.1)) && (decide (0 ≤ i) && decide (i ≤ (L.length : Int) - 1)) && (decide (0 ≤ st) && decide (st ≤ 99)) && okBody b) := by unfold okEdit; rw [List.length_map]
  obtain ⟨Q, hQ⟩ : ∃ Q, okEdit (L.map (·.1)) i st b = Q := ⟨_, rfl⟩
  obtain ⟨R1, hR1⟩ : ∃ R1, okTree (L.map (·.1)) = R1 := ⟨_, rfl⟩
  obtain ⟨R2, hR2⟩ : ∃ R2, (decide (0 ≤ i) && decide (i ≤ (L.length : Int) - 1)) = R2 := ⟨_, rfl⟩
  obtain ⟨R3, hR3⟩ : ∃ R3, (decide (0 ≤ st) && decide (st ≤ 99)) = R3 := ⟨_, rfl⟩
  obtain ⟨R4, hR4⟩ : ∃ R4, okBody b = R4 := ⟨_, rfl⟩
  rw [hQ, hR1, hR2, hR3, hR4] at hK
  rw [hQ]
  simp only [hR1] at hvt
  simp only [hR2] at hrg
  have hcb := fun W (h : Gr w W) => icloneBodyO (.slice ba b.length bc) b W (SlR.below hf h hhi2) (Nat.le_trans hhi2 h.size) (by omega)
  have hvu := fun lo' hi' vv (M : List FR) W (h : Gr w W) (hM : FlR W lo' hi' vv M) (hs : ∀ r ∈ M, SmF r) (hh : hi' ≤ W.heap.size) => iValidTree_any vv M W (hok.gr h) hM hh hs
  have H4 := Lib.hid hcb
  have H5 := Lib.hid hvu
  clear hcb hvu
  have H1 := Lib.hid hct
  have H2 := Lib.hid hvt
  have H3 := Lib.hid hrg
  have HK := Lib.hid hK
  have HZ0 := Lib.hid hz0
  have HZ1 := Lib.hid hz1
  have HF := Lib.hid hf
  have HSM := Lib.hid hsm
  have HR1 := Lib.hid hR1
  have HR2 := Lib.hid hR2
  have HR3 := Lib.hid hR3
  have HR4 := Lib.hid hR4
  obtain ⟨x0, _⟩ := row1 hz0
  clear hct hvt hrg hK hz0 hz1 hv hsm hn hQ hR1 hR2 hR3 hR4
  go_enter Tryd.func24, Tryd.ntmps24
  go_wp2_with fail
  refine (H2.out _ hg2).mono ?_
  rintro e w1 ⟨rfl, hb1⟩
  have hz0 := (hb1.block _ (lt_of_block HZ0.out)).trans HZ0.out
  have hz1 := (hb1.block _ (lt_of_block HZ1.out)).trans HZ1.out
  clear x0
  obtain ⟨x0, _⟩ := row1 hz0
  obtain ⟨x1, xf1⟩ := row1 hz1
  have hgw1 := hg2.tr hb1
  have HZ0b := Lib.hid hz0
  have HZ1b := Lib.hid hz1
  clear hz0 hz1
  cases R1
  · skip
    go_wp2
    refine bodyPost_ret (results_row_tmp rfl _ _ (w.heap.size + 1) 32 _ (0, 0) _ _ rfl rfl (heap_set1 HZ1b.out) Tryd.underlying32 rfl (by kernel_rfl)) rfl ?_
    have hq : Q = false := by rw [HK.out]; rfl
    subst hq
    exact ⟨_, [], rfl, rfl, OwnN.nil _ (Own.nil _ _ _ _ _), hgw1.setCell (by show w.heap.size ≤ w.heap.size + 1; omega) _⟩
  · go_wp2_with fail
    refine (H3.out _).mono ?_
    rintro e w' ⟨rfl, rfl⟩
    cases R2
    · skip
      go_wp2
      refine bodyPost_ret (results_row_tmp rfl _ _ (w.heap.size + 1) 32 _ (0, 0) _ _ rfl rfl (heap_set1 HZ1b.out) Tryd.underlying32 rfl (by kernel_rfl)) rfl ?_
      have hq : Q = false := by rw [HK.out]; rfl
      subst hq
      exact ⟨_, [], rfl, rfl, OwnN.nil _ (Own.nil _ _ _ _ _), hgw1.setCell (by show w.heap.size ≤ w.heap.size + 1; omega) _⟩
    · have hgw2 := hgw1
      have HZ1c := HZ1b
      have HZ0c := HZ0b
      have hR2 := HR2.out
      simp only [Bool.and_eq_true, decide_eq_true_eq] at hR2
      obtain ⟨hi0, hi1⟩ := hR2
      obtain ⟨j, rfl⟩ : ∃ j : Nat, i = j := ⟨i.toNat, by omega⟩
      have hjl : j < L.length := by omega
      go_wp2_with fail
      refine (H1.out _ hgw2).mono ?_
      rintro e w3 ⟨u, M, rfl, hM, hown, hb3⟩
      obtain ⟨ua, uc, rfl, hul, _⟩ := hown.1.form
      have hMl : M.length = L.length := by have := congrArg List.length hM; simpa using this
      have hjm : j < M.length := by omega
      have hjM : (j : Int) < (M.length : Int) := by omega
      have hMle : M.length ≤ 1048576 := by omega
      have hgo := gr_al w3 (.cells #[.slice ua M.length uc] 32)
      have hzo := heap_alloc_new w3 (.cells #[.slice ua M.length uc] 32)
      have hobl := hown.block
      have hgw3 := (hgw2.tr hb3).tr hgo
      have hs3 : w.heap.size + 2 ≤ w3.heap.size := by have := lt_of_block HZ1c.out; have := hb3.size; omega
      have hz0 := ((hb3.tr hgo).block _ (lt_of_block HZ0c.out)).trans HZ0c.out
      have hz1 := ((hb3.tr hgo).block _ (lt_of_block HZ1c.out)).trans HZ1c.out
      have hown := hown.gr hgo
      have hbw : w.heap.size + 2 ≤ w1.heap.size + 2 := by have := hgw1.size; omega
      have hbw2 := hgw2.size
      have hX := split_map hjm
      obtain ⟨x, hx⟩ : ∃ x, x = M[j] := ⟨_, rfl⟩
      obtain ⟨A, hA⟩ : ∃ A, A = M.take j := ⟨_, rfl⟩
      obtain ⟨B, hB⟩ : ∃ B, B = M.drop (j + 1) := ⟨_, rfl⟩
      have hAl : A.length = j := by rw [hA, List.length_take]; omega
      rw [← hx, ← hA, ← hB] at hX
      have hMx : M.map (·.1) = A.map (·.1) ++ x.1 :: B.map (·.1) := by rw [hX, List.map_append, List.map_cons]
      obtain ⟨n, hn⟩ : ∃ n, n = M.length := ⟨_, rfl⟩
      have HN := Lib.hid hn
      have hjn : (j : Int) < (n : Int) := by omega
      rw [← hn] at hown hzo hgo hgw3 hz0 hz1 ⊢
      rw [hX] at hown hobl
      obtain ⟨⟨root, pkg, name, init, stamp, body⟩, xv⟩ := x
      obtain ⟨g, c', e, hbb, hbl, hc', hcell, hfr⟩ := own_rowK (K := 6) (enc := eF) (fun _ => rfl) hown.1
      injection e with e1 e2 e3
      clear e2 e3
      subst e1
      have hgb := hobl g (Or.inl rfl)
      have c4 := hcell 4 _ rfl
      have f4 := hfr (j * 6 + 4)
      rw [hAl] at c4
      obtain ⟨xo, xfo⟩ := row1 hzo
      have o1 := OwnN.set (j := 4) (u := .int .i64 st) (x' := ((⟨root, pkg, name, init, st, body⟩ : Fil), xv)) hown (fun _ => rfl) rfl (by decide) rfl rfl rfl
      rw [hAl] at o1
      have hne : ¬ g = w3.heap.size := by omega
      have hne2 : ¬ w3.heap.size = g := by omega
      have hz0' := set_othero (b' := g) (o := j * 6 + 4) (v := .int .i64 st) hz0 (by omega)
      have hz1' := set_othero (b' := g) (o := j * 6 + 4) (v := .int .i64 st) hz1 (by omega)
      have hzo' := set_othero (b' := g) (o := j * 6 + 4) (v := .int .i64 st) hzo (by omega)
      
      clear hcell hfr
      have hWS := World.setCell_alloc_past (w := w3) (.cells #[.slice (some ⟨g, 0, none⟩) n uc] 32) g (j * 6 + 4) (.int .i64 st) hgb.2
      rw [hWS] at hz0' hz1' hzo' o1
      have HZO := Lib.hid hzo'
      have HO1 := Lib.hid o1
      have hgwS : Gr w ((w3.setCell ⟨g, j * 6 + 4, none⟩ (.int .i64 st)).alloc (.cells #[.slice (some ⟨g, 0, none⟩) n uc] 32)) := by rw [← hWS]; exact hgw3.setCell (p := ⟨g, j * 6 + 4, none⟩) (by show w.heap.size ≤ g; omega) _
      have hS : ∀ W, ChgN (fun b => b = g ∨ w3.heap.size < b) ((w3.setCell ⟨g, j * 6 + 4, none⟩ (.int .i64 st)).alloc (.cells #[.slice (some ⟨g, 0, none⟩) n uc] 32)) W → ChgN (fun b => b = g ∨ w3.heap.size < b) ((w3.setCell ⟨g, j * 6 + 4, none⟩ (.int .i64 st)).alloc (.cells #[.slice (some ⟨g, 0, none⟩) n uc] 32)) W ∧ W.cell? ⟨w3.heap.size, 0, none⟩ = some (.slice (some ⟨g, 0, none⟩) n uc) := fun W h => ⟨h, (row1 ((h.block _ (lt_of_block HZO.out) (by (try dsimp only); omega)).trans HZO.out)).1⟩
      have HS := Lib.hid hS
      have hsS : ((w3.setCell ⟨g, j * 6 + 4, none⟩ (.int .i64 st)).alloc (.cells #[.slice (some ⟨g, 0, none⟩) n uc] 32)).heap.size = w3.heap.size + 1 := by simp [World.setCell]
      have HSS := Lib.hid hsS
      have HX := Lib.hid hX
      have HMx := Lib.hid hMx
      have HM := Lib.hid hM
      have HAl := Lib.hid hAl
      have HZ0d := Lib.hid hz0'
      have HZ1d := Lib.hid hz1'
      have HOB := Lib.hid hobl
      clear hWS hS hsS hX hMx hM hAl hz0 hz1 hzo hz0' hz1' hzo' hx hA hB hMl o1 hown hobl x0 x1 xf1 hn hjm hjM
      go_wp2
      refine wp_region_held_drew (S := (fun W => ChgN (fun b => b = g ∨ w3.heap.size < b) ((w3.setCell ⟨g, j * 6 + 4, none⟩ (.int .i64 st)).alloc (.cells #[.slice (some ⟨g, 0, none⟩) n uc] 32)) W ∧ W.cell? ⟨w3.heap.size, 0, none⟩ = some (.slice (some ⟨g, 0, none⟩) n uc))) (by kernel_rfl) (HS.out _ (ChgN.of_gr (below_drewN (Gr.rfl' _) 1))) (fun hS0 => ?_)
      refine wpAnyH_take (i := 0) (v := ?_) rfl (by kernel_rfl) (by kernel_rfl) (by kernel_rfl) (fun _ _ _ h => h) (Or.inl ⟨by rfl, ?_⟩) hS0 ?_
      rotate_left
      · (intro W hSw; (try dsimp only at hSw); go_simp; try (with_reducible rfl))
      try simp only [Act.put, List.getElem_toArray, List.getElem_cons_succ, List.getElem_cons_zero, List.setIfInBounds_toArray, List.set_cons_zero, List.set_cons_succ]
      refine wpAnyH_take (i := 1) (v := ?_) rfl (by kernel_rfl) (by kernel_rfl) (by kernel_rfl) (fun _ _ _ h => h) (Or.inl ⟨by rfl, ?_⟩) hS0 ?_
      rotate_left
      · (intro W hSw; (try dsimp only at hSw); go_simp; try (with_reducible rfl))
      try simp only [Act.put, List.getElem_toArray, List.getElem_cons_succ, List.getElem_cons_zero, List.setIfInBounds_toArray, List.set_cons_zero, List.set_cons_succ]
      refine wpAnyH_take (i := 2) (v := ?_) rfl (by kernel_rfl) (by kernel_rfl) (by kernel_rfl) (fun _ _ _ h => h) (Or.inl ⟨by rfl, ?_⟩) hS0 ?_
      rotate_left
      · (intro W hSw; (try dsimp only at hSw); go_simp; try (with_reducible rfl))
      try simp only [Act.put, List.getElem_toArray, List.getElem_cons_succ, List.getElem_cons_zero, List.setIfInBounds_toArray, List.set_cons_zero, List.set_cons_succ]
      refine wpAnyH_take (i := 3) (v := ?_) rfl (by kernel_rfl) (by kernel_rfl) (by kernel_rfl) (fun _ _ _ h => h) (Or.inl ⟨by rfl, ?_⟩) hS0 ?_
      rotate_left
      · (intro W hSw; (try dsimp only at hSw); go_simp; try (with_reducible rfl))
      try simp only [Act.put, List.getElem_toArray, List.getElem_cons_succ, List.getElem_cons_zero, List.setIfInBounds_toArray, List.set_cons_zero, List.set_cons_succ]
      refine wpAnyH_ready (rs := [4]) (by kernel_rfl) (by simp) ?_
      refine AllReadyH.cons rfl (fun K hK => ?_) AllReadyH.nil
      go_simp
      refine (H4.out _ (hgwS.tr (below_drewN (Gr.rfl' _) 1))).mono ?_
      rintro e w9 ⟨u9, rfl, hown9, hg9⟩
      obtain ⟨va9, vc9, e9, _, _⟩ := hown9.form
      subst e9
      have hown9 := hown9.mono (base' := w3.heap.size + 1) (by have := HSS.out; simp [World.setCell] at this ⊢)
      have hc9 : ChgN (fun b => w3.heap.size < b) ((w3.setCell ⟨g, j * 6 + 4, none⟩ (.int .i64 st)).alloc (.cells #[.slice (some ⟨g, 0, none⟩) n uc] 32)) w9 := (ChgN.of_gr (below_drewN (Gr.rfl' _) 1)).trans (ChgN.of_gr hg9)
      have hc9' : ChgN (fun b => b = g ∨ w3.heap.size < b) ((w3.setCell ⟨g, j * 6 + 4, none⟩ (.int .i64 st)).alloc (.cells #[.slice (some ⟨g, 0, none⟩) n uc] 32)) w9 := hc9.mono (fun b q => Or.inr q)
      have o9 := HO1.out.chg hc9 (fun b hb q => by have := (HO1.out.block b hb).2; rw [HSS.out] at this; (try dsimp only at q); omega)
      obtain ⟨g', c6', e, _, _, _, hcell9, hfr9⟩ := own_rowK (K := 6) (enc := eF) (fun _ => rfl) o9.1
      injection e with e1 e2 e3
      clear e2 e3
      injection e1 with e1
      injection e1 with e1
      subst e1
      have c5 := hcell9 5 _ rfl
      have f5 := hfr9 (j * 6 + 5)
      rw [HAl.out] at c5
      have hlt9 : ∀ q, Value.ownBlock (.slice va9 b.length vc9) = some q → w3.heap.size < q := fun q hb => by have := (hown9.block q hb).1; omega
      have o10 := OwnN.put (j := 5) (u := .slice va9 b.length vc9) (x' := ((⟨root, pkg, name, init, st, b⟩ : Fil), (.slice va9 b.length vc9 : Value))) o9 (fun _ => rfl) rfl (by decide) rfl (hown9.mono (by omega)) (fun y hb q => by
        have h1 := hlt9 y hb
        have h2 := HO1.out.block y q
        rw [HSS.out] at h2
        omega)
      rw [HAl.out] at o10
      refine hK.out _ _ (HS.out _ hc9') (fun hS9 => ?_)
      clear hK K
      try simp only [Act.put, List.getElem_toArray, List.getElem_cons_succ, List.getElem_cons_zero, List.setIfInBounds_toArray, List.set_cons_zero, List.set_cons_succ]
      refine wpAnyH_take (i := 5) (v := ?_) rfl (by kernel_rfl) (by kernel_rfl) (by kernel_rfl) (fun _ _ _ h => h) (Or.inl ⟨by rfl, ?_⟩) hS9 ?_
      rotate_left
      · (intro W hSw; (try dsimp only at hSw); go_simp; try (with_reducible rfl))
      try simp only [Act.put, List.getElem_toArray, List.getElem_cons_succ, List.getElem_cons_zero, List.setIfInBounds_toArray, List.set_cons_zero, List.set_cons_succ]
      refine wpAnyH_take (i := 6) (v := ?_) rfl (by kernel_rfl) (by kernel_rfl) (by kernel_rfl) (fun _ _ _ h => h) (Or.inl ⟨by rfl, ?_⟩) hS9 ?_
      rotate_left
      · (intro W hSw; (try dsimp only at hSw); go_simp; try (with_reducible rfl))
      try simp only [Act.put, List.getElem_toArray, List.getElem_cons_succ, List.getElem_cons_zero, List.setIfInBounds_toArray, List.set_cons_zero, List.set_cons_succ]
      refine wpAnyH_ready (rs := [7]) (by kernel_rfl) (by simp) ?_
      refine AllReadyH.cons rfl (fun K hK => ?_) AllReadyH.nil
      go_simp
      refine hK.out _ _ (HS.out _ (hc9'.trans (ChgN.set _ g (j * 6 + 5) _ (Or.inl rfl)))) (fun _ => ?_)
      clear hK K
      try simp only [Act.put, List.getElem_toArray, List.getElem_cons_succ, List.getElem_cons_zero, List.setIfInBounds_toArray, List.set_cons_zero, List.set_cons_succ]
      refine wpAnyH_done (by kernel_rfl) ?_ _
      have hgw9 : Gr w w9 := Imp.Below.chg hgwS hc9 hgwS.size (fun q h => by omega)
      have hgw10 : Gr w (w9.setCell ⟨g, j * 6 + 5, none⟩ (.slice va9 b.length vc9)) := hgw9.setCell (p := ⟨g, j * 6 + 5, none⟩) (by show w.heap.size ≤ g; omega) _
      have hz1e := set_othero (b' := g) (o := j * 6 + 5) (v := .slice va9 b.length vc9) ((hc9.block _ (lt_of_block HZ1d.out) (by (try dsimp only); omega)).trans HZ1d.out) (by omega)
      have hzoe := set_othero (b' := g) (o := j * 6 + 5) (v := .slice va9 b.length vc9) ((hc9.block _ (lt_of_block HZO.out) (by (try dsimp only); omega)).trans HZO.out) (by omega)
      have hMe : (A ++ ((⟨root, pkg, name, init, st, b⟩ : Fil), (.slice va9 b.length vc9 : Value)) :: B).map (·.1) = edited (L.map (·.1)) j st b := by
        rw [← HM.out, HMx.out, List.map_append, List.map_cons]
        have := edited_at (A := A.map (·.1)) (B := B.map (·.1)) (f := ⟨root, pkg, name, init, stamp, body⟩) st b
        rw [List.length_map, HAl.out] at this
        exact this.symm
      obtain ⟨x1, xf1⟩ := row1 hz1e
      obtain ⟨xo, xfo⟩ := row1 hzoe
      have hbas : w.heap.size + 2 ≤ w1.heap.size + 2 := by have := hgw2.size; omega
      have hsmM : ∀ r ∈ A ++ ((⟨root, pkg, name, init, st, b⟩ : Fil), (.slice va9 b.length vc9 : Value)) :: B, SmF r := by
        have hs := smF_of2 HSM.out HM.out
        rw [HX.out] at hs
        intro r hr
        rw [List.mem_append, List.mem_cons] at hr
        rcases hr with hr | rfl | hr
        · exact hs r (by simp [hr])
        · have := hs ((⟨root, pkg, name, init, stamp, body⟩ : Fil), xv) (by simp)
          exact ⟨this.1, this.2.1, hsb⟩
        · exact hs r (by simp [hr])
      have hv := H5.out _ _ _ _ _ hgw10 o10.flR2 hsmM (Nat.le_refl _)
      have hok2 : okTree ((A ++ ((⟨root, pkg, name, init, st, b⟩ : Fil), (.slice va9 b.length vc9 : Value)) :: B).map (·.1)) = (R3 && R4) := by
        have h1 := HR1.out
        rw [← HM.out, HMx.out] at h1
        rw [List.map_append, List.map_cons, ← HR3.out, ← HR4.out]
        exact okTree_edit h1 st b
      rw [hok2] at hv
      have HV := Lib.hid hv
      have HZ1e := Lib.hid hz1e
      have HME := Lib.hid hMe
      have O10 := Lib.hid o10
      have hq : Q = (R3 && R4) := by rw [HK.out]; rfl
      have HQ := Lib.hid hq
      clear hz1e hMe o10 o9 hown9 c4 f4 hfr9 hcell9 hv hok2 hsmM hq
      have HZoe := Lib.hid hzoe
      clear hzoe
      go_wp2_with fail
      refine HV.out.mono ?_
      rintro e w11 ⟨rfl, hb11⟩
      have hz1f := (hb11.block _ (lt_of_block HZ1e.out)).trans HZ1e.out
      have hzof := (hb11.block _ (lt_of_block HZoe.out)).trans HZoe.out
      clear x1 xf1 xo xfo
      obtain ⟨x1, xf1⟩ := row1 hz1f
      obtain ⟨xo, xfo⟩ := row1 hzof
      have HZ1f := Lib.hid hz1f
      clear hz1f hzof
      obtain ⟨RR, hRR⟩ : ∃ RR, (R3 && R4) = RR := ⟨_, rfl⟩
      have hq := HQ.out
      rw [hRR] at hq
      subst hq
      try rw [hRR]
      clear hRR
      cases Q
      · go_wp2
        refine bodyPost_ret (results_row_tmp rfl _ _ (w.heap.size + 1) 32 _ (0, 0) _ _ rfl rfl (heap_set1 HZ1f.out) Tryd.underlying32 rfl (by kernel_rfl)) rfl ?_
        exact ⟨_, [], rfl, rfl, OwnN.nil _ (Own.nil _ _ _ _ _), (hgw10.tr hb11).setCell (by show w.heap.size ≤ w.heap.size + 1; omega) _⟩
      · go_wp2
        refine bodyPost_ret (results_row_tmp rfl _ _ (w.heap.size + 1) 32 _ (0, 0) _ _ rfl rfl (heap_set1 HZ1f.out) Tryd.underlying32 rfl (by kernel_rfl)) rfl ?_
        exact ⟨_, _, rfl, by simpa using HME.out, ((O10.out.gr hb11).mono hbas).chg (ChgN.set _ _ _ _ (p := fun b => b = w.heap.size + 1) rfl) (fun y hy q => by have := (O10.out.block y hy).1; omega), (hgw10.tr hb11).setCell (by show w.heap.size ≤ w.heap.size + 1; omega) _⟩
end Go.Proofs.YtomndnlpogikdaaDoor
