/-
  Walk of the law on files of trees edited. Printed by treev.py.
-/
import Derived.Test.YtomndnlpogikdaaDoorTreeK
import Derived.Test.YtomndnlpogikdaaDoorTreeN
import Derived.Test.YtomndnlpogikdaaDoorOpen
namespace Imp
open Go Go.RowKit
/-- Blocks that are whole, and trees that the call owns. -/
def JK (W : World) (l : List (Nat × Obj)) (tF tS : Nat) (A : List (Nat × Value × List FR)) : Prop :=
  (∀ x ∈ l, W.heap[x.1]? = some x.2) ∧ ∀ x ∈ A, OwnN W x.1 tF 6 eF tS 5 eSt Fil.body x.2.1 x.2.2
theorem JK.gr {W W' : World} {l : List (Nat × Obj)} {tF tS : Nat} {A : List (Nat × Value × List FR)} (h : JK W l tF tS A) (g : Below W.heap.size W W') : JK W' l tF tS A :=
  ⟨fun x hx => (g.block x.1 (lt_of_block (h.1 x hx))).trans (h.1 x hx), fun x hx => (h.2 x hx).gr g⟩
theorem totF_append : ∀ (A B : List FR), totF (A ++ B) = totF A + totF B
  | [], B => by simp [totF]
  | x :: A, B => by rw [List.cons_append, totF, totF, totF_append A B]; omega
end Imp
namespace Go.Proofs.YtomndnlpogikdaaDoor
open Go Go.RowKit Imp
set_option linter.unusedVariables false
set_option linter.unusedSimpArgs false
set_option maxRecDepth 20000 in
set_option maxHeartbeats 6400000 in
theorem walk_FnExactEditFile (w : World) (hok : OkW w) (v : Value) (L : List FR) (hL : ∃ u, v = .agg #[u] ∧ FlR w 0 w.heap.size u L ∧ ∀ r ∈ L, okF r.1) (i : Int) (hi : -9223372036854775808 ≤ i ∧ i ≤ 9223372036854775807) (st : Int) (hst : -9223372036854775808 ≤ st ∧ st ≤ 9223372036854775807) (v4 : Value) (b : List Stm) (hF : SlR w 0 w.heap.size 5 eSt v4 b ∧ ∀ s ∈ b, okSt s) :
    Calls Tryd.prog 4 #[v, .int .i64 i, .int .i64 st, v4] w fun e w' => e = .returned (.bool true) ∧ Below w.heap.size w w' := by
  obtain ⟨u, rfl, hfl, hsz⟩ := hL
  obtain ⟨hbf, hszf⟩ := hF
  obtain ⟨ta, tc, rfl, _, _⟩ := hfl.1.form
  obtain ⟨ba, bc, rfl, _, _⟩ := hbf.form
  have hgG := gr_al w (.cells #[.slice ta L.length tc] 24)
  have hA := heap_alloc_new w (.cells #[.slice ta L.length tc] 24)
  have hbT := fun W (h : Gr w W) => hfl.below h (Nat.le_refl _)
  have hbF := fun W (h : Gr w W) => SlR.below hbf h (Nat.le_refl _)
  have hargs : ∀ W, Gr (w.alloc (.cells #[.slice ta L.length tc] 24)) W → W.cell? ⟨w.heap.size, 0, none⟩ = some (.slice ta L.length tc) := fun W h => (row1 ((h.block w.heap.size (by simp <;> omega)).trans hA)).1
  have HT := Lib.hid hbT
  have HF := Lib.hid hbF
  have HA := Lib.hid hA
  have HARG := Lib.hid hargs
  have c0 := hargs _ (Gr.rfl' _)
  clear hfl hbf hbT hbF hargs hA
  go_enter Tryd.func4, Tryd.ntmps4
  go_wp2_with fail
  refine (szTree_any _ L _ _ (HT.out _ hgG) (by simp <;> omega) hsz (by omega) (by omega)).mono ?_
  rintro e w1 ⟨q, rfl, hq, hql, hB1⟩
  have hg1 := Gr.tr hgG hB1
  clear c0
  have c0 := HARG.out _ hB1
  by_cases h0 : q < 0
  · go_wp2
    go_ret
    exact ⟨rfl, hg1⟩
  · have htot := hq (by omega)
    go_wp2_with fail
    refine (szStmtS_any _ b _ _ (HF.out _ hg1) hg1.size hszf (by omega) (by omega)).mono ?_
    rintro e w2 ⟨q2, rfl, hq2, hql2, hb2⟩
    have hB2 := Gr.tr hB1 hb2
    clear c0
    have c0 := HARG.out _ hB2
    by_cases h02 : q2 < 0
    · go_wp2
      go_ret
      exact ⟨rfl, hg1.tr hb2⟩
    · have htot2 := hq2 (by omega)
      have hlen : L.length ≤ 1048576 := by omega
      have hszF : ∀ r ∈ L, szF r.1 ≤ 1048576 := fun r hr => by have := totF_mem hr; omega
      have hbn : ∀ r ∈ L, r.1.body.length ≤ 1048576 := fun r hr => by have := hszF r hr; unfold szF at this; omega
      have hsmL : ∀ r ∈ L, SmF r := fun r hr => by
        have := hszF r hr
        unfold szF at this
        exact ⟨by omega, by omega, fun s hs => by have := totB_mem hs; omega⟩
      have hsmb : ∀ s ∈ b, szSt s ≤ 16777216 := fun s hs => by have := totB_mem hs; omega
      have hflen : b.length ≤ 1048576 := by omega
      obtain ⟨B, hB⟩ : ∃ B, okEdit (L.map (·.1)) i st b = B := ⟨_, rfl⟩
      obtain ⟨T, hT⟩ : ∃ T, (if B then edited (L.map (·.1)) i.toNat st b else []) = T := ⟨_, rfl⟩
      have hadd : ∀ (g : Nat) (hc : g = 22 ∨ g = 24) lo hi vv (M : List FR) lo2 hi2 bv W, OkW W → FlR W lo hi vv M → M.map (·.1) = L.map (·.1) → hi ≤ W.heap.size → SlR W lo2 hi2 5 eSt bv b → hi2 ≤ W.heap.size →
          Calls Tryd.prog g #[.agg #[vv], .int .i64 i, .int .i64 st, bv] W fun e w' => ∃ u, ∃ M' : List FR, e = .returned (.tuple #[.agg #[u], .bool B]) ∧ M'.map (·.1) = T ∧ OwnN w' (W.heap.size + 2) 38 6 eF 80 5 eSt Fil.body u M' ∧ Gr W w' := by
        intro g hc lo hi vv M lo2 hi2 bv W k hM e hhi hf' hhi2
        have hMl : M.length = L.length := by have := congrArg List.length e; simpa using this
        have hn' : ∀ r ∈ M, r.1.body.length ≤ 1048576 := fun r hr => by
          have : r.1 ∈ L.map (·.1) := by rw [← e]; exact List.mem_map_of_mem hr
          rw [List.mem_map] at this
          obtain ⟨r', hr', e'⟩ := this
          rw [← e']; exact hbn r' hr'
        rcases hc with rfl | rfl
        · have := sEditFile_any vv M i st bv b W k hM hhi hf' hhi2 (by omega) hn' hflen (smF_of2 hsmL e) hsmb
          rw [e, hB] at this
          refine this.mono ?_
          rintro e w' ⟨u, M', h1, h2, h3, h4⟩
          rw [hT] at h2
          exact ⟨u, M', h1, h2, h3, h4⟩
        · have := iEditFile_any vv M i st bv b W k hM hhi hf' hhi2 (by omega) hn' hflen (smF_of2 hsmL e) hsmb
          rw [e, hB] at this
          refine this.mono ?_
          rintro e w' ⟨u, M', h1, h2, h3, h4⟩
          rw [hT] at h2
          exact ⟨u, M', h1, h2, h3, h4⟩
      have h1 := hadd _ (Or.inl rfl)
      have h2 := hadd _ (Or.inr rfl)
      have h3 := fun W (h : Gr w W) => toTree_own _ L W (HT.out _ h) h.size hlen hbn
      have h4 := fun W (h : Gr w W) => toStmtS_own _ b W (HF.out _ h) h.size hflen
      have hkL : ∀ M : List FR, M.map (·.1) = L.map (·.1) → kF 1 (M.map fun r => r.1.body.length) ≤ 5242900 := fun M e => by
        rw [lens_of e]
        have := kF_bound 1 L
        omega
      have hkT : ∀ M : List FR, M.map (·.1) = T → kF 1 (M.map fun r => r.1.body.length) ≤ 21000000 := fun M e => by
        cases B
        · simp only [Bool.false_eq_true, if_false] at hT
          rw [← hT] at e
          have : M = [] := by simpa using e
          rw [this]; simp [kF]
        · simp only [if_true] at hT
          have hB' := hB
          unfold okEdit at hB'
          simp only [Bool.and_eq_true, decide_eq_true_eq, List.length_map] at hB'
          obtain ⟨⟨⟨_, hi0, hi1⟩, _⟩, _⟩ := hB'
          obtain ⟨j, rfl⟩ : ∃ j : Nat, i = j := ⟨i.toNat, by omega⟩
          have hjl : j < L.length := by omega
          have hX := split_map hjl
          obtain ⟨x, hx⟩ : ∃ x, x = L[j] := ⟨_, rfl⟩
          obtain ⟨A, hA⟩ : ∃ A, A = L.take j := ⟨_, rfl⟩
          obtain ⟨D, hD⟩ : ∃ D, D = L.drop (j + 1) := ⟨_, rfl⟩
          have hAl : A.length = j := by rw [hA, List.length_take]; omega
          rw [← hx, ← hA, ← hD] at hX
          have hTe : T = (A ++ ((editF x.1 st b, x.2) : FR) :: D).map (·.1) := by
            rw [← hT, hX, List.map_append, List.map_cons, List.map_append, List.map_cons]
            have := edited_at (A := A.map (·.1)) (B := D.map (·.1)) (f := x.1) st b
            rw [List.length_map, hAl] at this
            simpa using this
          rw [lens_of (e.trans hTe)]
          have hb1 := kF_bound 1 (A ++ ((editF x.1 st b, x.2) : FR) :: D)
          have ht : totF L = totF A + (szF x.1 + totF D) := by rw [hX, totF_append, totF]
          have hl : L.length = A.length + (D.length + 1) := by rw [hX]; simp
          rw [totF_append, totF, List.length_append, List.length_cons] at hb1
          have hz : szF (editF x.1 st b) ≤ szF x.1 + (b.length + totB b) := by unfold szF editF; dsimp only; omega
          dsimp only at hb1
          omega
      have qb : (B != B) = false := by simp
      have H1 := Lib.hid h1
      have H2 := Lib.hid h2
      have H3 := Lib.hid h3
      have H4 := Lib.hid h4
      have HKL := Lib.hid hkL
      have HKT := Lib.hid hkT
      have hbk : b.length + totB b ≤ 1048576 := by omega
      clear hq hql htot hq2 hql2 htot2 h1 h2 h3 h4 hsz hszf hadd hB hT hszF hbn hsmL hsmb hkL hkT hlen
      have hg2 := hg1.tr hb2
      -- the reference's answer
      go_wp2_with fail
      refine (H3.out _ hg2).mono ?_
      rintro e w3 ⟨u3, rfl, M3, hM3, ho3, hb3⟩
      go_wp2_with fail
      refine (H4.out _ (hg2.tr hb3)).mono ?_
      rintro e w4 ⟨u4, rfl, ho4, hb4⟩
      obtain ⟨a3, k3, e3, _, _⟩ := ho3.1.form
      subst e3
      obtain ⟨a4, k4, e4, _, _⟩ := ho4.form
      subst e4
      go_wp2_with fail
      refine (H1.out _ _ _ M3 _ _ _ _ (hok.gr ((hg2.tr hb3).tr hb4)) (ho3.reads.below hb4 (Nat.le_refl _)) hM3 hb4.size (ho4.reads (fun _ _ => rfl)) (Nat.le_refl _)).mono ?_
      rintro e w5 ⟨u5, M5, rfl, hM5, hO5, hb5⟩
      obtain ⟨a5, k5, e5, _, _⟩ := hO5.1.form
      subst e5
      have gS := gr_al w5 (.cells #[.slice a5 M5.length k5] 32)
      have z5 := heap_alloc_new w5 (.cells #[.slice a5 M5.length k5] 32)
      have hB5 := (((hB2.tr hb3).tr hb4).tr hb5).tr gS
      have s5 : w.heap.size + 1 ≤ w5.heap.size := by have := (((hB2.tr hb3).tr hb4).tr hb5).size; simpa using this
      have hO5a := hO5.gr gS
      have b5 := hO5.block
      clear c0
      have c0 := HARG.out _ hB5
      clear ho3 ho4 hM3 hb3 hb4 hb5 hO5
      -- the program's arguments
      go_wp2_with fail
      refine (H3.out _ (hgG.tr hB5)).mono ?_
      rintro e w6 ⟨u6, rfl, M6, hM6, hO6, hb6⟩
      obtain ⟨a6, k6, e6, _, _⟩ := hO6.1.form
      subst e6
      have g6a := gr_al w6 (.cells #[.slice a6 M6.length k6] 32)
      have z6 := heap_alloc_new w6 (.cells #[.slice a6 M6.length k6] 32)
      have hB6 := (hB5.tr hb6).tr g6a
      have s6 : w5.heap.size + 1 ≤ w6.heap.size := by have := hb6.size; simpa using this
      have hO6 := OwnN.of_T hO6
      have b6 := hO6.block
      simp only [World.size_alloc] at b6
      clear c0
      have c0 := HARG.out _ hB6
      go_wp2_with fail
      refine (H4.out _ (hgG.tr hB6)).mono ?_
      rintro e w7 ⟨u7, rfl, hO7, hb7⟩
      obtain ⟨a7, k7, e7, _, _⟩ := hO7.form
      subst e7
      have hB7 := hB6.tr hb7
      have s7 : w6.heap.size + 1 ≤ w7.heap.size := by have := hb7.size; simpa using this
      have b7 := hO7.block
      simp only [World.size_alloc] at b7
      have z6b := (hb7.block _ (lt_of_block z6)).trans z6
      obtain ⟨x6, _⟩ := row1 z6b
      have rd6 := hO6.flR2.below (g6a.tr hb7) (Nat.le_refl _)
      have rd7 := hO7.reads (fun _ _ => rfl)
      clear c0
      -- the program's answer
      go_wp2_with fail
      refine (H2.out _ _ _ M6 _ _ _ _ (hok.gr (hgG.tr hB7)) rd6 hM6 ((g6a.tr hb7).size) rd7 (Nat.le_refl _)).mono ?_
      rintro e w8 ⟨u8, M8, rfl, hM8, hO8, hb8⟩
      obtain ⟨a8, k8, e8, _, _⟩ := hO8.1.form
      subst e8
      have g8a := gr_al w8 (.cells #[.slice a8 M8.length k8] 32)
      have z8 := heap_alloc_new w8 (.cells #[.slice a8 M8.length k8] 32)
      have g78 := hb8.tr g8a
      have hB8 := hB7.tr g78
      have s8 : w7.heap.size ≤ w8.heap.size := hb8.size
      have b8 := hO8.block
      have hJ : JK (w8.alloc (.cells #[.slice a8 M8.length k8] 32)) [(w.heap.size, .cells #[.slice ta L.length tc] 24), (w5.heap.size, .cells #[.slice a5 M5.length k5] 32), (w6.heap.size, .cells #[.slice a6 M6.length k6] 32), (w8.heap.size, .cells #[.slice a8 M8.length k8] 32)] 38 80 [(0, .slice a5 M5.length k5, M5), (0, .slice a6 M6.length k6, M6), (0, .slice a8 M8.length k8, M8)] := by
        refine ⟨?_, ?_⟩
        · simp only [List.forall_mem_cons, List.not_mem_nil, false_imp_iff, implies_true, and_true]
          exact ⟨(hB8.block _ (lt_of_block HA.out)).trans HA.out, (((hb6.tr g6a).tr (hb7.tr g78)).block _ (lt_of_block z5)).trans z5, (g78.block _ (lt_of_block z6b)).trans z6b, z8⟩
        · simp only [List.forall_mem_cons, List.not_mem_nil, false_imp_iff, implies_true, and_true]
          exact ⟨(hO5a.gr ((hb6.tr g6a).tr (hb7.tr g78))).mono (Nat.zero_le _), (hO6.gr ((g6a.tr hb7).tr g78)).mono (Nat.zero_le _), (hO8.gr g8a).mono (Nat.zero_le _)⟩
      have hJW : ∀ W, Gr (w8.alloc (.cells #[.slice a8 M8.length k8] 32)) W → JK W _ _ _ _ := fun W h => hJ.gr h
      have hO7W := fun W (h : Gr (w8.alloc (.cells #[.slice a8 M8.length k8] 32)) W) => Own.keep hO7 (fun b hb => ((g78.tr h).block b (hO7.block b hb).2))
      have HJ := Lib.hid hJW
      have HO7 := Lib.hid hO7W
      have HM5 := Lib.hid hM5
      have HM6 := Lib.hid hM6
      have HM8 := Lib.hid hM8
      clear hJ hJW hO7W hO5a hO6 hO7 hO8 rd6 rd7 z5 z6 z6b z8 x6 hb6 g6a hb7 hb8 g8a g78 hM5 hM6 hM8 hB5 hB6 hB7 gS
      have hgw8 := hgG.tr hB8
      -- what cells hold, by the blocks
      have hcells : ∀ W, JK W [(w.heap.size, .cells #[.slice ta L.length tc] 24), (w5.heap.size, .cells #[.slice a5 M5.length k5] 32), (w6.heap.size, .cells #[.slice a6 M6.length k6] 32), (w8.heap.size, .cells #[.slice a8 M8.length k8] 32)] 38 80 [(0, .slice a5 M5.length k5, M5), (0, .slice a6 M6.length k6, M6), (0, .slice a8 M8.length k8, M8)] → W.cell? ⟨w.heap.size, 0, none⟩ = some (.slice ta L.length tc) ∧ (W.cell? ⟨w5.heap.size, 0, none⟩ = some (.slice a5 M5.length k5) ∧ W.cell? ⟨w6.heap.size, 0, none⟩ = some (.slice a6 M6.length k6) ∧ W.cell? ⟨w8.heap.size, 0, none⟩ = some (.slice a8 M8.length k8)) ∧ (OwnN W 0 38 6 eF 80 5 eSt Fil.body (.slice a5 M5.length k5) M5 ∧ OwnN W 0 38 6 eF 80 5 eSt Fil.body (.slice a6 M6.length k6) M6 ∧ OwnN W 0 38 6 eF 80 5 eSt Fil.body (.slice a8 M8.length k8) M8) := by
        intro W h
        obtain ⟨hl, hA⟩ := h
        simp only [List.forall_mem_cons, List.not_mem_nil, false_imp_iff, implies_true, and_true] at hl hA
        obtain ⟨l1, l3, l4, l6⟩ := hl
        exact ⟨(row1 l1).1, ⟨(row1 l3).1, (row1 l4).1, (row1 l6).1⟩, hA⟩
      have HC := Lib.hid hcells
      clear hcells
      obtain ⟨c0, ⟨d5, d6, d8⟩, o5, o6, o8⟩ := HC.out _ (HJ.out _ (Gr.rfl' _))
      go_wp2_with fail
      refine (eqTree_any _ _ M8 M5 _ o8.flR2 o5.flR2 (HM8.out.trans HM5.out.symm) (Nat.le_refl _) (Nat.le_refl _)).mono ?_
      rintro e w9 ⟨rfl, hb9⟩
      clear c0 d5 d6 d8 o5 o6 o8
      -- the arguments' copies
      have hall8 : ∀ W, Gr (w8.alloc (.cells #[.slice a8 M8.length k8] 32)) W → Gr (w8.alloc (.cells #[.slice a8 M8.length k8] 32)) W ∧ W.cell? ⟨w.heap.size, 0, none⟩ = some (.slice ta L.length tc) ∧ W.cell? ⟨w6.heap.size, 0, none⟩ = some (.slice a6 M6.length k6) := fun W h => by
        obtain ⟨q1, ⟨_, q2, _⟩, _⟩ := HC.out _ (HJ.out _ h)
        exact ⟨h, q1, q2⟩
      have HALL8 := Lib.hid hall8
      clear hall8
      go_wp2
      refine wp_region_held_drew (S := (fun W => Gr (w8.alloc (.cells #[.slice a8 M8.length k8] 32)) W ∧ W.cell? ⟨w.heap.size, 0, none⟩ = some (.slice ta L.length tc) ∧ W.cell? ⟨w6.heap.size, 0, none⟩ = some (.slice a6 M6.length k6))) (by kernel_rfl) (HALL8.out _ (below_drewN hb9 1)) (fun hT0 => ?_)
      refine wpAnyH_take (i := 0) (v := ?_) rfl (by kernel_rfl) (by kernel_rfl) (by kernel_rfl) (fun _ _ _ h => h) (Or.inl ⟨by rfl, ?_⟩) hT0 ?_
      rotate_left
      · (intro W hSw; (try dsimp only at hSw); go_simp; try (with_reducible rfl))
      try simp only [Act.put, List.getElem_toArray, List.getElem_cons_succ, List.getElem_cons_zero, List.setIfInBounds_toArray, List.set_cons_zero, List.set_cons_succ]
      refine wpAnyH_take (i := 1) (v := ?_) rfl (by kernel_rfl) (by kernel_rfl) (by kernel_rfl) (fun _ _ _ h => h) (Or.inl ⟨by rfl, ?_⟩) hT0 ?_
      rotate_left
      · (intro W hSw; (try dsimp only at hSw); go_simp; try (with_reducible rfl))
      try simp only [Act.put, List.getElem_toArray, List.getElem_cons_succ, List.getElem_cons_zero, List.setIfInBounds_toArray, List.set_cons_zero, List.set_cons_succ]
      refine wpAnyH_ready (rs := [2]) (by kernel_rfl) (by simp) ?_
      refine AllReadyH.cons rfl (fun K hK => ?_) AllReadyH.nil
      go_simp
      refine (H3.out _ (hgw8.tr hT0.1)).mono ?_
      rintro e w10 ⟨u10, rfl, M10, hM10, ho10, hb10⟩
      try go_wp2_with fail
      refine hK.out _ _ (HALL8.out _ (hT0.1.tr hb10)) (fun hT1 => ?_)
      clear hK K
      try simp only [Act.put, List.getElem_toArray, List.getElem_cons_succ, List.getElem_cons_zero, List.setIfInBounds_toArray, List.set_cons_zero, List.set_cons_succ]
      refine wpAnyH_ready (rs := [3]) (by kernel_rfl) (by simp) ?_
      refine AllReadyH.cons rfl (fun K hK => ?_) AllReadyH.nil
      go_simp
      refine (eqTree_any _ u10 M6 M10 _ ((HC.out _ (HJ.out _ hT1.1)).2.2.2.1).flR2 ho10.reads (HM6.out.trans hM10.symm) (Nat.le_refl _) (Nat.le_refl _)).mono ?_
      rintro e w11 ⟨rfl, hb11⟩
      try go_wp2_with fail
      refine hK.out _ _ (HALL8.out _ (hT1.1.tr hb11)) (fun hT2 => ?_)
      clear hK K
      try simp only [Act.put, List.getElem_toArray, List.getElem_cons_succ, List.getElem_cons_zero, List.setIfInBounds_toArray, List.set_cons_zero, List.set_cons_succ]
      refine wpAnyH_take (i := 4) (v := ?_) rfl (by kernel_rfl) (by kernel_rfl) (by kernel_rfl) (fun _ _ _ h => h) (Or.inl ⟨by rfl, ?_⟩) hT2 ?_
      rotate_left
      · (intro W hSw; (try dsimp only at hSw); go_simp; try (with_reducible rfl))
      try simp only [Act.put, List.getElem_toArray, List.getElem_cons_succ, List.getElem_cons_zero, List.setIfInBounds_toArray, List.set_cons_zero, List.set_cons_succ]
      refine wpAnyH_done (by kernel_rfl) ?_ _
      have hB11 := hT2.1
      clear hT0 hT1 hT2
      go_wp2_with fail
      refine (H4.out _ (hgw8.tr hB11)).mono ?_
      rintro e w12 ⟨u12, rfl, ho12, hb12⟩
      have hB12 := hB11.tr hb12
      obtain ⟨a12, k12, e12, _, _⟩ := ho12.form
      subst e12
      go_wp2_with fail
      refine (eqStmtS_any (.slice a7 b.length k7) (.slice a12 b.length k12) b _ ((HO7.out _ hB12).reads (fun _ _ => rfl)) (ho12.reads (fun _ _ => rfl)) (Nat.le_refl _) (Nat.le_refl _)).mono ?_
      rintro e w13 ⟨rfl, hb13⟩
      have hB13 := hB12.tr hb13
      obtain ⟨_, c0, d6⟩ := HALL8.out _ hB13
      have hJ13 := HJ.out _ hB13
      obtain ⟨_, _, o5, o6, o8⟩ := HC.out _ hJ13
      have o7 := HO7.out _ hB13
      have hk6 := HKL.out M6 HM6.out
      have hmk6 := markTree_any _ M6 _ 1 o6 (by omega) (by omega)
      obtain ⟨K1, hK1⟩ : ∃ K1, kF 1 (M6.map fun r => r.1.body.length) = K1 := ⟨_, rfl⟩
      rw [hK1] at hmk6 hk6
      have h1K := kF_le 1 (M6.map fun r => r.1.body.length)
      rw [hK1] at h1K
      have HMK := Lib.hid hmk6
      clear hmk6 hK1 ho12 hb12
      -- marks in the arguments
      go_wp2_with fail
      refine HMK.out.mono ?_
      rintro e w14 ⟨rfl, _, hc14⟩
      have o7' := o7.chg hc14 (fun b hb q => by have := (b7 b hb).1; have := (b6 b q).2; omega)
      clear c0 d6
      have hmf := markStmtS_any _ b _ K1 o7' (by omega) (by omega)
      obtain ⟨K2, hK2⟩ : ∃ K2 : Nat, K1 + 5 * b.length = K2 := ⟨_, rfl⟩
      rw [hK2] at hmf
      have HMF := Lib.hid hmf
      have hK2n : ¬ (K2 : Int) < 0 := by omega
      clear hmf hK2
      go_wp2_with fail
      refine HMF.out.mono ?_
      rintro e w15 ⟨rfl, _, hg15⟩
      have hcm : ChgN (fun b => w5.heap.size + 1 ≤ b ∧ b < w7.heap.size ∧ b ≠ w6.heap.size) _ w15 := (hc14.mono (fun b q => by have := b6 b q; omega)).trans (ChgN.of_grown hg15 (fun b q => by have := b7 b q; omega))
      have hB15 : Gr w w15 := Imp.Below.chg (hgw8.tr hB13) hcm (hgw8.tr hB13).size (fun i q => by omega)
      have hl15 : ∀ x ∈ [(w.heap.size, .cells #[.slice ta L.length tc] 24), (w5.heap.size, .cells #[.slice a5 M5.length k5] 32), (w6.heap.size, .cells #[.slice a6 M6.length k6] 32), (w8.heap.size, .cells #[.slice a8 M8.length k8] 32)], w15.heap[x.1]? = some x.2 := fun x hx =>
        (hcm.block x.1 (lt_of_block (hJ13.1 x hx)) (by
          simp only [List.mem_cons, List.not_mem_nil, or_false] at hx
          rcases hx with rfl | rfl | rfl | rfl <;> (dsimp only; omega))).trans (hJ13.1 x hx)
      have o5' := o5.chg hcm (fun b hb q => by have := b5 b hb; omega)
      have o8' := o8.chg hcm (fun b hb q => by have := b8 b hb; omega)
      have hJ15 : ∀ W, Gr w15 W → W.cell? ⟨w.heap.size, 0, none⟩ = some (.slice ta L.length tc) ∧ (W.cell? ⟨w5.heap.size, 0, none⟩ = some (.slice a5 M5.length k5) ∧ W.cell? ⟨w8.heap.size, 0, none⟩ = some (.slice a8 M8.length k8)) ∧ (OwnN W 0 38 6 eF 80 5 eSt Fil.body (.slice a5 M5.length k5) M5 ∧ OwnN W 0 38 6 eF 80 5 eSt Fil.body (.slice a8 M8.length k8) M8) := fun W h => by
        have q : ∀ x ∈ [(w.heap.size, .cells #[.slice ta L.length tc] 24), (w5.heap.size, .cells #[.slice a5 M5.length k5] 32), (w6.heap.size, .cells #[.slice a6 M6.length k6] 32), (w8.heap.size, .cells #[.slice a8 M8.length k8] 32)], W.heap[x.1]? = some x.2 := fun x hx => (h.block x.1 (lt_of_block (hl15 x hx))).trans (hl15 x hx)
        simp only [List.forall_mem_cons, List.not_mem_nil, false_imp_iff, implies_true, and_true] at q
        obtain ⟨l1, l3, l4, l6⟩ := q
        exact ⟨(row1 l1).1, ⟨(row1 l3).1, (row1 l6).1⟩, o5'.gr h, o8'.gr h⟩
      have hL15 : ∀ W, Gr w15 W → W.heap[w.heap.size]? = some (.cells #[.slice ta L.length tc] 24) ∧ W.heap[w5.heap.size]? = some (.cells #[.slice a5 M5.length k5] 32) ∧ W.heap[w8.heap.size]? = some (.cells #[.slice a8 M8.length k8] 32) := fun W h => by
        have q := fun x hx => (h.block x.1 (lt_of_block (hl15 x hx))).trans (hl15 x hx)
        exact ⟨q (w.heap.size, _) (by simp), q (w5.heap.size, _) (by simp), q (w8.heap.size, _) (by simp)⟩
      have HL15 := Lib.hid hL15
      have H15 := Lib.hid hJ15
      clear hL15 hJ15 hJ13 hl15 o5 o6 o7 o8 o7' hc14 hg15 hcm o5' o8' HJ HO7 HALL8 HC
      obtain ⟨c0, ⟨d5, d8⟩, o5, o8⟩ := H15.out _ (Gr.rfl' _)
      go_wp2_with fail
      refine (eqTree_any _ _ M8 M5 _ o8.flR2 o5.flR2 (HM8.out.trans HM5.out.symm) (Nat.le_refl _) (Nat.le_refl _)).mono ?_
      rintro e w16 ⟨rfl, hb16⟩
      clear c0 d5 d8 o5 o8
      obtain ⟨c0, ⟨d5, d8⟩, o5, o8⟩ := H15.out _ hb16
      have hcb : ∀ W : World, (∀ b o, (b < w7.heap.size + 2 ∨ w8.heap.size ≤ b) → w16.heap[b]? = some o → W.heap[b]? = some o) → W.cell? ⟨w.heap.size, 0, none⟩ = some (.slice ta L.length tc) ∧ (W.cell? ⟨w5.heap.size, 0, none⟩ = some (.slice a5 M5.length k5) ∧ W.cell? ⟨w8.heap.size, 0, none⟩ = some (.slice a8 M8.length k8)) := fun W g => by
        obtain ⟨l1, l3, l6⟩ := HL15.out _ hb16
        exact ⟨(row1 (g _ _ (Or.inl (by omega)) l1)).1, (row1 (g _ _ (Or.inl (by omega)) l3)).1, (row1 (g _ _ (Or.inr (by omega)) l6)).1⟩
      have HCB := Lib.hid hcb
      clear hcb
      have hk8 := HKT.out M8 HM8.out
      have hmk8 := markTree_any _ M8 _ 1 o8 (by omega) (by omega)
      obtain ⟨ns, hns⟩ : ∃ ns, (M8.map fun r => r.1.body.length) = ns := ⟨_, rfl⟩
      rw [hns] at hmk8 hk8
      obtain ⟨K3, hK3⟩ : ∃ K3, kF 1 ns = K3 := ⟨_, rfl⟩
      rw [hK3] at hmk8
      have HMK8 := Lib.hid hmk8
      clear hmk8
      go_wp2_with fail
      refine HMK8.out.mono ?_
      rintro e w17 ⟨rfl, ⟨M9, hM9, hM9s, o9⟩, hc17⟩
      have hB17 : Gr w w17 := Imp.Below.chg (hB15.tr hb16) hc17 (hB15.tr hb16).size (fun i q => by have := (b8 i q).1; omega)
      have hp8 : ∀ i, ownsN (.slice a8 M8.length k8) M8 i → w7.heap.size + 2 ≤ i ∧ i < w8.heap.size := b8
      have zz : ∀ b o, (b < w7.heap.size + 2 ∨ w8.heap.size ≤ b) → b < w16.heap.size → w16.heap[b]? = some o → w17.heap[b]? = some o := fun b o h1 h2 h3 => (hc17.block b h2 (fun q => by have := hp8 b q; omega)).trans h3
      have o5w := o5.chg hc17 (fun b hb q => by have := b5 b hb; have := hp8 b q; omega)
      have o9l : M9.length = M8.length := by have := congrArg List.length hM9s; simpa using this
      rw [← o9l] at o9
      have held : ∀ W, Gr w17 W → Calls Tryd.prog 20 #[.agg #[.slice a8 M8.length k8], .int .i64 1] W fun e w' => e = .returned (.int .i64 (K3 : Int)) ∧ Gr W w' := fun W h => by
        have := heldTree_any _ M9 ns W 1 (o9.gr h).flR2 hM9 (Nat.le_refl _) (by omega) (by omega)
        rw [hK3, o9l] at this
        exact this
      have hch : ∀ W, Gr w17 W → W.cell? ⟨w.heap.size, 0, none⟩ = some (.slice ta L.length tc) ∧ (W.cell? ⟨w5.heap.size, 0, none⟩ = some (.slice a5 M5.length k5) ∧ W.cell? ⟨w8.heap.size, 0, none⟩ = some (.slice a8 M8.length k8)) ∧ OwnN W 0 38 6 eF 80 5 eSt Fil.body (.slice a5 M5.length k5) M5 := fun W h => by
        have g := fun b o (h1 : b < w7.heap.size + 2 ∨ w8.heap.size ≤ b) (h3 : w16.heap[b]? = some o) => (h.block b (lt_of_block (zz b o h1 (lt_of_block h3) h3))).trans (zz b o h1 (lt_of_block h3) h3)
        exact ⟨(HCB.out W g).1, (HCB.out W g).2, o5w.gr h⟩
      have HCH := Lib.hid hch
      have HHE := Lib.hid held
      clear hch held zz o9 o5w hM9 hM9s hc17 o5 o8
      have hK3n : ¬ (K3 : Int) < 0 := by omega
      have qk : ((K3 : Int) != (K3 : Int)) = false := by simp
      clear c0 d5 d8
      obtain ⟨c0, ⟨d5, d8⟩, _⟩ := HCH.out _ (Gr.rfl' _)
      go_wp2_with fail
      refine (HHE.out _ (Gr.rfl' _)).mono ?_
      rintro e w18 ⟨rfl, hb18⟩
      clear c0 d5 d8
      have c0 := (HCH.out _ hb18).1
      -- another call
      go_wp2_with fail
      refine (H3.out _ (hB17.tr hb18)).mono ?_
      rintro e w19 ⟨u19, rfl, M19, hM19, ho19, hb19⟩
      go_wp2_with fail
      refine (H4.out _ ((hB17.tr hb18).tr hb19)).mono ?_
      rintro e w20 ⟨u20, rfl, ho20, hb20⟩
      obtain ⟨a19, k19, e19, _, _⟩ := ho19.1.form
      subst e19
      obtain ⟨a20, k20, e20, _, _⟩ := ho20.form
      subst e20
      go_wp2_with fail
      refine (H2.out _ _ _ M19 _ _ _ _ (hok.gr (((hB17.tr hb18).tr hb19).tr hb20)) (ho19.reads.below hb20 (Nat.le_refl _)) hM19 hb20.size (ho20.reads (fun _ _ => rfl)) (Nat.le_refl _)).mono ?_
      rintro e w21 ⟨u21, M21, rfl, hM21, hO21, hb21⟩
      obtain ⟨a21, k21, e21, _, _⟩ := hO21.1.form
      subst e21
      have gZ := gr_al w21 (.cells #[.slice a21 M21.length k21] 32)
      have z21 := heap_alloc_new w21 (.cells #[.slice a21 M21.length k21] 32)
      have hB21 := (((hb18.tr hb19).tr hb20).tr hb21).tr gZ
      clear c0
      obtain ⟨_, ⟨d5, d8⟩, o5⟩ := HCH.out _ hB21
      obtain ⟨d21, _⟩ := row1 z21
      have rd21 := (hO21.gr gZ).flR2
      clear hb18 hb19 hb20 hb21 z21 gZ
      go_wp2_with fail
      refine (eqTree_any _ _ M21 M5 _ rd21 o5.flR2 (hM21.trans HM5.out.symm) (Nat.le_refl _) (Nat.le_refl _)).mono ?_
      rintro e w22 ⟨rfl, hb22⟩
      have hb22 := hB21.tr hb22
      clear d5 d8 d21 o5
      obtain ⟨_, ⟨d5, d8⟩, _⟩ := HCH.out _ hb22
      go_wp2_with fail
      refine (HHE.out _ hb22).mono ?_
      rintro e w23 ⟨rfl, hb23⟩
      go_wp2
      go_ret
      exact ⟨rfl, (hB17.tr hb22).tr hb23⟩
end Go.Proofs.YtomndnlpogikdaaDoor
