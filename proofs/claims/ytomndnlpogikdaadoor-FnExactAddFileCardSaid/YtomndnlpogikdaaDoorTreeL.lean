/-
  Walk of the law on files added to trees. Printed by treel.py.
-/
import Derived.Test.YtomndnlpogikdaaDoorTreeA
import Derived.Test.YtomndnlpogikdaaDoorTreeN
import Derived.Test.YtomndnlpogikdaaDoorOpen
namespace Imp
open Go Go.RowKit
/-- Blocks that are whole, and trees that the call owns. -/
def JJ (W : World) (l : List (Nat × Obj)) (tF tS : Nat) (A : List (Nat × Value × List FR)) : Prop :=
  (∀ x ∈ l, W.heap[x.1]? = some x.2) ∧ ∀ x ∈ A, OwnN W x.1 tF 6 eF tS 5 eSt Fil.body x.2.1 x.2.2
theorem JJ.chg {p : Nat → Prop} {W W' : World} {l : List (Nat × Obj)} {tF tS : Nat} {A : List (Nat × Value × List FR)} (h : JJ W l tF tS A) (g : ChgN p W W') (hl : ∀ x ∈ l, ¬ p x.1) (hA : ∀ x ∈ A, ∀ b, ownsN x.2.1 x.2.2 b → ¬ p b) : JJ W' l tF tS A :=
  ⟨fun x hx => (g.block x.1 (lt_of_block (h.1 x hx)) (hl x hx)).trans (h.1 x hx), fun x hx => (h.2 x hx).chg g (hA x hx)⟩
theorem JJ.gr {W W' : World} {l : List (Nat × Obj)} {tF tS : Nat} {A : List (Nat × Value × List FR)} (h : JJ W l tF tS A) (g : Below W.heap.size W W') : JJ W' l tF tS A :=
  h.chg (p := fun _ => False) (ChgN.of_gr g) (fun _ _ q => q) (fun _ _ _ _ q => q)
end Imp
namespace Go.Proofs.YtomndnlpogikdaaDoor
open Go Go.RowKit Imp
set_option linter.unusedVariables false
set_option linter.unusedSimpArgs false
theorem markFile_any {base : Nat} (f : Fil) (u : Value) (w : World) (k0 : Nat) (ho : Own w base 80 5 eSt u f.body) (h0 : 1 ≤ k0) (hk : k0 + 5 * f.body.length ≤ 42949670) :
    Calls Tryd.prog 19 #[vF (f, u), .int .i64 k0] w fun e w' => e = .returned (.int .i64 ((k0 + 5 * f.body.length : Nat) : Int)) ∧ Own w' base 80 5 eSt u (marksB k0 f.body.length) ∧ w.grownBy w' u.ownBlock := by
  have h := fun o => markStmtS_any u f.body (w.alloc o) k0 (ho.alloc o) h0 hk
  obtain ⟨R, hR⟩ : ∃ R : Nat, R = k0 + 5 * f.body.length := ⟨_, rfl⟩
  rw [← hR] at h ⊢
  have H := Lib.hid h
  obtain ⟨ua, uc, rfl, _, _⟩ := ho.form
  clear h hR ho
  go_enter Tryd.func19, Tryd.ntmps19
  go_wp2_with fail
  refine (H.out _).mono ?_
  rintro e w2 ⟨rfl, ho2, hb2⟩
  go_wp2
  go_ret
  exact ⟨rfl, ho2, grown_tr (Imp.grown_gr (gr_al _ _)) hb2⟩
set_option maxRecDepth 20000 in
set_option maxHeartbeats 6400000 in
theorem walk_FnExactAddFile (w : World) (hok : OkW w) (v : Value) (L : List FR) (hL : ∃ u, v = .agg #[u] ∧ FlR w 0 w.heap.size u L ∧ ∀ r ∈ L, okF r.1) (v2 : Value) (r : FR) (hF : v2 = vF r ∧ okF r.1 ∧ BodyR w 0 w.heap.size r) :
    Calls Tryd.prog 3 #[v, v2] w fun e w' => e = .returned (.bool true) ∧ Below w.heap.size w w' := by
  obtain ⟨u, rfl, hfl, hsz⟩ := hL
  obtain ⟨rfl, hszf, hbf⟩ := hF
  obtain ⟨f, fv⟩ := r
  have hbf : SlR w 0 w.heap.size 5 eSt fv f.body := hbf
  obtain ⟨ta, tc, rfl, _, _⟩ := hfl.1.form
  obtain ⟨fa, fc, rfl, _, _⟩ := hbf.form
  have hgG := gr_al2 w (.cells #[.slice ta L.length tc] 24) (.cells #[.int .i64 f.root, .string f.pkg, .string f.name, .bool f.init, .int .i64 f.stamp, .slice fa f.body.length fc] 27)
  have hA := (Below.heap_alloc (w.alloc (.cells #[.slice ta L.length tc] 24)) (.cells #[.int .i64 f.root, .string f.pkg, .string f.name, .bool f.init, .int .i64 f.stamp, .slice fa f.body.length fc] 27) w.heap.size (by simp)).trans (heap_alloc_new w (.cells #[.slice ta L.length tc] 24))
  have hB := heap_alloc2_new w (.cells #[.slice ta L.length tc] 24) (.cells #[.int .i64 f.root, .string f.pkg, .string f.name, .bool f.init, .int .i64 f.stamp, .slice fa f.body.length fc] 27)
  have hbT := fun W (h : Gr w W) => hfl.below h (Nat.le_refl _)
  have hbF := fun W (h : Gr w W) => SlR.below hbf h (Nat.le_refl _)
  have hargs : ∀ W, Gr ((w.alloc (.cells #[.slice ta L.length tc] 24)).alloc (.cells #[.int .i64 f.root, .string f.pkg, .string f.name, .bool f.init, .int .i64 f.stamp, .slice fa f.body.length fc] 27)) W → W.cell? ⟨w.heap.size, 0, none⟩ = some (.slice ta L.length tc) ∧ (W.cell? ⟨w.heap.size + 1, 0, none⟩ = some (.int .i64 f.root) ∧ W.cell? ⟨w.heap.size + 1, 1, none⟩ = some (.string f.pkg) ∧ W.cell? ⟨w.heap.size + 1, 2, none⟩ = some (.string f.name) ∧ W.cell? ⟨w.heap.size + 1, 3, none⟩ = some (.bool f.init) ∧ W.cell? ⟨w.heap.size + 1, 4, none⟩ = some (.int .i64 f.stamp) ∧ W.cell? ⟨w.heap.size + 1, 5, none⟩ = some (.slice fa f.body.length fc)) := fun W h => ⟨(row1 ((h.block w.heap.size (by simp <;> omega)).trans hA)).1, cells6 hB h⟩
  have HT := Lib.hid hbT
  have HF := Lib.hid hbF
  have HA := Lib.hid hA
  have HB := Lib.hid hB
  have HARG := Lib.hid hargs
  obtain ⟨c0, f0, f1, f2, f3, f4, f5⟩ := hargs _ (Gr.rfl' _)
  clear hfl hbf hbT hbF hargs hA hB
  go_enter Tryd.func3, Tryd.ntmps3
  go_wp2_with fail
  refine (szTree_any _ L _ _ (HT.out _ hgG) (by simp; omega) hsz (by omega) (by omega)).mono ?_
  rintro e w1 ⟨q, rfl, hq, hql, hB1⟩
  have hg1 := Gr.tr hgG hB1
  clear c0
  clear f0 f1 f2 f3 f4 f5
  obtain ⟨c0, f0, f1, f2, f3, f4, f5⟩ := HARG.out _ hB1
  by_cases h0 : q < 0
  · go_wp2
    go_ret
    exact ⟨rfl, hg1⟩
  · have htot := hq (by omega)
    go_wp2_with fail
    refine (szFile_any (f, .slice fa f.body.length fc) _ _ (HF.out _ hg1) hg1.size hszf (by omega) (by omega)).mono ?_
    rintro e w2 ⟨q2, rfl, hq2, hql2, hb2⟩
    have hB2 := Gr.tr hB1 hb2
    clear c0
    clear f0 f1 f2 f3 f4 f5
    obtain ⟨c0, f0, f1, f2, f3, f4, f5⟩ := HARG.out _ hB2
    by_cases h02 : q2 < 0
    · go_wp2
      go_ret
      exact ⟨rfl, hg1.tr hb2⟩
    · have htot2 := hq2 (by omega)
      unfold szF at htot2
      simp only at htot2
      have hlen : L.length ≤ 1048576 := by omega
      have hszF : ∀ r ∈ L, szF r.1 ≤ 1048576 := fun r hr => by have := totF_mem hr; omega
      have hbn : ∀ r ∈ L, r.1.body.length ≤ 1048576 := fun r hr => by have := hszF r hr; unfold szF at this; omega
      have hsmL : ∀ r ∈ L, SmF r := fun r hr => by
        have := hszF r hr
        unfold szF at this
        exact ⟨by omega, by omega, fun s hs => by have := totB_mem hs; omega⟩
      have hsmf : ∀ fv', SmF (f, fv') := fun fv' => ⟨by show f.pkg.size ≤ _; omega, by show f.name.size ≤ _; omega, fun s (hs : s ∈ f.body) => by have := totB_mem hs; omega⟩
      have hflen : f.body.length ≤ 1048576 := by omega
      obtain ⟨B, hB⟩ : ∃ B, (okTree (L.map (·.1)) && okTree (L.map (·.1) ++ [f])) = B := ⟨_, rfl⟩
      obtain ⟨T, hT⟩ : ∃ T, (if B then L.map (·.1) ++ [f] else []) = T := ⟨_, rfl⟩
      have hadd : ∀ (g : Nat) (hc : g = 12 ∨ g = 15) lo hi vv (M : List FR) lo2 hi2 fv' W, OkW W → FlR W lo hi vv M → M.map (·.1) = L.map (·.1) → hi ≤ W.heap.size → SlR W lo2 hi2 5 eSt fv' f.body → hi2 ≤ W.heap.size →
          Calls Tryd.prog g #[.agg #[vv], vF (f, fv')] W fun e w' => ∃ u, ∃ M' : List FR, e = .returned (.tuple #[.agg #[u], .bool B]) ∧ M'.map (·.1) = T ∧ OwnN w' (W.heap.size + 2) 38 6 eF 80 5 eSt Fil.body u M' ∧ Gr W w' := by
        intro g hc lo hi vv M lo2 hi2 fv' W k hM e hhi hf' hhi2
        have hMl : M.length = L.length := by have := congrArg List.length e; simpa using this
        have hn' : ∀ r ∈ M, r.1.body.length ≤ 1048576 := fun r hr => by
          have : r.1 ∈ L.map (·.1) := by rw [← e]; exact List.mem_map_of_mem hr
          rw [List.mem_map] at this
          obtain ⟨r', hr', e'⟩ := this
          rw [← e']; exact hbn r' hr'
        rcases hc with rfl | rfl
        · have := sAddFile_any vv M f fv' W k hM hhi hf' hhi2 (by omega) hn' hflen (smF_of2 hsmL e) (hsmf fv')
          rw [e, hB] at this
          refine this.mono ?_
          rintro e w' ⟨u, M', h1, h2, h3, h4⟩
          rw [hT] at h2
          exact ⟨u, M', h1, h2, h3, h4⟩
        · have := iAddFile_any vv M f fv' W k hM hhi hf' hhi2 (by omega) hn' hflen (smF_of2 hsmL e) (hsmf fv')
          rw [e, hB] at this
          refine this.mono ?_
          rintro e w' ⟨u, M', h1, h2, h3, h4⟩
          rw [hT] at h2
          exact ⟨u, M', h1, h2, h3, h4⟩
      have h1 := hadd _ (Or.inl rfl)
      have h2 := hadd _ (Or.inr rfl)
      have h3 := fun W (h : Gr w W) => toTree_own _ L W (HT.out _ h) h.size hlen hbn
      have h4 := fun W (h : Gr w W) => toFile_own (f, .slice fa f.body.length fc) W (HF.out _ h) h.size hflen
      try simp only at h4
      have hkL : ∀ M : List FR, M.map (·.1) = L.map (·.1) → kF 1 (M.map fun r => r.1.body.length) ≤ 5242900 := fun M e => by
        rw [lens_of e]
        have := kF_bound 1 L
        omega
      have hkT : ∀ M : List FR, M.map (·.1) = T → kF 1 (M.map fun r => r.1.body.length) ≤ 21000000 := fun M e => by
        cases B
        · simp only [Bool.false_eq_true, if_false] at hT
          rw [← hT] at e
          have : M = [] := by simpa using e
          rw [this]; simp [kF]
        · simp only [if_true] at hT
          have e' : M.map (·.1) = (L ++ [(f, Value.slice fa f.body.length fc)]).map (·.1) := by rw [e, ← hT, List.map_append]; rfl
          rw [lens_of e']
          have := kF_bound 1 (L ++ [(f, Value.slice fa f.body.length fc)])
          rw [totF_snoc, List.length_append] at this
          unfold szF at this
          simp only [List.length_cons, List.length_nil] at this
          omega
      have qb : (B != B) = false := by simp
      have H1 := Lib.hid h1
      have H2 := Lib.hid h2
      have H3 := Lib.hid h3
      have H4 := Lib.hid h4
      have HKL := Lib.hid hkL
      have HKT := Lib.hid hkT
      clear hq hql htot hq2 hql2 htot2 h1 h2 h3 h4 hsz hszf hadd hB hT hszF hbn hsmL hsmf hkL hkT hlen
      have hg2 := hg1.tr hb2
      have hall : ∀ W, Gr ((w.alloc (.cells #[.slice ta L.length tc] 24)).alloc (.cells #[.int .i64 f.root, .string f.pkg, .string f.name, .bool f.init, .int .i64 f.stamp, .slice fa f.body.length fc] 27)) W → Gr ((w.alloc (.cells #[.slice ta L.length tc] 24)).alloc (.cells #[.int .i64 f.root, .string f.pkg, .string f.name, .bool f.init, .int .i64 f.stamp, .slice fa f.body.length fc] 27)) W ∧ W.cell? ⟨w.heap.size, 0, none⟩ = some (.slice ta L.length tc) ∧ (W.cell? ⟨w.heap.size + 1, 0, none⟩ = some (.int .i64 f.root) ∧ W.cell? ⟨w.heap.size + 1, 1, none⟩ = some (.string f.pkg) ∧ W.cell? ⟨w.heap.size + 1, 2, none⟩ = some (.string f.name) ∧ W.cell? ⟨w.heap.size + 1, 3, none⟩ = some (.bool f.init) ∧ W.cell? ⟨w.heap.size + 1, 4, none⟩ = some (.int .i64 f.stamp) ∧ W.cell? ⟨w.heap.size + 1, 5, none⟩ = some (.slice fa f.body.length fc)) := fun W h => ⟨h, HARG.out W h⟩
      have HALL := Lib.hid hall
      clear hall hb2 hB1
      -- the reference's answer
      go_wp2
      rename_i Q0 K0 hK0
      have KEY : ∀ (x29 x31 : Value) (a5 : Option Addr) (k5 : Nat) (M5 : List FR) (t n5 : Nat) (wa : World), M5.map (·.1) = T → Gr ((w.alloc (.cells #[.slice ta L.length tc] 24)).alloc (.cells #[.int .i64 f.root, .string f.pkg, .string f.name, .bool f.init, .int .i64 f.stamp, .slice fa f.body.length fc] 27)) wa → wa.heap[t]? = some (.cells #[.slice a5 M5.length k5] 32) → OwnN wa 0 38 6 eF 80 5 eSt Fil.body (.slice a5 M5.length k5) M5 → wa.heap.size = n5 + 1 → w.heap.size + 2 ≤ t → t ≤ n5 → K0 ⟨#[.agg #[.slice ta L.length tc], vF (f, .slice fa f.body.length fc), .pointer (some ⟨w.heap.size, 0, none⟩), .pointer (some ⟨w.heap.size + 1, 0, none⟩), .bool false, .int .i64 q2, .pointer (some ⟨t, 0, none⟩), .bool B, undef, undef, undef, undef, undef, undef, undef, undef, undef, .agg #[.slice ta L.length tc], .int .i64 1048576, .int .i64 q, .int .i64 q, .bool (decide (q < 0)), .agg #[.int .i64 f.root, .string f.pkg, .string f.name, .bool f.init, .int .i64 f.stamp, .slice fa f.body.length fc], .int .i64 q, .int .i64 q2, .int .i64 q2, .bool (decide (q2 < 0)), .tuple #[.agg #[.slice a5 M5.length k5], .bool B], .agg #[.slice ta L.length tc], x29, .agg #[.int .i64 f.root, .string f.pkg, .string f.name, .bool f.init, .int .i64 f.stamp, .slice fa f.body.length fc], x31, .tuple #[.agg #[.slice a5 M5.length k5], .bool B], .agg #[.slice a5 M5.length k5], .bool B, undef, undef, undef, undef, undef, undef, undef, undef, undef, undef, undef, undef, undef, undef, undef, undef, undef, undef, undef, undef, undef, undef, undef, undef, undef, undef, undef, undef, undef, undef, undef, undef, undef, undef, undef, undef, undef, undef, undef, undef, undef, undef, undef, undef, undef, undef, undef, undef, undef, undef, undef, undef, undef, undef, undef, undef, undef, undef, undef, undef, undef, undef, undef, undef, undef, undef, undef, undef, undef, undef, undef, undef, undef, undef, undef, undef, undef, undef, undef, undef, undef, undef, undef, undef], []⟩ wa := by
        intro x29 x31 a5 k5 M5 t n5 wa hM5 hB5 z5 hO5a swa s5 stn
        refine hK0 _ _ ?_
        clear hK0
        have b5 := hO5a.block
        have hgA := hgG.tr hB5
        clear c0
        clear f0 f1 f2 f3 f4 f5
        obtain ⟨c0, f0, f1, f2, f3, f4, f5⟩ := HARG.out _ hB5
        -- the program's arguments
        go_wp2_with fail
        refine (H3.out _ hgA).mono ?_
        rintro e w6 ⟨u6, rfl, M6, hM6, hO6, hb6⟩
        obtain ⟨a6, k6, e6, _, _⟩ := hO6.1.form
        subst e6
        have g6a := gr_al w6 (.cells #[.slice a6 M6.length k6] 32)
        have z6 := heap_alloc_new w6 (.cells #[.slice a6 M6.length k6] 32)
        have hB6 := (hB5.tr hb6).tr g6a
        have s6 : wa.heap.size ≤ w6.heap.size := hb6.size
        have hO6 := OwnN.of_T hO6
        have b6 := hO6.block
        rw [swa] at b6
        clear c0
        clear f0 f1 f2 f3 f4 f5
        obtain ⟨c0, f0, f1, f2, f3, f4, f5⟩ := HARG.out _ hB6
        go_wp2_with fail
        refine (H4.out _ (hgG.tr hB6)).mono ?_
        rintro e w7 ⟨u7, rfl, hO7, hb7⟩
        obtain ⟨a7, k7, e7, _, _⟩ := hO7.form
        subst e7
        have g7a := gr_al w7 (.cells #[.int .i64 f.root, .string f.pkg, .string f.name, .bool f.init, .int .i64 f.stamp, .slice a7 f.body.length k7] 38)
        have z7 := heap_alloc_new w7 (.cells #[.int .i64 f.root, .string f.pkg, .string f.name, .bool f.init, .int .i64 f.stamp, .slice a7 f.body.length k7] 38)
        have hB7 := (hB6.tr hb7).tr g7a
        have s7 : w6.heap.size + 1 ≤ w7.heap.size := by have := hb7.size; simpa using this
        have b7 := hO7.block
        simp only [World.size_alloc] at b7
        have g67 := hb7.tr g7a
        have z6b := (g67.block _ (lt_of_block z6)).trans z6
        obtain ⟨x6, _⟩ := row1 z6b
        obtain ⟨⟨y0, y1, y2, y3, y4, y5⟩, _⟩ := rows6o z7
        have rd6 := hO6.flR2.below (g6a.tr g67) (Nat.le_refl _)
        have rd7 := SlR.below (hO7.reads (fun _ _ => rfl)) g7a (Nat.le_refl _)
        clear c0
        clear f0 f1 f2 f3 f4 f5
        -- the program's answer
        go_wp2_with fail
        refine (H2.out _ _ _ M6 _ _ _ _ (hok.gr (hgG.tr hB7)) rd6 hM6 ((g6a.tr g67).size) rd7 g7a.size).mono ?_
        rintro e w8 ⟨u8, M8, rfl, hM8, hO8, hb8⟩
        obtain ⟨a8, k8, e8, _, _⟩ := hO8.1.form
        subst e8
        have g8a := gr_al w8 (.cells #[.slice a8 M8.length k8] 32)
        have z8 := heap_alloc_new w8 (.cells #[.slice a8 M8.length k8] 32)
        have hB8 := (hB7.tr hb8).tr g8a
        have s8 : w7.heap.size + 1 ≤ w8.heap.size := by have := hb8.size; simpa using this
        have b8 := hO8.block
        simp only [World.size_alloc] at b8
        have g78 := hb8.tr g8a
        have hJ : JJ (w8.alloc (.cells #[.slice a8 M8.length k8] 32)) [(w.heap.size, .cells #[.slice ta L.length tc] 24), (w.heap.size + 1, .cells #[.int .i64 f.root, .string f.pkg, .string f.name, .bool f.init, .int .i64 f.stamp, .slice fa f.body.length fc] 27), (t, .cells #[.slice a5 M5.length k5] 32), (w6.heap.size, .cells #[.slice a6 M6.length k6] 32), (w7.heap.size, .cells #[.int .i64 f.root, .string f.pkg, .string f.name, .bool f.init, .int .i64 f.stamp, .slice a7 f.body.length k7] 38), (w8.heap.size, .cells #[.slice a8 M8.length k8] 32)] 38 80
            [(0, .slice a5 M5.length k5, M5), (0, .slice a6 M6.length k6, M6), (0, .slice a8 M8.length k8, M8)] := by
          refine ⟨?_, ?_⟩
          · simp only [List.forall_mem_cons, List.not_mem_nil, false_imp_iff, implies_true, and_true]
            exact ⟨(hB8.block _ (lt_of_block ((Below.heap_alloc (w.alloc (.cells #[.slice ta L.length tc] 24)) (.cells #[.int .i64 f.root, .string f.pkg, .string f.name, .bool f.init, .int .i64 f.stamp, .slice fa f.body.length fc] 27) w.heap.size (by simp)).trans (heap_alloc_new w (.cells #[.slice ta L.length tc] 24))))).trans HA.out, (hB8.block _ (lt_of_block HB.out)).trans HB.out,
              (((hb6.tr g6a).tr (g67.tr g78)).block _ (lt_of_block z5)).trans z5, (g78.block _ (lt_of_block z6b)).trans z6b, (g78.block _ (lt_of_block z7)).trans z7, z8⟩
          · simp only [List.forall_mem_cons, List.not_mem_nil, false_imp_iff, implies_true, and_true]
            exact ⟨(hO5a.gr ((hb6.tr g6a).tr (g67.tr g78))).mono (Nat.zero_le _), (hO6.gr ((g6a.tr g67).tr g78)).mono (Nat.zero_le _), (hO8.gr g8a).mono (Nat.zero_le _)⟩
        have hJW : ∀ W, Gr (w8.alloc (.cells #[.slice a8 M8.length k8] 32)) W → JJ W _ _ _ _ := fun W h => hJ.gr h
        have hO7W := fun W (h : Gr (w8.alloc (.cells #[.slice a8 M8.length k8] 32)) W) => Own.keep hO7 (fun b hb => ((g7a.tr (g78.tr h)).block b (hO7.block b hb).2))
        have HJ := Lib.hid hJW
        have HO7 := Lib.hid hO7W
        have HM5 := Lib.hid hM5
        have HM6 := Lib.hid hM6
        have HM8 := Lib.hid hM8
        clear hJ hJW hO7W hO5a hO6 hO7 hO8 rd6 rd7 z5 z6 z6b z7 z8 x6 y0 y1 y2 y3 y4 y5 hb6 g6a hb7 g7a hb8 g8a g67 g78 hM5 hM6 hM8 hB5 hB6 hB7
        have hgw8 := hgG.tr hB8
        -- what cells hold, by the blocks
        have hcells : ∀ W, JJ W [(w.heap.size, .cells #[.slice ta L.length tc] 24), (w.heap.size + 1, .cells #[.int .i64 f.root, .string f.pkg, .string f.name, .bool f.init, .int .i64 f.stamp, .slice fa f.body.length fc] 27), (t, .cells #[.slice a5 M5.length k5] 32), (w6.heap.size, .cells #[.slice a6 M6.length k6] 32), (w7.heap.size, .cells #[.int .i64 f.root, .string f.pkg, .string f.name, .bool f.init, .int .i64 f.stamp, .slice a7 f.body.length k7] 38), (w8.heap.size, .cells #[.slice a8 M8.length k8] 32)] 38 80
            [(0, .slice a5 M5.length k5, M5), (0, .slice a6 M6.length k6, M6), (0, .slice a8 M8.length k8, M8)] →
            (W.cell? ⟨w.heap.size, 0, none⟩ = some (.slice ta L.length tc) ∧ (W.cell? ⟨w.heap.size + 1, 0, none⟩ = some (.int .i64 f.root) ∧ W.cell? ⟨w.heap.size + 1, 1, none⟩ = some (.string f.pkg) ∧ W.cell? ⟨w.heap.size + 1, 2, none⟩ = some (.string f.name) ∧ W.cell? ⟨w.heap.size + 1, 3, none⟩ = some (.bool f.init) ∧ W.cell? ⟨w.heap.size + 1, 4, none⟩ = some (.int .i64 f.stamp) ∧ W.cell? ⟨w.heap.size + 1, 5, none⟩ = some (.slice fa f.body.length fc))) ∧ (W.cell? ⟨t, 0, none⟩ = some (.slice a5 M5.length k5) ∧ W.cell? ⟨w6.heap.size, 0, none⟩ = some (.slice a6 M6.length k6) ∧ W.cell? ⟨w8.heap.size, 0, none⟩ = some (.slice a8 M8.length k8)) ∧ (W.cell? ⟨w7.heap.size, 0, none⟩ = some (.int .i64 f.root) ∧ W.cell? ⟨w7.heap.size, 1, none⟩ = some (.string f.pkg) ∧ W.cell? ⟨w7.heap.size, 2, none⟩ = some (.string f.name) ∧ W.cell? ⟨w7.heap.size, 3, none⟩ = some (.bool f.init) ∧ W.cell? ⟨w7.heap.size, 4, none⟩ = some (.int .i64 f.stamp) ∧ W.cell? ⟨w7.heap.size, 5, none⟩ = some (.slice a7 f.body.length k7)) ∧
            (OwnN W 0 38 6 eF 80 5 eSt Fil.body (.slice a5 M5.length k5) M5 ∧ OwnN W 0 38 6 eF 80 5 eSt Fil.body (.slice a6 M6.length k6) M6 ∧ OwnN W 0 38 6 eF 80 5 eSt Fil.body (.slice a8 M8.length k8) M8) := by
          intro W h
          obtain ⟨hl, hA⟩ := h
          simp only [List.forall_mem_cons, List.not_mem_nil, false_imp_iff, implies_true, and_true] at hl hA
          obtain ⟨l1, l2, l3, l4, l5, l6⟩ := hl
          exact ⟨⟨(row1 l1).1, (rows6o l2).1⟩, ⟨(row1 l3).1, (row1 l4).1, (row1 l6).1⟩, (rows6o l5).1, hA⟩
        have HC := Lib.hid hcells
        clear hcells
        obtain ⟨⟨c0, f0, f1, f2, f3, f4, f5⟩, ⟨d5, d6, d8⟩, ⟨y0, y1, y2, y3, y4, y5⟩, o5, o6, o8⟩ := HC.out _ (HJ.out _ (Gr.rfl' _))
        go_wp2_with fail
        refine (eqTree_any _ _ M8 M5 _ o8.flR2 o5.flR2 (HM8.out.trans HM5.out.symm) (Nat.le_refl _) (Nat.le_refl _)).mono ?_
        rintro e w9 ⟨rfl, hb9⟩
        clear c0 d5 d6 d8 y0 y1 y2 y3 y4 y5 o5 o6 o8
        clear f0 f1 f2 f3 f4 f5
        -- the arguments' copies
        have hall8 : ∀ W, Gr (w8.alloc (.cells #[.slice a8 M8.length k8] 32)) W → Gr (w8.alloc (.cells #[.slice a8 M8.length k8] 32)) W ∧ (W.cell? ⟨w.heap.size, 0, none⟩ = some (.slice ta L.length tc) ∧ (W.cell? ⟨w.heap.size + 1, 0, none⟩ = some (.int .i64 f.root) ∧ W.cell? ⟨w.heap.size + 1, 1, none⟩ = some (.string f.pkg) ∧ W.cell? ⟨w.heap.size + 1, 2, none⟩ = some (.string f.name) ∧ W.cell? ⟨w.heap.size + 1, 3, none⟩ = some (.bool f.init) ∧ W.cell? ⟨w.heap.size + 1, 4, none⟩ = some (.int .i64 f.stamp) ∧ W.cell? ⟨w.heap.size + 1, 5, none⟩ = some (.slice fa f.body.length fc))) ∧ W.cell? ⟨w6.heap.size, 0, none⟩ = some (.slice a6 M6.length k6) ∧ (W.cell? ⟨w7.heap.size, 0, none⟩ = some (.int .i64 f.root) ∧ W.cell? ⟨w7.heap.size, 1, none⟩ = some (.string f.pkg) ∧ W.cell? ⟨w7.heap.size, 2, none⟩ = some (.string f.name) ∧ W.cell? ⟨w7.heap.size, 3, none⟩ = some (.bool f.init) ∧ W.cell? ⟨w7.heap.size, 4, none⟩ = some (.int .i64 f.stamp) ∧ W.cell? ⟨w7.heap.size, 5, none⟩ = some (.slice a7 f.body.length k7)) := fun W h => by
          obtain ⟨q1, ⟨_, q2, _⟩, q3, _⟩ := HC.out _ (HJ.out _ h)
          exact ⟨h, q1, q2, q3⟩
        have HALL8 := Lib.hid hall8
        clear hall8
        go_wp2
        refine wp_region_held_drew (S := (fun W => Gr (w8.alloc (.cells #[.slice a8 M8.length k8] 32)) W ∧ (W.cell? ⟨w.heap.size, 0, none⟩ = some (.slice ta L.length tc) ∧ (W.cell? ⟨w.heap.size + 1, 0, none⟩ = some (.int .i64 f.root) ∧ W.cell? ⟨w.heap.size + 1, 1, none⟩ = some (.string f.pkg) ∧ W.cell? ⟨w.heap.size + 1, 2, none⟩ = some (.string f.name) ∧ W.cell? ⟨w.heap.size + 1, 3, none⟩ = some (.bool f.init) ∧ W.cell? ⟨w.heap.size + 1, 4, none⟩ = some (.int .i64 f.stamp) ∧ W.cell? ⟨w.heap.size + 1, 5, none⟩ = some (.slice fa f.body.length fc))) ∧ W.cell? ⟨w6.heap.size, 0, none⟩ = some (.slice a6 M6.length k6) ∧ (W.cell? ⟨w7.heap.size, 0, none⟩ = some (.int .i64 f.root) ∧ W.cell? ⟨w7.heap.size, 1, none⟩ = some (.string f.pkg) ∧ W.cell? ⟨w7.heap.size, 2, none⟩ = some (.string f.name) ∧ W.cell? ⟨w7.heap.size, 3, none⟩ = some (.bool f.init) ∧ W.cell? ⟨w7.heap.size, 4, none⟩ = some (.int .i64 f.stamp) ∧ W.cell? ⟨w7.heap.size, 5, none⟩ = some (.slice a7 f.body.length k7)))) (by kernel_rfl) (HALL8.out _ (below_drewN hb9 1)) (fun hT0 => ?_)
        refine wpAnyH_take (i := 0) (v := ?_) rfl (by kernel_rfl) (by kernel_rfl) (by kernel_rfl) (fun _ _ _ h => h) (Or.inl ⟨by rfl, ?_⟩) hT0 ?_
        rotate_left
        · (intro W hSw; (try dsimp only at hSw); go_simp; try (with_reducible rfl))
        try simp only [Act.put, List.getElem_toArray, List.getElem_cons_succ, List.getElem_cons_zero, List.setIfInBounds_toArray, List.set_cons_zero, List.set_cons_succ]
        refine wpAnyH_take (i := 1) (v := ?_) rfl (by kernel_rfl) (by kernel_rfl) (by kernel_rfl) (fun _ _ _ h => h) (Or.inl ⟨by rfl, ?_⟩) hT0 ?_
        rotate_left
        · (intro W hSw; (try dsimp only at hSw); go_simp; try (with_reducible rfl))
        try simp only [Act.put, List.getElem_toArray, List.getElem_cons_succ, List.getElem_cons_zero, List.setIfInBounds_toArray, List.set_cons_zero, List.set_cons_succ]
        refine wpAnyH_ready (rs := [2]) (by kernel_rfl) (by simp) ?_
        refine AllReadyH.cons rfl (fun K hK => ?_) AllReadyH.nil
        go_simp
        refine (H3.out _ (hgw8.tr hT0.1)).mono ?_
        rintro e w10 ⟨u10, rfl, M10, hM10, ho10, hb10⟩
        try go_wp2_with fail
        refine hK.out _ _ (HALL8.out _ (hT0.1.tr hb10)) (fun hT1 => ?_)
        clear hK K
        try simp only [Act.put, List.getElem_toArray, List.getElem_cons_succ, List.getElem_cons_zero, List.setIfInBounds_toArray, List.set_cons_zero, List.set_cons_succ]
        refine wpAnyH_ready (rs := [3]) (by kernel_rfl) (by simp) ?_
        refine AllReadyH.cons rfl (fun K hK => ?_) AllReadyH.nil
        go_simp
        refine (eqTree_any _ u10 M6 M10 _ ((HC.out _ (HJ.out _ hT1.1)).2.2.2.2.1).flR2 ho10.reads (HM6.out.trans hM10.symm) (Nat.le_refl _) (Nat.le_refl _)).mono ?_
        rintro e w11 ⟨rfl, hb11⟩
        try go_wp2_with fail
        refine hK.out _ _ (HALL8.out _ (hT1.1.tr hb11)) (fun hT2 => ?_)
        clear hK K
        try simp only [Act.put, List.getElem_toArray, List.getElem_cons_succ, List.getElem_cons_zero, List.setIfInBounds_toArray, List.set_cons_zero, List.set_cons_succ]
        refine wpAnyH_take (i := 4) (v := ?_) rfl (by kernel_rfl) (by kernel_rfl) (by kernel_rfl) (fun _ _ _ h => h) (Or.inl ⟨by rfl, ?_⟩) hT2 ?_
        rotate_left
        · (intro W hSw; (try dsimp only at hSw); go_simp; try (with_reducible rfl))
        try simp only [Act.put, List.getElem_toArray, List.getElem_cons_succ, List.getElem_cons_zero, List.setIfInBounds_toArray, List.set_cons_zero, List.set_cons_succ]
        refine wpAnyH_done (by kernel_rfl) ?_ _
        go_wp2
        refine wp_region_held_drew (S := (fun W => Gr (w8.alloc (.cells #[.slice a8 M8.length k8] 32)) W ∧ (W.cell? ⟨w.heap.size, 0, none⟩ = some (.slice ta L.length tc) ∧ (W.cell? ⟨w.heap.size + 1, 0, none⟩ = some (.int .i64 f.root) ∧ W.cell? ⟨w.heap.size + 1, 1, none⟩ = some (.string f.pkg) ∧ W.cell? ⟨w.heap.size + 1, 2, none⟩ = some (.string f.name) ∧ W.cell? ⟨w.heap.size + 1, 3, none⟩ = some (.bool f.init) ∧ W.cell? ⟨w.heap.size + 1, 4, none⟩ = some (.int .i64 f.stamp) ∧ W.cell? ⟨w.heap.size + 1, 5, none⟩ = some (.slice fa f.body.length fc))) ∧ W.cell? ⟨w6.heap.size, 0, none⟩ = some (.slice a6 M6.length k6) ∧ (W.cell? ⟨w7.heap.size, 0, none⟩ = some (.int .i64 f.root) ∧ W.cell? ⟨w7.heap.size, 1, none⟩ = some (.string f.pkg) ∧ W.cell? ⟨w7.heap.size, 2, none⟩ = some (.string f.name) ∧ W.cell? ⟨w7.heap.size, 3, none⟩ = some (.bool f.init) ∧ W.cell? ⟨w7.heap.size, 4, none⟩ = some (.int .i64 f.stamp) ∧ W.cell? ⟨w7.heap.size, 5, none⟩ = some (.slice a7 f.body.length k7)))) (by kernel_rfl) (HALL8.out _ (below_drewN hT2.1 1)) (fun hU0 => ?_)
        refine wpAnyH_take (i := 0) (v := ?_) rfl (by kernel_rfl) (by kernel_rfl) (by kernel_rfl) (fun _ _ _ h => h) (Or.inl ⟨by rfl, ?_⟩) hU0 ?_
        rotate_left
        · (intro W hSw; (try dsimp only at hSw); go_simp; try (with_reducible rfl))
        try simp only [Act.put, List.getElem_toArray, List.getElem_cons_succ, List.getElem_cons_zero, List.setIfInBounds_toArray, List.set_cons_zero, List.set_cons_succ]
        refine wpAnyH_take (i := 1) (v := ?_) rfl (by kernel_rfl) (by kernel_rfl) (by kernel_rfl) (fun _ _ _ h => h) (Or.inl ⟨by rfl, ?_⟩) hU0 ?_
        rotate_left
        · (intro W hSw; (try dsimp only at hSw); go_simp; try (with_reducible rfl))
        try simp only [Act.put, List.getElem_toArray, List.getElem_cons_succ, List.getElem_cons_zero, List.setIfInBounds_toArray, List.set_cons_zero, List.set_cons_succ]
        refine wpAnyH_ready (rs := [2]) (by kernel_rfl) (by simp) ?_
        refine AllReadyH.cons rfl (fun K hK => ?_) AllReadyH.nil
        go_simp
        refine (H4.out _ (hgw8.tr hU0.1)).mono ?_
        rintro e w12 ⟨u12, rfl, ho12, hb12⟩
        try go_wp2_with fail
        refine hK.out _ _ (HALL8.out _ (hU0.1.tr hb12)) (fun hU1 => ?_)
        clear hK K
        try simp only [Act.put, List.getElem_toArray, List.getElem_cons_succ, List.getElem_cons_zero, List.setIfInBounds_toArray, List.set_cons_zero, List.set_cons_succ]
        refine wpAnyH_ready (rs := [3]) (by kernel_rfl) (by simp) ?_
        refine AllReadyH.cons rfl (fun K hK => ?_) AllReadyH.nil
        go_simp
        refine (eqFile_any f (.slice a7 f.body.length k7) u12 _ ((HO7.out _ hU1.1).reads (fun _ _ => rfl)) (ho12.reads (fun _ _ => rfl)) (Nat.le_refl _) (Nat.le_refl _)).mono ?_
        rintro e w13 ⟨rfl, hb13⟩
        try go_wp2_with fail
        refine hK.out _ _ (HALL8.out _ (hU1.1.tr hb13)) (fun hU2 => ?_)
        clear hK K
        try simp only [Act.put, List.getElem_toArray, List.getElem_cons_succ, List.getElem_cons_zero, List.setIfInBounds_toArray, List.set_cons_zero, List.set_cons_succ]
        refine wpAnyH_take (i := 4) (v := ?_) rfl (by kernel_rfl) (by kernel_rfl) (by kernel_rfl) (fun _ _ _ h => h) (Or.inl ⟨by rfl, ?_⟩) hU2 ?_
        rotate_left
        · (intro W hSw; (try dsimp only at hSw); go_simp; try (with_reducible rfl))
        try simp only [Act.put, List.getElem_toArray, List.getElem_cons_succ, List.getElem_cons_zero, List.setIfInBounds_toArray, List.set_cons_zero, List.set_cons_succ]
        refine wpAnyH_done (by kernel_rfl) ?_ _
        obtain ⟨hB13, ⟨c0, f0, f1, f2, f3, f4, f5⟩, d6, y0, y1, y2, y3, y4, y5⟩ := hU2
        have hJ13 := HJ.out _ hB13
        obtain ⟨_, _, _, o5, o6, o8⟩ := HC.out _ hJ13
        have o7 := HO7.out _ hB13
        have hk6 := HKL.out M6 HM6.out
        have hmk6 := markTree_any _ M6 _ 1 o6 (by omega) (by omega)
        obtain ⟨K1, hK1⟩ : ∃ K1, kF 1 (M6.map fun r => r.1.body.length) = K1 := ⟨_, rfl⟩
        rw [hK1] at hmk6 hk6
        have h1K := kF_le 1 (M6.map fun r => r.1.body.length)
        rw [hK1] at h1K
        have HMK := Lib.hid hmk6
        clear hmk6 hK1 hT0 hT1 hT2 hU0 hU1
        -- marks in the arguments
        go_wp2_with fail
        refine HMK.out.mono ?_
        rintro e w14 ⟨rfl, _, hc14⟩
        have hp6 : ∀ b, ownsN (.slice a6 M6.length k6) M6 b → n5 + 1 + 3 ≤ b ∧ b < w6.heap.size := b6
        have o7' := o7.chg hc14 (fun b hb q => by have := (b7 b hb).1; have := (b6 b q).2; omega)
        have z7b := (hc14.block w7.heap.size (lt_of_block (hJ13.1 (w7.heap.size, .cells #[.int .i64 f.root, .string f.pkg, .string f.name, .bool f.init, .int .i64 f.stamp, .slice a7 f.body.length k7] 38) (by simp))) (fun q => by have := (b6 _ q).2; omega)).trans (hJ13.1 (w7.heap.size, .cells #[.int .i64 f.root, .string f.pkg, .string f.name, .bool f.init, .int .i64 f.stamp, .slice a7 f.body.length k7] 38) (by simp))
        clear y0 y1 y2 y3 y4 y5 c0 d6
        clear f0 f1 f2 f3 f4 f5
        obtain ⟨⟨y0, y1, y2, y3, y4, y5⟩, _⟩ := rows6o z7b
        have hmf := markFile_any f (.slice a7 f.body.length k7) _ K1 o7' (by omega) (by omega)
        obtain ⟨K2, hK2⟩ : ∃ K2 : Nat, K1 + 5 * f.body.length = K2 := ⟨_, rfl⟩
        rw [hK2] at hmf
        have HMF := Lib.hid hmf
        have hK2n : ¬ (K2 : Int) < 0 := by omega
        clear hmf hK2
        go_wp2_with fail
        refine HMF.out.mono ?_
        rintro e w15 ⟨rfl, _, hg15⟩
        have hcm : ChgN (fun b => n5 + 1 + 3 ≤ b ∧ b < w7.heap.size ∧ b ≠ w6.heap.size) _ w15 := (hc14.mono (fun b q => by have := b6 b q; omega)).trans (ChgN.of_grown hg15 (fun b q => by have := b7 b q; omega))
        have hB15 : Gr w w15 := Imp.Below.chg (hgw8.tr hB13) hcm (hgw8.tr hB13).size (fun i q => by omega)
        have hl15 : ∀ x ∈ [(w.heap.size, .cells #[.slice ta L.length tc] 24), (w.heap.size + 1, .cells #[.int .i64 f.root, .string f.pkg, .string f.name, .bool f.init, .int .i64 f.stamp, .slice fa f.body.length fc] 27), (t, .cells #[.slice a5 M5.length k5] 32), (w6.heap.size, .cells #[.slice a6 M6.length k6] 32), (w7.heap.size, .cells #[.int .i64 f.root, .string f.pkg, .string f.name, .bool f.init, .int .i64 f.stamp, .slice a7 f.body.length k7] 38), (w8.heap.size, .cells #[.slice a8 M8.length k8] 32)], w15.heap[x.1]? = some x.2 := fun x hx =>
          (hcm.block x.1 (lt_of_block (hJ13.1 x hx)) (by
            simp only [List.mem_cons, List.not_mem_nil, or_false] at hx
            rcases hx with rfl | rfl | rfl | rfl | rfl | rfl <;> (dsimp only; omega))).trans (hJ13.1 x hx)
        have o5' := o5.chg hcm (fun b hb q => by have := b5 b hb; omega)
        have o8' := o8.chg hcm (fun b hb q => by have := b8 b hb; omega)
        have hJ15 : ∀ W, Gr w15 W → (W.cell? ⟨w.heap.size, 0, none⟩ = some (.slice ta L.length tc) ∧ (W.cell? ⟨w.heap.size + 1, 0, none⟩ = some (.int .i64 f.root) ∧ W.cell? ⟨w.heap.size + 1, 1, none⟩ = some (.string f.pkg) ∧ W.cell? ⟨w.heap.size + 1, 2, none⟩ = some (.string f.name) ∧ W.cell? ⟨w.heap.size + 1, 3, none⟩ = some (.bool f.init) ∧ W.cell? ⟨w.heap.size + 1, 4, none⟩ = some (.int .i64 f.stamp) ∧ W.cell? ⟨w.heap.size + 1, 5, none⟩ = some (.slice fa f.body.length fc))) ∧ (W.cell? ⟨t, 0, none⟩ = some (.slice a5 M5.length k5) ∧ W.cell? ⟨w8.heap.size, 0, none⟩ = some (.slice a8 M8.length k8)) ∧ (OwnN W 0 38 6 eF 80 5 eSt Fil.body (.slice a5 M5.length k5) M5 ∧ OwnN W 0 38 6 eF 80 5 eSt Fil.body (.slice a8 M8.length k8) M8) := fun W h => by
          have q : ∀ x ∈ [(w.heap.size, .cells #[.slice ta L.length tc] 24), (w.heap.size + 1, .cells #[.int .i64 f.root, .string f.pkg, .string f.name, .bool f.init, .int .i64 f.stamp, .slice fa f.body.length fc] 27), (t, .cells #[.slice a5 M5.length k5] 32), (w6.heap.size, .cells #[.slice a6 M6.length k6] 32), (w7.heap.size, .cells #[.int .i64 f.root, .string f.pkg, .string f.name, .bool f.init, .int .i64 f.stamp, .slice a7 f.body.length k7] 38), (w8.heap.size, .cells #[.slice a8 M8.length k8] 32)], W.heap[x.1]? = some x.2 := fun x hx => (h.block x.1 (lt_of_block (hl15 x hx))).trans (hl15 x hx)
          simp only [List.forall_mem_cons, List.not_mem_nil, false_imp_iff, implies_true, and_true] at q
          obtain ⟨l1, l2, l3, l4, l5, l6⟩ := q
          exact ⟨⟨(row1 l1).1, (rows6o l2).1⟩, ⟨(row1 l3).1, (row1 l6).1⟩, o5'.gr h, o8'.gr h⟩
        have hL15 : ∀ W, Gr w15 W → W.heap[w.heap.size]? = some (.cells #[.slice ta L.length tc] 24) ∧ W.heap[w.heap.size + 1]? = some (.cells #[.int .i64 f.root, .string f.pkg, .string f.name, .bool f.init, .int .i64 f.stamp, .slice fa f.body.length fc] 27) ∧ W.heap[t]? = some (.cells #[.slice a5 M5.length k5] 32) ∧ W.heap[w8.heap.size]? = some (.cells #[.slice a8 M8.length k8] 32) := fun W h => by
          have q := fun x hx => (h.block x.1 (lt_of_block (hl15 x hx))).trans (hl15 x hx)
          exact ⟨q (w.heap.size, _) (by simp), q (w.heap.size + 1, _) (by simp), q (t, _) (by simp), q (w8.heap.size, _) (by simp)⟩
        have HL15 := Lib.hid hL15
        have H15 := Lib.hid hJ15
        clear hL15 hJ15 hJ13 hl15 o5 o6 o7 o8 o7' z7b hc14 hg15 hcm y0 y1 y2 y3 y4 y5 o5' o8' HJ HO7 HALL8 HC
        obtain ⟨⟨c0, f0, f1, f2, f3, f4, f5⟩, ⟨d5, d8⟩, o5, o8⟩ := H15.out _ (Gr.rfl' _)
        go_wp2_with fail
        refine (eqTree_any _ _ M8 M5 _ o8.flR2 o5.flR2 (HM8.out.trans HM5.out.symm) (Nat.le_refl _) (Nat.le_refl _)).mono ?_
        rintro e w16 ⟨rfl, hb16⟩
        clear c0 d5 d8 o5 o8
        clear f0 f1 f2 f3 f4 f5
        obtain ⟨⟨c0, f0, f1, f2, f3, f4, f5⟩, ⟨d5, d8⟩, o5, o8⟩ := H15.out _ hb16
        have hcb : ∀ W : World, (∀ b o, (b < w7.heap.size + 1 + 2 ∨ w8.heap.size ≤ b) → w16.heap[b]? = some o → W.heap[b]? = some o) → (W.cell? ⟨w.heap.size, 0, none⟩ = some (.slice ta L.length tc) ∧ (W.cell? ⟨w.heap.size + 1, 0, none⟩ = some (.int .i64 f.root) ∧ W.cell? ⟨w.heap.size + 1, 1, none⟩ = some (.string f.pkg) ∧ W.cell? ⟨w.heap.size + 1, 2, none⟩ = some (.string f.name) ∧ W.cell? ⟨w.heap.size + 1, 3, none⟩ = some (.bool f.init) ∧ W.cell? ⟨w.heap.size + 1, 4, none⟩ = some (.int .i64 f.stamp) ∧ W.cell? ⟨w.heap.size + 1, 5, none⟩ = some (.slice fa f.body.length fc))) ∧ (W.cell? ⟨t, 0, none⟩ = some (.slice a5 M5.length k5) ∧ W.cell? ⟨w8.heap.size, 0, none⟩ = some (.slice a8 M8.length k8)) := fun W g => by
          obtain ⟨l1, l2, l3, l6⟩ := HL15.out _ hb16
          exact ⟨⟨(row1 (g _ _ (Or.inl (by omega)) l1)).1, (rows6o (g _ _ (Or.inl (by omega)) l2)).1⟩, (row1 (g _ _ (Or.inl (by omega)) l3)).1, (row1 (g _ _ (Or.inr (by omega)) l6)).1⟩
        have HCB := Lib.hid hcb
        clear hcb
        have hk8 := HKT.out M8 HM8.out
        have hmk8 := markTree_any _ M8 _ 1 o8 (by omega) (by omega)
        obtain ⟨ns, hns⟩ : ∃ ns, (M8.map fun r => r.1.body.length) = ns := ⟨_, rfl⟩
        rw [hns] at hmk8 hk8
        obtain ⟨K3, hK3⟩ : ∃ K3, kF 1 ns = K3 := ⟨_, rfl⟩
        rw [hK3] at hmk8
        have HMK8 := Lib.hid hmk8
        clear hmk8
        go_wp2_with fail
        refine HMK8.out.mono ?_
        rintro e w17 ⟨rfl, ⟨M9, hM9, hM9s, o9⟩, hc17⟩
        have hB17 : Gr w w17 := Imp.Below.chg (hB15.tr hb16) hc17 (hB15.tr hb16).size (fun i q => by have := (b8 i q).1; omega)
        have hp8 : ∀ i, ownsN (.slice a8 M8.length k8) M8 i → w7.heap.size + 1 + 2 ≤ i ∧ i < w8.heap.size := b8
        have zz : ∀ b o, (b < w7.heap.size + 1 + 2 ∨ w8.heap.size ≤ b) → b < w16.heap.size → w16.heap[b]? = some o → w17.heap[b]? = some o := fun b o h1 h2 h3 => (hc17.block b h2 (fun q => by have := hp8 b q; omega)).trans h3
        have o5w := o5.chg hc17 (fun b hb q => by have := b5 b hb; have := hp8 b q; omega)
        have o9l : M9.length = M8.length := by have := congrArg List.length hM9s; simpa using this
        rw [← o9l] at o9
        have held : ∀ W, Gr w17 W → Calls Tryd.prog 20 #[.agg #[.slice a8 M8.length k8], .int .i64 1] W fun e w' => e = .returned (.int .i64 (K3 : Int)) ∧ Gr W w' := fun W h => by
          have := heldTree_any _ M9 ns W 1 (o9.gr h).flR2 hM9 (Nat.le_refl _) (by omega) (by omega)
          rw [hK3, o9l] at this
          exact this
        have hch : ∀ W, Gr w17 W → (W.cell? ⟨w.heap.size, 0, none⟩ = some (.slice ta L.length tc) ∧ (W.cell? ⟨w.heap.size + 1, 0, none⟩ = some (.int .i64 f.root) ∧ W.cell? ⟨w.heap.size + 1, 1, none⟩ = some (.string f.pkg) ∧ W.cell? ⟨w.heap.size + 1, 2, none⟩ = some (.string f.name) ∧ W.cell? ⟨w.heap.size + 1, 3, none⟩ = some (.bool f.init) ∧ W.cell? ⟨w.heap.size + 1, 4, none⟩ = some (.int .i64 f.stamp) ∧ W.cell? ⟨w.heap.size + 1, 5, none⟩ = some (.slice fa f.body.length fc))) ∧ (W.cell? ⟨t, 0, none⟩ = some (.slice a5 M5.length k5) ∧ W.cell? ⟨w8.heap.size, 0, none⟩ = some (.slice a8 M8.length k8)) ∧ OwnN W 0 38 6 eF 80 5 eSt Fil.body (.slice a5 M5.length k5) M5 := fun W h => by
          have g := fun b o (h1 : b < w7.heap.size + 1 + 2 ∨ w8.heap.size ≤ b) (h3 : w16.heap[b]? = some o) => (h.block b (lt_of_block (zz b o h1 (lt_of_block h3) h3))).trans (zz b o h1 (lt_of_block h3) h3)
          exact ⟨(HCB.out W g).1, (HCB.out W g).2, o5w.gr h⟩
        have HCH := Lib.hid hch
        have HHE := Lib.hid held
        clear hch held zz o9 o5w hM9 hM9s hc17 o5 o8
        have hK3n : ¬ (K3 : Int) < 0 := by omega
        have qk : ((K3 : Int) != (K3 : Int)) = false := by simp
        clear c0 d5 d8
        clear f0 f1 f2 f3 f4 f5
        obtain ⟨⟨c0, f0, f1, f2, f3, f4, f5⟩, ⟨d5, d8⟩, _⟩ := HCH.out _ (Gr.rfl' _)
        go_wp2_with fail
        refine (HHE.out _ (Gr.rfl' _)).mono ?_
        rintro e w18 ⟨rfl, hb18⟩
        clear c0 d5 d8
        clear f0 f1 f2 f3 f4 f5
        have hall17 : ∀ W, Gr w17 W → Gr w17 W ∧ (W.cell? ⟨w.heap.size, 0, none⟩ = some (.slice ta L.length tc) ∧ (W.cell? ⟨w.heap.size + 1, 0, none⟩ = some (.int .i64 f.root) ∧ W.cell? ⟨w.heap.size + 1, 1, none⟩ = some (.string f.pkg) ∧ W.cell? ⟨w.heap.size + 1, 2, none⟩ = some (.string f.name) ∧ W.cell? ⟨w.heap.size + 1, 3, none⟩ = some (.bool f.init) ∧ W.cell? ⟨w.heap.size + 1, 4, none⟩ = some (.int .i64 f.stamp) ∧ W.cell? ⟨w.heap.size + 1, 5, none⟩ = some (.slice fa f.body.length fc))) := fun W h => ⟨h, (HCH.out W h).1⟩
        have HALL17 := Lib.hid hall17
        clear hall17
        -- another call
        go_wp2
        refine wp_region_held_drew (S := (fun W => Gr w17 W ∧ (W.cell? ⟨w.heap.size, 0, none⟩ = some (.slice ta L.length tc) ∧ (W.cell? ⟨w.heap.size + 1, 0, none⟩ = some (.int .i64 f.root) ∧ W.cell? ⟨w.heap.size + 1, 1, none⟩ = some (.string f.pkg) ∧ W.cell? ⟨w.heap.size + 1, 2, none⟩ = some (.string f.name) ∧ W.cell? ⟨w.heap.size + 1, 3, none⟩ = some (.bool f.init) ∧ W.cell? ⟨w.heap.size + 1, 4, none⟩ = some (.int .i64 f.stamp) ∧ W.cell? ⟨w.heap.size + 1, 5, none⟩ = some (.slice fa f.body.length fc))))) (by kernel_rfl) (HALL17.out _ (below_drewN hb18 1)) (fun hS0 => ?_)
        refine wpAnyH_take (i := 0) (v := ?_) rfl (by kernel_rfl) (by kernel_rfl) (by kernel_rfl) (fun _ _ _ h => h) (Or.inl ⟨by rfl, ?_⟩) hS0 ?_
        rotate_left
        · (intro W hSw; (try dsimp only at hSw); go_simp; try (with_reducible rfl))
        try simp only [Act.put, List.getElem_toArray, List.getElem_cons_succ, List.getElem_cons_zero, List.setIfInBounds_toArray, List.set_cons_zero, List.set_cons_succ]
        refine wpAnyH_take (i := 2) (v := ?_) rfl (by kernel_rfl) (by kernel_rfl) (by kernel_rfl) (fun _ _ _ h => h) (Or.inl ⟨by rfl, ?_⟩) hS0 ?_
        rotate_left
        · (intro W hSw; (try dsimp only at hSw); go_simp; try (with_reducible rfl))
        try simp only [Act.put, List.getElem_toArray, List.getElem_cons_succ, List.getElem_cons_zero, List.setIfInBounds_toArray, List.set_cons_zero, List.set_cons_succ]
        refine wpAnyH_ready (rs := [1, 8]) (by kernel_rfl) (by simp) ?_
        refine AllReadyH.cons rfl (fun K hK => ?_) (AllReadyH.cons rfl (fun K hK => ?_) (AllReadyH.nil))
        · skip
          go_simp
          refine (H3.out _ (hB17.tr hS0.1)).mono ?_
          rintro e w19 ⟨u19, rfl, M19, hM19, ho19, hb19⟩
          refine hK.out _ _ (HALL17.out _ (hS0.1.tr hb19)) (fun hS1 => ?_)
          clear hK K
          try simp only [Act.put, List.getElem_toArray, List.getElem_cons_succ, List.getElem_cons_zero, List.setIfInBounds_toArray, List.set_cons_zero, List.set_cons_succ]
          have cw19 := Gr.rfl' w19
          obtain ⟨a19, k19, e19, _, _⟩ := ho19.1.form
          subst e19
          refine wpAnyH_ready (rs := [3, 8]) (by kernel_rfl) (by simp) ?_
          refine AllReadyH.cons rfl (fun K hK => ?_) (AllReadyH.cons rfl (fun K hK => ?_) (AllReadyH.nil))
          · skip
            go_simp
            refine (H4.out _ (hB17.tr hS1.1)).mono ?_
            rintro e w20 ⟨u20, rfl, ho20, hb20⟩
            refine hK.out _ _ (HALL17.out _ (hS1.1.tr hb20)) (fun hS2 => ?_)
            clear hK K
            try simp only [Act.put, List.getElem_toArray, List.getElem_cons_succ, List.getElem_cons_zero, List.setIfInBounds_toArray, List.set_cons_zero, List.set_cons_succ]
            have cw19 := Gr.tr cw19 hb20
            have cw20 := Gr.rfl' w20
            obtain ⟨a20, k20, e20, _, _⟩ := ho20.form
            subst e20
            refine wpAnyH_ready (rs := [4, 8]) (by kernel_rfl) (by simp) ?_
            refine AllReadyH.cons rfl (fun K hK => ?_) (AllReadyH.cons rfl (fun K hK => ?_) (AllReadyH.nil))
            · skip
              go_simp
              refine (H2.out _ _ _ M19 _ _ _ _ (hok.gr (hB17.tr hS2.1)) (ho19.reads.below cw19 (Nat.le_refl _)) hM19 cw19.size (SlR.below (ho20.reads (fun _ _ => rfl)) cw20 (Nat.le_refl _)) cw20.size).mono ?_
              rintro e w21 ⟨u21, M21, rfl, hM21, hO21, hb21⟩
              refine hK.out _ _ (HALL17.out _ (hS2.1.tr hb21)) (fun hS3 => ?_)
              clear hK K
              try simp only [Act.put, List.getElem_toArray, List.getElem_cons_succ, List.getElem_cons_zero, List.setIfInBounds_toArray, List.set_cons_zero, List.set_cons_succ]
              have cw19 := Gr.tr cw19 hb21
              have cw20 := Gr.tr cw20 hb21
              obtain ⟨a21, k21, e21, _, _⟩ := hO21.1.form
              subst e21
              refine wpAnyH_take (i := 5) (v := ?_) rfl (by kernel_rfl) (by kernel_rfl) (by kernel_rfl) (fun _ _ _ h => h) (Or.inl ⟨by rfl, ?_⟩) hS3 ?_
              rotate_left
              · (intro W hSw; (try dsimp only at hSw); go_simp; try (with_reducible rfl))
              try simp only [Act.put, List.getElem_toArray, List.getElem_cons_succ, List.getElem_cons_zero, List.setIfInBounds_toArray, List.set_cons_zero, List.set_cons_succ]
              refine wpAnyH_take (i := 6) (v := ?_) rfl (by kernel_rfl) (by kernel_rfl) (by kernel_rfl) (fun _ _ _ h => h) (Or.inl ⟨by rfl, ?_⟩) hS3 ?_
              rotate_left
              · (intro W hSw; (try dsimp only at hSw); go_simp; try (with_reducible rfl))
              try simp only [Act.put, List.getElem_toArray, List.getElem_cons_succ, List.getElem_cons_zero, List.setIfInBounds_toArray, List.set_cons_zero, List.set_cons_succ]
              refine wpAnyH_take (i := 7) (v := ?_) rfl (by kernel_rfl) (by kernel_rfl) (by kernel_rfl) (fun _ _ _ h => h) (Or.inl ⟨by rfl, ?_⟩) hS3 ?_
              rotate_left
              · (intro W hSw; (try dsimp only at hSw); go_simp; try (with_reducible rfl))
              try simp only [Act.put, List.getElem_toArray, List.getElem_cons_succ, List.getElem_cons_zero, List.setIfInBounds_toArray, List.set_cons_zero, List.set_cons_succ]
              refine wpAnyH_ready (rs := [8]) (by kernel_rfl) (by simp) ?_
              refine AllReadyH.cons rfl (fun K hK => ?_) (AllReadyH.nil)
              have zz3 : ((w21).alloc (.cells #[.slice none 0 0] 32)).heap[w21.heap.size]? = some (.cells #[.slice none 0 0] 32) := heap_alloc_new (w21) (.cells #[.slice none 0 0] 32)
              have tg : w17.heap.size ≤ w21.heap.size := hS3.1.size
              obtain ⟨zc, zf⟩ := row1 zz3
              go_simp
              refine hK.out _ _ (HALL17.out _ (hS3.1.tr (gr_al _ _))) (fun hA3 => ?_)
              clear hK K
              try simp only [Act.put, List.getElem_toArray, List.getElem_cons_succ, List.getElem_cons_zero, List.setIfInBounds_toArray, List.set_cons_zero, List.set_cons_succ]
              have cw19 := Gr.tr cw19 (gr_al (w21) (.cells #[.slice none 0 0] 32))
              have cw20 := Gr.tr cw20 (gr_al (w21) (.cells #[.slice none 0 0] 32))
              refine wpAnyH_ready (rs := [9]) (by kernel_rfl) (by simp) ?_
              refine AllReadyH.cons rfl (fun K hK => ?_) (AllReadyH.nil)
              go_simp
              refine hK.out _ _ (HALL17.out _ (hS3.1.tr (gr_al w21 (.cells #[.slice a21 M21.length k21] 32)))) (fun hE => ?_)
              clear hK K
              try simp only [Act.put, List.getElem_toArray, List.getElem_cons_succ, List.getElem_cons_zero, List.setIfInBounds_toArray, List.set_cons_zero, List.set_cons_succ]
              refine wpAnyH_take (i := 10) (v := ?_) rfl (by kernel_rfl) (by kernel_rfl) (by kernel_rfl) (fun _ _ _ h => h) (Or.inl ⟨by rfl, ?_⟩) hE ?_
              rotate_left
              · (intro W hSw; (try dsimp only at hSw); go_simp; try (with_reducible rfl))
              try simp only [Act.put, List.getElem_toArray, List.getElem_cons_succ, List.getElem_cons_zero, List.setIfInBounds_toArray, List.set_cons_zero, List.set_cons_succ]
              refine wpAnyH_done (by kernel_rfl) ?_ _
              have hB21 := hE.1
              have z21 := heap_alloc_new w21 (.cells #[.slice a21 M21.length k21] 32)
              have hO22 := (hO21.gr (gr_al w21 (.cells #[.slice a21 M21.length k21] 32)))
              obtain ⟨wb, hwb⟩ : ∃ wb, w21.alloc (.cells #[.slice a21 M21.length k21] 32) = wb := ⟨_, rfl⟩
              rw [hwb] at z21 hB21 hO22
              try simp only [hwb]
              obtain ⟨_, ⟨d5, d8⟩, o5⟩ := HCH.out _ hB21
              obtain ⟨d21, _⟩ := row1 z21
              have rd21 := hO22.flR2
              clear zc zf hS0 hS1 hS2 hS3 hE
              go_wp2_with fail
              refine (eqTree_any _ _ M21 M5 _ rd21 o5.flR2 (hM21.trans HM5.out.symm) (Nat.le_refl _) (Nat.le_refl _)).mono ?_
              rintro e w22 ⟨rfl, hb22⟩
              have hb22 := hB21.tr hb22
              clear d5 d8 d21 o5
              obtain ⟨_, ⟨d5, d8⟩, _⟩ := HCH.out _ hb22
              go_wp2_with fail
              refine (HHE.out _ hb22).mono ?_
              rintro e w23 ⟨rfl, hb23⟩
              go_wp2
              go_ret
              exact ⟨rfl, (hB17.tr hb22).tr hb23⟩
            · skip
              have zz2 : ((w20).alloc (.cells #[.slice none 0 0] 32)).heap[w20.heap.size]? = some (.cells #[.slice none 0 0] 32) := heap_alloc_new (w20) (.cells #[.slice none 0 0] 32)
              have tg : w17.heap.size ≤ w20.heap.size := hS2.1.size
              go_simp
              refine hK.out _ _ (HALL17.out _ (hS2.1.tr (gr_al _ _))) (fun hA2 => ?_)
              clear hK K
              try simp only [Act.put, List.getElem_toArray, List.getElem_cons_succ, List.getElem_cons_zero, List.setIfInBounds_toArray, List.set_cons_zero, List.set_cons_succ]
              have cw19 := Gr.tr cw19 (gr_al (w20) (.cells #[.slice none 0 0] 32))
              have cw20 := Gr.tr cw20 (gr_al (w20) (.cells #[.slice none 0 0] 32))
              refine wpAnyH_ready (rs := [4]) (by kernel_rfl) (by simp) ?_
              refine AllReadyH.cons rfl (fun K hK => ?_) (AllReadyH.nil)
              go_simp
              refine (H2.out _ _ _ M19 _ _ _ _ (hok.gr (hB17.tr hA2.1)) (ho19.reads.below cw19 (Nat.le_refl _)) hM19 cw19.size (SlR.below (ho20.reads (fun _ _ => rfl)) cw20 (Nat.le_refl _)) cw20.size).mono ?_
              rintro e w21 ⟨u21, M21, rfl, hM21, hO21, hb21⟩
              refine hK.out _ _ (HALL17.out _ (hA2.1.tr hb21)) (fun hS3 => ?_)
              clear hK K
              try simp only [Act.put, List.getElem_toArray, List.getElem_cons_succ, List.getElem_cons_zero, List.setIfInBounds_toArray, List.set_cons_zero, List.set_cons_succ]
              have zz3 := (hb21.block _ (lt_of_block zz2)).trans zz2
              have tl2 := lt_of_block zz2
              have cw19 := Gr.tr cw19 hb21
              have cw20 := Gr.tr cw20 hb21
              obtain ⟨a21, k21, e21, _, _⟩ := hO21.1.form
              subst e21
              refine wpAnyH_take (i := 5) (v := ?_) rfl (by kernel_rfl) (by kernel_rfl) (by kernel_rfl) (fun _ _ _ h => h) (Or.inl ⟨by rfl, ?_⟩) hS3 ?_
              rotate_left
              · (intro W hSw; (try dsimp only at hSw); go_simp; try (with_reducible rfl))
              try simp only [Act.put, List.getElem_toArray, List.getElem_cons_succ, List.getElem_cons_zero, List.setIfInBounds_toArray, List.set_cons_zero, List.set_cons_succ]
              refine wpAnyH_take (i := 6) (v := ?_) rfl (by kernel_rfl) (by kernel_rfl) (by kernel_rfl) (fun _ _ _ h => h) (Or.inl ⟨by rfl, ?_⟩) hS3 ?_
              rotate_left
              · (intro W hSw; (try dsimp only at hSw); go_simp; try (with_reducible rfl))
              try simp only [Act.put, List.getElem_toArray, List.getElem_cons_succ, List.getElem_cons_zero, List.setIfInBounds_toArray, List.set_cons_zero, List.set_cons_succ]
              refine wpAnyH_take (i := 7) (v := ?_) rfl (by kernel_rfl) (by kernel_rfl) (by kernel_rfl) (fun _ _ _ h => h) (Or.inl ⟨by rfl, ?_⟩) hS3 ?_
              rotate_left
              · (intro W hSw; (try dsimp only at hSw); go_simp; try (with_reducible rfl))
              try simp only [Act.put, List.getElem_toArray, List.getElem_cons_succ, List.getElem_cons_zero, List.setIfInBounds_toArray, List.set_cons_zero, List.set_cons_succ]
              refine wpAnyH_ready (rs := [9]) (by kernel_rfl) (by simp) ?_
              refine AllReadyH.cons rfl (fun K hK => ?_) (AllReadyH.nil)
              obtain ⟨zc, zf⟩ := row1 zz3
              go_simp
              refine hK.out _ _ (HALL17.out _ (hS3.1.setCell (p := ⟨w20.heap.size, 0, none⟩) tg _)) (fun hE => ?_)
              clear hK K
              try simp only [Act.put, List.getElem_toArray, List.getElem_cons_succ, List.getElem_cons_zero, List.setIfInBounds_toArray, List.set_cons_zero, List.set_cons_succ]
              refine wpAnyH_take (i := 10) (v := ?_) rfl (by kernel_rfl) (by kernel_rfl) (by kernel_rfl) (fun _ _ _ h => h) (Or.inl ⟨by rfl, ?_⟩) hE ?_
              rotate_left
              · (intro W hSw; (try dsimp only at hSw); go_simp; try (with_reducible rfl))
              try simp only [Act.put, List.getElem_toArray, List.getElem_cons_succ, List.getElem_cons_zero, List.setIfInBounds_toArray, List.set_cons_zero, List.set_cons_succ]
              refine wpAnyH_done (by kernel_rfl) ?_ _
              have hB21 := hE.1
              have z21 := heap_set1 (b0 := .slice a21 M21.length k21) zz3
              have hO22 := (hO21.chg (ChgN.set w21 w20.heap.size 0 (.slice a21 M21.length k21) (p := fun b => b = (w20.heap.size)) rfl) (fun b hb q => by have := (hO21.block b hb).1; have := tl2; omega))
              obtain ⟨wb, hwb⟩ : ∃ wb, w21.setCell ⟨w20.heap.size, 0, none⟩ (.slice a21 M21.length k21) = wb := ⟨_, rfl⟩
              rw [hwb] at z21 hB21 hO22
              try simp only [hwb]
              obtain ⟨_, ⟨d5, d8⟩, o5⟩ := HCH.out _ hB21
              obtain ⟨d21, _⟩ := row1 z21
              have rd21 := hO22.flR2
              clear zc zf hS0 hS1 hS2 hS3 hE
              go_wp2_with fail
              refine (eqTree_any _ _ M21 M5 _ rd21 o5.flR2 (hM21.trans HM5.out.symm) (Nat.le_refl _) (Nat.le_refl _)).mono ?_
              rintro e w22 ⟨rfl, hb22⟩
              have hb22 := hB21.tr hb22
              clear d5 d8 d21 o5
              obtain ⟨_, ⟨d5, d8⟩, _⟩ := HCH.out _ hb22
              go_wp2_with fail
              refine (HHE.out _ hb22).mono ?_
              rintro e w23 ⟨rfl, hb23⟩
              go_wp2
              go_ret
              exact ⟨rfl, (hB17.tr hb22).tr hb23⟩
          · skip
            have zz1 : ((w19).alloc (.cells #[.slice none 0 0] 32)).heap[w19.heap.size]? = some (.cells #[.slice none 0 0] 32) := heap_alloc_new (w19) (.cells #[.slice none 0 0] 32)
            have tg : w17.heap.size ≤ w19.heap.size := hS1.1.size
            go_simp
            refine hK.out _ _ (HALL17.out _ (hS1.1.tr (gr_al _ _))) (fun hA1 => ?_)
            clear hK K
            try simp only [Act.put, List.getElem_toArray, List.getElem_cons_succ, List.getElem_cons_zero, List.setIfInBounds_toArray, List.set_cons_zero, List.set_cons_succ]
            have cw19 := Gr.tr cw19 (gr_al (w19) (.cells #[.slice none 0 0] 32))
            refine wpAnyH_ready (rs := [3]) (by kernel_rfl) (by simp) ?_
            refine AllReadyH.cons rfl (fun K hK => ?_) (AllReadyH.nil)
            go_simp
            refine (H4.out _ (hB17.tr hA1.1)).mono ?_
            rintro e w20 ⟨u20, rfl, ho20, hb20⟩
            refine hK.out _ _ (HALL17.out _ (hA1.1.tr hb20)) (fun hS2 => ?_)
            clear hK K
            try simp only [Act.put, List.getElem_toArray, List.getElem_cons_succ, List.getElem_cons_zero, List.setIfInBounds_toArray, List.set_cons_zero, List.set_cons_succ]
            have zz2 := (hb20.block _ (lt_of_block zz1)).trans zz1
            have tl1 := lt_of_block zz1
            have cw19 := Gr.tr cw19 hb20
            have cw20 := Gr.rfl' w20
            obtain ⟨a20, k20, e20, _, _⟩ := ho20.form
            subst e20
            refine wpAnyH_ready (rs := [4]) (by kernel_rfl) (by simp) ?_
            refine AllReadyH.cons rfl (fun K hK => ?_) (AllReadyH.nil)
            go_simp
            refine (H2.out _ _ _ M19 _ _ _ _ (hok.gr (hB17.tr hS2.1)) (ho19.reads.below cw19 (Nat.le_refl _)) hM19 cw19.size (SlR.below (ho20.reads (fun _ _ => rfl)) cw20 (Nat.le_refl _)) cw20.size).mono ?_
            rintro e w21 ⟨u21, M21, rfl, hM21, hO21, hb21⟩
            refine hK.out _ _ (HALL17.out _ (hS2.1.tr hb21)) (fun hS3 => ?_)
            clear hK K
            try simp only [Act.put, List.getElem_toArray, List.getElem_cons_succ, List.getElem_cons_zero, List.setIfInBounds_toArray, List.set_cons_zero, List.set_cons_succ]
            have zz3 := (hb21.block _ (lt_of_block zz2)).trans zz2
            have tl2 := lt_of_block zz2
            have cw19 := Gr.tr cw19 hb21
            have cw20 := Gr.tr cw20 hb21
            obtain ⟨a21, k21, e21, _, _⟩ := hO21.1.form
            subst e21
            refine wpAnyH_take (i := 5) (v := ?_) rfl (by kernel_rfl) (by kernel_rfl) (by kernel_rfl) (fun _ _ _ h => h) (Or.inl ⟨by rfl, ?_⟩) hS3 ?_
            rotate_left
            · (intro W hSw; (try dsimp only at hSw); go_simp; try (with_reducible rfl))
            try simp only [Act.put, List.getElem_toArray, List.getElem_cons_succ, List.getElem_cons_zero, List.setIfInBounds_toArray, List.set_cons_zero, List.set_cons_succ]
            refine wpAnyH_take (i := 6) (v := ?_) rfl (by kernel_rfl) (by kernel_rfl) (by kernel_rfl) (fun _ _ _ h => h) (Or.inl ⟨by rfl, ?_⟩) hS3 ?_
            rotate_left
            · (intro W hSw; (try dsimp only at hSw); go_simp; try (with_reducible rfl))
            try simp only [Act.put, List.getElem_toArray, List.getElem_cons_succ, List.getElem_cons_zero, List.setIfInBounds_toArray, List.set_cons_zero, List.set_cons_succ]
            refine wpAnyH_take (i := 7) (v := ?_) rfl (by kernel_rfl) (by kernel_rfl) (by kernel_rfl) (fun _ _ _ h => h) (Or.inl ⟨by rfl, ?_⟩) hS3 ?_
            rotate_left
            · (intro W hSw; (try dsimp only at hSw); go_simp; try (with_reducible rfl))
            try simp only [Act.put, List.getElem_toArray, List.getElem_cons_succ, List.getElem_cons_zero, List.setIfInBounds_toArray, List.set_cons_zero, List.set_cons_succ]
            refine wpAnyH_ready (rs := [9]) (by kernel_rfl) (by simp) ?_
            refine AllReadyH.cons rfl (fun K hK => ?_) (AllReadyH.nil)
            obtain ⟨zc, zf⟩ := row1 zz3
            go_simp
            refine hK.out _ _ (HALL17.out _ (hS3.1.setCell (p := ⟨w19.heap.size, 0, none⟩) tg _)) (fun hE => ?_)
            clear hK K
            try simp only [Act.put, List.getElem_toArray, List.getElem_cons_succ, List.getElem_cons_zero, List.setIfInBounds_toArray, List.set_cons_zero, List.set_cons_succ]
            refine wpAnyH_take (i := 10) (v := ?_) rfl (by kernel_rfl) (by kernel_rfl) (by kernel_rfl) (fun _ _ _ h => h) (Or.inl ⟨by rfl, ?_⟩) hE ?_
            rotate_left
            · (intro W hSw; (try dsimp only at hSw); go_simp; try (with_reducible rfl))
            try simp only [Act.put, List.getElem_toArray, List.getElem_cons_succ, List.getElem_cons_zero, List.setIfInBounds_toArray, List.set_cons_zero, List.set_cons_succ]
            refine wpAnyH_done (by kernel_rfl) ?_ _
            have hB21 := hE.1
            have z21 := heap_set1 (b0 := .slice a21 M21.length k21) zz3
            have hO22 := (hO21.chg (ChgN.set w21 w19.heap.size 0 (.slice a21 M21.length k21) (p := fun b => b = (w19.heap.size)) rfl) (fun b hb q => by have := (hO21.block b hb).1; have := tl2; omega))
            obtain ⟨wb, hwb⟩ : ∃ wb, w21.setCell ⟨w19.heap.size, 0, none⟩ (.slice a21 M21.length k21) = wb := ⟨_, rfl⟩
            rw [hwb] at z21 hB21 hO22
            try simp only [hwb]
            obtain ⟨_, ⟨d5, d8⟩, o5⟩ := HCH.out _ hB21
            obtain ⟨d21, _⟩ := row1 z21
            have rd21 := hO22.flR2
            clear zc zf hS0 hS1 hS2 hS3 hE
            go_wp2_with fail
            refine (eqTree_any _ _ M21 M5 _ rd21 o5.flR2 (hM21.trans HM5.out.symm) (Nat.le_refl _) (Nat.le_refl _)).mono ?_
            rintro e w22 ⟨rfl, hb22⟩
            have hb22 := hB21.tr hb22
            clear d5 d8 d21 o5
            obtain ⟨_, ⟨d5, d8⟩, _⟩ := HCH.out _ hb22
            go_wp2_with fail
            refine (HHE.out _ hb22).mono ?_
            rintro e w23 ⟨rfl, hb23⟩
            go_wp2
            go_ret
            exact ⟨rfl, (hB17.tr hb22).tr hb23⟩
        · skip
          have zz0 : ((w18.drewN 1).alloc (.cells #[.slice none 0 0] 32)).heap[w18.heap.size]? = some (.cells #[.slice none 0 0] 32) := heap_alloc_new (w18.drewN 1) (.cells #[.slice none 0 0] 32)
          have tg : w17.heap.size ≤ w18.heap.size := hS0.1.size
          go_simp
          refine hK.out _ _ (HALL17.out _ (hS0.1.tr (gr_al _ _))) (fun hA0 => ?_)
          clear hK K
          try simp only [Act.put, List.getElem_toArray, List.getElem_cons_succ, List.getElem_cons_zero, List.setIfInBounds_toArray, List.set_cons_zero, List.set_cons_succ]
          refine wpAnyH_ready (rs := [1]) (by kernel_rfl) (by simp) ?_
          refine AllReadyH.cons rfl (fun K hK => ?_) (AllReadyH.nil)
          go_simp
          refine (H3.out _ (hB17.tr hA0.1)).mono ?_
          rintro e w19 ⟨u19, rfl, M19, hM19, ho19, hb19⟩
          refine hK.out _ _ (HALL17.out _ (hA0.1.tr hb19)) (fun hS1 => ?_)
          clear hK K
          try simp only [Act.put, List.getElem_toArray, List.getElem_cons_succ, List.getElem_cons_zero, List.setIfInBounds_toArray, List.set_cons_zero, List.set_cons_succ]
          have zz1 := (hb19.block _ (lt_of_block zz0)).trans zz0
          have tl0 := lt_of_block zz0
          have cw19 := Gr.rfl' w19
          obtain ⟨a19, k19, e19, _, _⟩ := ho19.1.form
          subst e19
          refine wpAnyH_ready (rs := [3]) (by kernel_rfl) (by simp) ?_
          refine AllReadyH.cons rfl (fun K hK => ?_) (AllReadyH.nil)
          go_simp
          refine (H4.out _ (hB17.tr hS1.1)).mono ?_
          rintro e w20 ⟨u20, rfl, ho20, hb20⟩
          refine hK.out _ _ (HALL17.out _ (hS1.1.tr hb20)) (fun hS2 => ?_)
          clear hK K
          try simp only [Act.put, List.getElem_toArray, List.getElem_cons_succ, List.getElem_cons_zero, List.setIfInBounds_toArray, List.set_cons_zero, List.set_cons_succ]
          have zz2 := (hb20.block _ (lt_of_block zz1)).trans zz1
          have tl1 := lt_of_block zz1
          have cw19 := Gr.tr cw19 hb20
          have cw20 := Gr.rfl' w20
          obtain ⟨a20, k20, e20, _, _⟩ := ho20.form
          subst e20
          refine wpAnyH_ready (rs := [4]) (by kernel_rfl) (by simp) ?_
          refine AllReadyH.cons rfl (fun K hK => ?_) (AllReadyH.nil)
          go_simp
          refine (H2.out _ _ _ M19 _ _ _ _ (hok.gr (hB17.tr hS2.1)) (ho19.reads.below cw19 (Nat.le_refl _)) hM19 cw19.size (SlR.below (ho20.reads (fun _ _ => rfl)) cw20 (Nat.le_refl _)) cw20.size).mono ?_
          rintro e w21 ⟨u21, M21, rfl, hM21, hO21, hb21⟩
          refine hK.out _ _ (HALL17.out _ (hS2.1.tr hb21)) (fun hS3 => ?_)
          clear hK K
          try simp only [Act.put, List.getElem_toArray, List.getElem_cons_succ, List.getElem_cons_zero, List.setIfInBounds_toArray, List.set_cons_zero, List.set_cons_succ]
          have zz3 := (hb21.block _ (lt_of_block zz2)).trans zz2
          have tl2 := lt_of_block zz2
          have cw19 := Gr.tr cw19 hb21
          have cw20 := Gr.tr cw20 hb21
          obtain ⟨a21, k21, e21, _, _⟩ := hO21.1.form
          subst e21
          refine wpAnyH_take (i := 5) (v := ?_) rfl (by kernel_rfl) (by kernel_rfl) (by kernel_rfl) (fun _ _ _ h => h) (Or.inl ⟨by rfl, ?_⟩) hS3 ?_
          rotate_left
          · (intro W hSw; (try dsimp only at hSw); go_simp; try (with_reducible rfl))
          try simp only [Act.put, List.getElem_toArray, List.getElem_cons_succ, List.getElem_cons_zero, List.setIfInBounds_toArray, List.set_cons_zero, List.set_cons_succ]
          refine wpAnyH_take (i := 6) (v := ?_) rfl (by kernel_rfl) (by kernel_rfl) (by kernel_rfl) (fun _ _ _ h => h) (Or.inl ⟨by rfl, ?_⟩) hS3 ?_
          rotate_left
          · (intro W hSw; (try dsimp only at hSw); go_simp; try (with_reducible rfl))
          try simp only [Act.put, List.getElem_toArray, List.getElem_cons_succ, List.getElem_cons_zero, List.setIfInBounds_toArray, List.set_cons_zero, List.set_cons_succ]
          refine wpAnyH_take (i := 7) (v := ?_) rfl (by kernel_rfl) (by kernel_rfl) (by kernel_rfl) (fun _ _ _ h => h) (Or.inl ⟨by rfl, ?_⟩) hS3 ?_
          rotate_left
          · (intro W hSw; (try dsimp only at hSw); go_simp; try (with_reducible rfl))
          try simp only [Act.put, List.getElem_toArray, List.getElem_cons_succ, List.getElem_cons_zero, List.setIfInBounds_toArray, List.set_cons_zero, List.set_cons_succ]
          refine wpAnyH_ready (rs := [9]) (by kernel_rfl) (by simp) ?_
          refine AllReadyH.cons rfl (fun K hK => ?_) (AllReadyH.nil)
          obtain ⟨zc, zf⟩ := row1 zz3
          go_simp
          refine hK.out _ _ (HALL17.out _ (hS3.1.setCell (p := ⟨w18.heap.size, 0, none⟩) tg _)) (fun hE => ?_)
          clear hK K
          try simp only [Act.put, List.getElem_toArray, List.getElem_cons_succ, List.getElem_cons_zero, List.setIfInBounds_toArray, List.set_cons_zero, List.set_cons_succ]
          refine wpAnyH_take (i := 10) (v := ?_) rfl (by kernel_rfl) (by kernel_rfl) (by kernel_rfl) (fun _ _ _ h => h) (Or.inl ⟨by rfl, ?_⟩) hE ?_
          rotate_left
          · (intro W hSw; (try dsimp only at hSw); go_simp; try (with_reducible rfl))
          try simp only [Act.put, List.getElem_toArray, List.getElem_cons_succ, List.getElem_cons_zero, List.setIfInBounds_toArray, List.set_cons_zero, List.set_cons_succ]
          refine wpAnyH_done (by kernel_rfl) ?_ _
          have hB21 := hE.1
          have z21 := heap_set1 (b0 := .slice a21 M21.length k21) zz3
          have hO22 := (hO21.chg (ChgN.set w21 w18.heap.size 0 (.slice a21 M21.length k21) (p := fun b => b = (w18.heap.size)) rfl) (fun b hb q => by have := (hO21.block b hb).1; have := tl2; omega))
          obtain ⟨wb, hwb⟩ : ∃ wb, w21.setCell ⟨w18.heap.size, 0, none⟩ (.slice a21 M21.length k21) = wb := ⟨_, rfl⟩
          rw [hwb] at z21 hB21 hO22
          try simp only [hwb]
          obtain ⟨_, ⟨d5, d8⟩, o5⟩ := HCH.out _ hB21
          obtain ⟨d21, _⟩ := row1 z21
          have rd21 := hO22.flR2
          clear zc zf hS0 hS1 hS2 hS3 hE
          go_wp2_with fail
          refine (eqTree_any _ _ M21 M5 _ rd21 o5.flR2 (hM21.trans HM5.out.symm) (Nat.le_refl _) (Nat.le_refl _)).mono ?_
          rintro e w22 ⟨rfl, hb22⟩
          have hb22 := hB21.tr hb22
          clear d5 d8 d21 o5
          obtain ⟨_, ⟨d5, d8⟩, _⟩ := HCH.out _ hb22
          go_wp2_with fail
          refine (HHE.out _ hb22).mono ?_
          rintro e w23 ⟨rfl, hb23⟩
          go_wp2
          go_ret
          exact ⟨rfl, (hB17.tr hb22).tr hb23⟩
      refine wp_region_held_drew (S := (fun W => Gr ((w.alloc (.cells #[.slice ta L.length tc] 24)).alloc (.cells #[.int .i64 f.root, .string f.pkg, .string f.name, .bool f.init, .int .i64 f.stamp, .slice fa f.body.length fc] 27)) W ∧ W.cell? ⟨w.heap.size, 0, none⟩ = some (.slice ta L.length tc) ∧ (W.cell? ⟨w.heap.size + 1, 0, none⟩ = some (.int .i64 f.root) ∧ W.cell? ⟨w.heap.size + 1, 1, none⟩ = some (.string f.pkg) ∧ W.cell? ⟨w.heap.size + 1, 2, none⟩ = some (.string f.name) ∧ W.cell? ⟨w.heap.size + 1, 3, none⟩ = some (.bool f.init) ∧ W.cell? ⟨w.heap.size + 1, 4, none⟩ = some (.int .i64 f.stamp) ∧ W.cell? ⟨w.heap.size + 1, 5, none⟩ = some (.slice fa f.body.length fc)))) (by kernel_rfl) (HALL.out _ (below_drewN hB2 1)) (fun hS0 => ?_)
      refine wpAnyH_take (i := 0) (v := ?_) rfl (by kernel_rfl) (by kernel_rfl) (by kernel_rfl) (fun _ _ _ h => h) (Or.inl ⟨by rfl, ?_⟩) hS0 ?_
      rotate_left
      · (intro W hSw; (try dsimp only at hSw); go_simp; try (with_reducible rfl))
      try simp only [Act.put, List.getElem_toArray, List.getElem_cons_succ, List.getElem_cons_zero, List.setIfInBounds_toArray, List.set_cons_zero, List.set_cons_succ]
      refine wpAnyH_take (i := 2) (v := ?_) rfl (by kernel_rfl) (by kernel_rfl) (by kernel_rfl) (fun _ _ _ h => h) (Or.inl ⟨by rfl, ?_⟩) hS0 ?_
      rotate_left
      · (intro W hSw; (try dsimp only at hSw); go_simp; try (with_reducible rfl))
      try simp only [Act.put, List.getElem_toArray, List.getElem_cons_succ, List.getElem_cons_zero, List.setIfInBounds_toArray, List.set_cons_zero, List.set_cons_succ]
      refine wpAnyH_ready (rs := [1, 8]) (by kernel_rfl) (by simp) ?_
      refine AllReadyH.cons rfl (fun K hK => ?_) (AllReadyH.cons rfl (fun K hK => ?_) (AllReadyH.nil))
      · skip
        go_simp
        refine (H3.out _ (hgG.tr hS0.1)).mono ?_
        rintro e w3 ⟨u3, rfl, M3, hM3, ho3, hb3⟩
        refine hK.out _ _ (HALL.out _ (hS0.1.tr hb3)) (fun hS1 => ?_)
        clear hK K
        try simp only [Act.put, List.getElem_toArray, List.getElem_cons_succ, List.getElem_cons_zero, List.setIfInBounds_toArray, List.set_cons_zero, List.set_cons_succ]
        have cw3 := Gr.rfl' w3
        obtain ⟨a3, k3, e3, _, _⟩ := ho3.1.form
        subst e3
        refine wpAnyH_ready (rs := [3, 8]) (by kernel_rfl) (by simp) ?_
        refine AllReadyH.cons rfl (fun K hK => ?_) (AllReadyH.cons rfl (fun K hK => ?_) (AllReadyH.nil))
        · skip
          go_simp
          refine (H4.out _ (hgG.tr hS1.1)).mono ?_
          rintro e w4 ⟨u4, rfl, ho4, hb4⟩
          refine hK.out _ _ (HALL.out _ (hS1.1.tr hb4)) (fun hS2 => ?_)
          clear hK K
          try simp only [Act.put, List.getElem_toArray, List.getElem_cons_succ, List.getElem_cons_zero, List.setIfInBounds_toArray, List.set_cons_zero, List.set_cons_succ]
          have cw3 := Gr.tr cw3 hb4
          have cw4 := Gr.rfl' w4
          obtain ⟨a4, k4, e4, _, _⟩ := ho4.form
          subst e4
          refine wpAnyH_ready (rs := [4, 8]) (by kernel_rfl) (by simp) ?_
          refine AllReadyH.cons rfl (fun K hK => ?_) (AllReadyH.cons rfl (fun K hK => ?_) (AllReadyH.nil))
          · skip
            go_simp
            refine (H1.out _ _ _ M3 _ _ _ _ (hok.gr (hgG.tr hS2.1)) (ho3.reads.below cw3 (Nat.le_refl _)) hM3 cw3.size (SlR.below (ho4.reads (fun _ _ => rfl)) cw4 (Nat.le_refl _)) cw4.size).mono ?_
            rintro e w5 ⟨u5, M5, rfl, hM5, hO5, hb5⟩
            refine hK.out _ _ (HALL.out _ (hS2.1.tr hb5)) (fun hS3 => ?_)
            clear hK K
            try simp only [Act.put, List.getElem_toArray, List.getElem_cons_succ, List.getElem_cons_zero, List.setIfInBounds_toArray, List.set_cons_zero, List.set_cons_succ]
            have cw3 := Gr.tr cw3 hb5
            have cw4 := Gr.tr cw4 hb5
            obtain ⟨a5, k5, e5, _, _⟩ := hO5.1.form
            subst e5
            refine wpAnyH_take (i := 5) (v := ?_) rfl (by kernel_rfl) (by kernel_rfl) (by kernel_rfl) (fun _ _ _ h => h) (Or.inl ⟨by rfl, ?_⟩) hS3 ?_
            rotate_left
            · (intro W hSw; (try dsimp only at hSw); go_simp; try (with_reducible rfl))
            try simp only [Act.put, List.getElem_toArray, List.getElem_cons_succ, List.getElem_cons_zero, List.setIfInBounds_toArray, List.set_cons_zero, List.set_cons_succ]
            refine wpAnyH_take (i := 6) (v := ?_) rfl (by kernel_rfl) (by kernel_rfl) (by kernel_rfl) (fun _ _ _ h => h) (Or.inl ⟨by rfl, ?_⟩) hS3 ?_
            rotate_left
            · (intro W hSw; (try dsimp only at hSw); go_simp; try (with_reducible rfl))
            try simp only [Act.put, List.getElem_toArray, List.getElem_cons_succ, List.getElem_cons_zero, List.setIfInBounds_toArray, List.set_cons_zero, List.set_cons_succ]
            refine wpAnyH_take (i := 7) (v := ?_) rfl (by kernel_rfl) (by kernel_rfl) (by kernel_rfl) (fun _ _ _ h => h) (Or.inl ⟨by rfl, ?_⟩) hS3 ?_
            rotate_left
            · (intro W hSw; (try dsimp only at hSw); go_simp; try (with_reducible rfl))
            try simp only [Act.put, List.getElem_toArray, List.getElem_cons_succ, List.getElem_cons_zero, List.setIfInBounds_toArray, List.set_cons_zero, List.set_cons_succ]
            refine wpAnyH_ready (rs := [8]) (by kernel_rfl) (by simp) ?_
            refine AllReadyH.cons rfl (fun K hK => ?_) (AllReadyH.nil)
            have zz3 : ((w5).alloc (.cells #[.slice none 0 0] 32)).heap[w5.heap.size]? = some (.cells #[.slice none 0 0] 32) := heap_alloc_new (w5) (.cells #[.slice none 0 0] 32)
            have tg : ((w.alloc (.cells #[.slice ta L.length tc] 24)).alloc (.cells #[.int .i64 f.root, .string f.pkg, .string f.name, .bool f.init, .int .i64 f.stamp, .slice fa f.body.length fc] 27)).heap.size ≤ w5.heap.size := hS3.1.size
            obtain ⟨zc, zf⟩ := row1 zz3
            go_simp
            refine hK.out _ _ (HALL.out _ (hS3.1.tr (gr_al _ _))) (fun hA3 => ?_)
            clear hK K
            try simp only [Act.put, List.getElem_toArray, List.getElem_cons_succ, List.getElem_cons_zero, List.setIfInBounds_toArray, List.set_cons_zero, List.set_cons_succ]
            have cw3 := Gr.tr cw3 (gr_al (w5) (.cells #[.slice none 0 0] 32))
            have cw4 := Gr.tr cw4 (gr_al (w5) (.cells #[.slice none 0 0] 32))
            refine wpAnyH_ready (rs := [9]) (by kernel_rfl) (by simp) ?_
            refine AllReadyH.cons rfl (fun K hK => ?_) (AllReadyH.nil)
            go_simp
            refine hK.out _ _ (HALL.out _ (hS3.1.tr (gr_al w5 (.cells #[.slice a5 M5.length k5] 32)))) (fun hE => ?_)
            clear hK K
            try simp only [Act.put, List.getElem_toArray, List.getElem_cons_succ, List.getElem_cons_zero, List.setIfInBounds_toArray, List.set_cons_zero, List.set_cons_succ]
            refine wpAnyH_take (i := 10) (v := ?_) rfl (by kernel_rfl) (by kernel_rfl) (by kernel_rfl) (fun _ _ _ h => h) (Or.inl ⟨by rfl, ?_⟩) hE ?_
            rotate_left
            · (intro W hSw; (try dsimp only at hSw); go_simp; try (with_reducible rfl))
            try simp only [Act.put, List.getElem_toArray, List.getElem_cons_succ, List.getElem_cons_zero, List.setIfInBounds_toArray, List.set_cons_zero, List.set_cons_succ]
            refine wpAnyH_done (by kernel_rfl) ?_ _
            exact KEY _ _ a5 k5 M5 w5.heap.size w5.heap.size _ hM5 hE.1 (heap_alloc_new w5 (.cells #[.slice a5 M5.length k5] 32)) ((hO5.gr (gr_al w5 (.cells #[.slice a5 M5.length k5] 32))).mono (Nat.zero_le _)) (by simp) (by have := tg; simp only [World.size_alloc] at this; omega) (Nat.le_refl _)
          · skip
            have zz2 : ((w4).alloc (.cells #[.slice none 0 0] 32)).heap[w4.heap.size]? = some (.cells #[.slice none 0 0] 32) := heap_alloc_new (w4) (.cells #[.slice none 0 0] 32)
            have tg : ((w.alloc (.cells #[.slice ta L.length tc] 24)).alloc (.cells #[.int .i64 f.root, .string f.pkg, .string f.name, .bool f.init, .int .i64 f.stamp, .slice fa f.body.length fc] 27)).heap.size ≤ w4.heap.size := hS2.1.size
            go_simp
            refine hK.out _ _ (HALL.out _ (hS2.1.tr (gr_al _ _))) (fun hA2 => ?_)
            clear hK K
            try simp only [Act.put, List.getElem_toArray, List.getElem_cons_succ, List.getElem_cons_zero, List.setIfInBounds_toArray, List.set_cons_zero, List.set_cons_succ]
            have cw3 := Gr.tr cw3 (gr_al (w4) (.cells #[.slice none 0 0] 32))
            have cw4 := Gr.tr cw4 (gr_al (w4) (.cells #[.slice none 0 0] 32))
            refine wpAnyH_ready (rs := [4]) (by kernel_rfl) (by simp) ?_
            refine AllReadyH.cons rfl (fun K hK => ?_) (AllReadyH.nil)
            go_simp
            refine (H1.out _ _ _ M3 _ _ _ _ (hok.gr (hgG.tr hA2.1)) (ho3.reads.below cw3 (Nat.le_refl _)) hM3 cw3.size (SlR.below (ho4.reads (fun _ _ => rfl)) cw4 (Nat.le_refl _)) cw4.size).mono ?_
            rintro e w5 ⟨u5, M5, rfl, hM5, hO5, hb5⟩
            refine hK.out _ _ (HALL.out _ (hA2.1.tr hb5)) (fun hS3 => ?_)
            clear hK K
            try simp only [Act.put, List.getElem_toArray, List.getElem_cons_succ, List.getElem_cons_zero, List.setIfInBounds_toArray, List.set_cons_zero, List.set_cons_succ]
            have zz3 := (hb5.block _ (lt_of_block zz2)).trans zz2
            have tl2 := lt_of_block zz2
            have cw3 := Gr.tr cw3 hb5
            have cw4 := Gr.tr cw4 hb5
            obtain ⟨a5, k5, e5, _, _⟩ := hO5.1.form
            subst e5
            refine wpAnyH_take (i := 5) (v := ?_) rfl (by kernel_rfl) (by kernel_rfl) (by kernel_rfl) (fun _ _ _ h => h) (Or.inl ⟨by rfl, ?_⟩) hS3 ?_
            rotate_left
            · (intro W hSw; (try dsimp only at hSw); go_simp; try (with_reducible rfl))
            try simp only [Act.put, List.getElem_toArray, List.getElem_cons_succ, List.getElem_cons_zero, List.setIfInBounds_toArray, List.set_cons_zero, List.set_cons_succ]
            refine wpAnyH_take (i := 6) (v := ?_) rfl (by kernel_rfl) (by kernel_rfl) (by kernel_rfl) (fun _ _ _ h => h) (Or.inl ⟨by rfl, ?_⟩) hS3 ?_
            rotate_left
            · (intro W hSw; (try dsimp only at hSw); go_simp; try (with_reducible rfl))
            try simp only [Act.put, List.getElem_toArray, List.getElem_cons_succ, List.getElem_cons_zero, List.setIfInBounds_toArray, List.set_cons_zero, List.set_cons_succ]
            refine wpAnyH_take (i := 7) (v := ?_) rfl (by kernel_rfl) (by kernel_rfl) (by kernel_rfl) (fun _ _ _ h => h) (Or.inl ⟨by rfl, ?_⟩) hS3 ?_
            rotate_left
            · (intro W hSw; (try dsimp only at hSw); go_simp; try (with_reducible rfl))
            try simp only [Act.put, List.getElem_toArray, List.getElem_cons_succ, List.getElem_cons_zero, List.setIfInBounds_toArray, List.set_cons_zero, List.set_cons_succ]
            refine wpAnyH_ready (rs := [9]) (by kernel_rfl) (by simp) ?_
            refine AllReadyH.cons rfl (fun K hK => ?_) (AllReadyH.nil)
            obtain ⟨zc, zf⟩ := row1 zz3
            go_simp
            refine hK.out _ _ (HALL.out _ (hS3.1.setCell (p := ⟨w4.heap.size, 0, none⟩) tg _)) (fun hE => ?_)
            clear hK K
            try simp only [Act.put, List.getElem_toArray, List.getElem_cons_succ, List.getElem_cons_zero, List.setIfInBounds_toArray, List.set_cons_zero, List.set_cons_succ]
            refine wpAnyH_take (i := 10) (v := ?_) rfl (by kernel_rfl) (by kernel_rfl) (by kernel_rfl) (fun _ _ _ h => h) (Or.inl ⟨by rfl, ?_⟩) hE ?_
            rotate_left
            · (intro W hSw; (try dsimp only at hSw); go_simp; try (with_reducible rfl))
            try simp only [Act.put, List.getElem_toArray, List.getElem_cons_succ, List.getElem_cons_zero, List.setIfInBounds_toArray, List.set_cons_zero, List.set_cons_succ]
            refine wpAnyH_done (by kernel_rfl) ?_ _
            exact KEY _ _ a5 k5 M5 w4.heap.size (w5.heap.size - 1) _ hM5 hE.1 (heap_set1 (b0 := .slice a5 M5.length k5) zz3) ((hO5.chg (ChgN.set w5 w4.heap.size 0 (.slice a5 M5.length k5) (p := fun b => b = (w4.heap.size)) rfl) (fun b hb q => by have := (hO5.block b hb).1; have := tl2; omega)).mono (Nat.zero_le _)) (by have := lt_of_block zz3; simp [World.setCell]; omega) (by have := tg; simp only [World.size_alloc] at this; omega) (by have := lt_of_block zz3; omega)
        · skip
          have zz1 : ((w3).alloc (.cells #[.slice none 0 0] 32)).heap[w3.heap.size]? = some (.cells #[.slice none 0 0] 32) := heap_alloc_new (w3) (.cells #[.slice none 0 0] 32)
          have tg : ((w.alloc (.cells #[.slice ta L.length tc] 24)).alloc (.cells #[.int .i64 f.root, .string f.pkg, .string f.name, .bool f.init, .int .i64 f.stamp, .slice fa f.body.length fc] 27)).heap.size ≤ w3.heap.size := hS1.1.size
          go_simp
          refine hK.out _ _ (HALL.out _ (hS1.1.tr (gr_al _ _))) (fun hA1 => ?_)
          clear hK K
          try simp only [Act.put, List.getElem_toArray, List.getElem_cons_succ, List.getElem_cons_zero, List.setIfInBounds_toArray, List.set_cons_zero, List.set_cons_succ]
          have cw3 := Gr.tr cw3 (gr_al (w3) (.cells #[.slice none 0 0] 32))
          refine wpAnyH_ready (rs := [3]) (by kernel_rfl) (by simp) ?_
          refine AllReadyH.cons rfl (fun K hK => ?_) (AllReadyH.nil)
          go_simp
          refine (H4.out _ (hgG.tr hA1.1)).mono ?_
          rintro e w4 ⟨u4, rfl, ho4, hb4⟩
          refine hK.out _ _ (HALL.out _ (hA1.1.tr hb4)) (fun hS2 => ?_)
          clear hK K
          try simp only [Act.put, List.getElem_toArray, List.getElem_cons_succ, List.getElem_cons_zero, List.setIfInBounds_toArray, List.set_cons_zero, List.set_cons_succ]
          have zz2 := (hb4.block _ (lt_of_block zz1)).trans zz1
          have tl1 := lt_of_block zz1
          have cw3 := Gr.tr cw3 hb4
          have cw4 := Gr.rfl' w4
          obtain ⟨a4, k4, e4, _, _⟩ := ho4.form
          subst e4
          refine wpAnyH_ready (rs := [4]) (by kernel_rfl) (by simp) ?_
          refine AllReadyH.cons rfl (fun K hK => ?_) (AllReadyH.nil)
          go_simp
          refine (H1.out _ _ _ M3 _ _ _ _ (hok.gr (hgG.tr hS2.1)) (ho3.reads.below cw3 (Nat.le_refl _)) hM3 cw3.size (SlR.below (ho4.reads (fun _ _ => rfl)) cw4 (Nat.le_refl _)) cw4.size).mono ?_
          rintro e w5 ⟨u5, M5, rfl, hM5, hO5, hb5⟩
          refine hK.out _ _ (HALL.out _ (hS2.1.tr hb5)) (fun hS3 => ?_)
          clear hK K
          try simp only [Act.put, List.getElem_toArray, List.getElem_cons_succ, List.getElem_cons_zero, List.setIfInBounds_toArray, List.set_cons_zero, List.set_cons_succ]
          have zz3 := (hb5.block _ (lt_of_block zz2)).trans zz2
          have tl2 := lt_of_block zz2
          have cw3 := Gr.tr cw3 hb5
          have cw4 := Gr.tr cw4 hb5
          obtain ⟨a5, k5, e5, _, _⟩ := hO5.1.form
          subst e5
          refine wpAnyH_take (i := 5) (v := ?_) rfl (by kernel_rfl) (by kernel_rfl) (by kernel_rfl) (fun _ _ _ h => h) (Or.inl ⟨by rfl, ?_⟩) hS3 ?_
          rotate_left
          · (intro W hSw; (try dsimp only at hSw); go_simp; try (with_reducible rfl))
          try simp only [Act.put, List.getElem_toArray, List.getElem_cons_succ, List.getElem_cons_zero, List.setIfInBounds_toArray, List.set_cons_zero, List.set_cons_succ]
          refine wpAnyH_take (i := 6) (v := ?_) rfl (by kernel_rfl) (by kernel_rfl) (by kernel_rfl) (fun _ _ _ h => h) (Or.inl ⟨by rfl, ?_⟩) hS3 ?_
          rotate_left
          · (intro W hSw; (try dsimp only at hSw); go_simp; try (with_reducible rfl))
          try simp only [Act.put, List.getElem_toArray, List.getElem_cons_succ, List.getElem_cons_zero, List.setIfInBounds_toArray, List.set_cons_zero, List.set_cons_succ]
          refine wpAnyH_take (i := 7) (v := ?_) rfl (by kernel_rfl) (by kernel_rfl) (by kernel_rfl) (fun _ _ _ h => h) (Or.inl ⟨by rfl, ?_⟩) hS3 ?_
          rotate_left
          · (intro W hSw; (try dsimp only at hSw); go_simp; try (with_reducible rfl))
          try simp only [Act.put, List.getElem_toArray, List.getElem_cons_succ, List.getElem_cons_zero, List.setIfInBounds_toArray, List.set_cons_zero, List.set_cons_succ]
          refine wpAnyH_ready (rs := [9]) (by kernel_rfl) (by simp) ?_
          refine AllReadyH.cons rfl (fun K hK => ?_) (AllReadyH.nil)
          obtain ⟨zc, zf⟩ := row1 zz3
          go_simp
          refine hK.out _ _ (HALL.out _ (hS3.1.setCell (p := ⟨w3.heap.size, 0, none⟩) tg _)) (fun hE => ?_)
          clear hK K
          try simp only [Act.put, List.getElem_toArray, List.getElem_cons_succ, List.getElem_cons_zero, List.setIfInBounds_toArray, List.set_cons_zero, List.set_cons_succ]
          refine wpAnyH_take (i := 10) (v := ?_) rfl (by kernel_rfl) (by kernel_rfl) (by kernel_rfl) (fun _ _ _ h => h) (Or.inl ⟨by rfl, ?_⟩) hE ?_
          rotate_left
          · (intro W hSw; (try dsimp only at hSw); go_simp; try (with_reducible rfl))
          try simp only [Act.put, List.getElem_toArray, List.getElem_cons_succ, List.getElem_cons_zero, List.setIfInBounds_toArray, List.set_cons_zero, List.set_cons_succ]
          refine wpAnyH_done (by kernel_rfl) ?_ _
          exact KEY _ _ a5 k5 M5 w3.heap.size (w5.heap.size - 1) _ hM5 hE.1 (heap_set1 (b0 := .slice a5 M5.length k5) zz3) ((hO5.chg (ChgN.set w5 w3.heap.size 0 (.slice a5 M5.length k5) (p := fun b => b = (w3.heap.size)) rfl) (fun b hb q => by have := (hO5.block b hb).1; have := tl2; omega)).mono (Nat.zero_le _)) (by have := lt_of_block zz3; simp [World.setCell]; omega) (by have := tg; simp only [World.size_alloc] at this; omega) (by have := lt_of_block zz3; omega)
      · skip
        have zz0 : ((w2.drewN 1).alloc (.cells #[.slice none 0 0] 32)).heap[w2.heap.size]? = some (.cells #[.slice none 0 0] 32) := heap_alloc_new (w2.drewN 1) (.cells #[.slice none 0 0] 32)
        have tg : ((w.alloc (.cells #[.slice ta L.length tc] 24)).alloc (.cells #[.int .i64 f.root, .string f.pkg, .string f.name, .bool f.init, .int .i64 f.stamp, .slice fa f.body.length fc] 27)).heap.size ≤ w2.heap.size := hS0.1.size
        go_simp
        refine hK.out _ _ (HALL.out _ (hS0.1.tr (gr_al _ _))) (fun hA0 => ?_)
        clear hK K
        try simp only [Act.put, List.getElem_toArray, List.getElem_cons_succ, List.getElem_cons_zero, List.setIfInBounds_toArray, List.set_cons_zero, List.set_cons_succ]
        refine wpAnyH_ready (rs := [1]) (by kernel_rfl) (by simp) ?_
        refine AllReadyH.cons rfl (fun K hK => ?_) (AllReadyH.nil)
        go_simp
        refine (H3.out _ (hgG.tr hA0.1)).mono ?_
        rintro e w3 ⟨u3, rfl, M3, hM3, ho3, hb3⟩
        refine hK.out _ _ (HALL.out _ (hA0.1.tr hb3)) (fun hS1 => ?_)
        clear hK K
        try simp only [Act.put, List.getElem_toArray, List.getElem_cons_succ, List.getElem_cons_zero, List.setIfInBounds_toArray, List.set_cons_zero, List.set_cons_succ]
        have zz1 := (hb3.block _ (lt_of_block zz0)).trans zz0
        have tl0 := lt_of_block zz0
        have cw3 := Gr.rfl' w3
        obtain ⟨a3, k3, e3, _, _⟩ := ho3.1.form
        subst e3
        refine wpAnyH_ready (rs := [3]) (by kernel_rfl) (by simp) ?_
        refine AllReadyH.cons rfl (fun K hK => ?_) (AllReadyH.nil)
        go_simp
        refine (H4.out _ (hgG.tr hS1.1)).mono ?_
        rintro e w4 ⟨u4, rfl, ho4, hb4⟩
        refine hK.out _ _ (HALL.out _ (hS1.1.tr hb4)) (fun hS2 => ?_)
        clear hK K
        try simp only [Act.put, List.getElem_toArray, List.getElem_cons_succ, List.getElem_cons_zero, List.setIfInBounds_toArray, List.set_cons_zero, List.set_cons_succ]
        have zz2 := (hb4.block _ (lt_of_block zz1)).trans zz1
        have tl1 := lt_of_block zz1
        have cw3 := Gr.tr cw3 hb4
        have cw4 := Gr.rfl' w4
        obtain ⟨a4, k4, e4, _, _⟩ := ho4.form
        subst e4
        refine wpAnyH_ready (rs := [4]) (by kernel_rfl) (by simp) ?_
        refine AllReadyH.cons rfl (fun K hK => ?_) (AllReadyH.nil)
        go_simp
        refine (H1.out _ _ _ M3 _ _ _ _ (hok.gr (hgG.tr hS2.1)) (ho3.reads.below cw3 (Nat.le_refl _)) hM3 cw3.size (SlR.below (ho4.reads (fun _ _ => rfl)) cw4 (Nat.le_refl _)) cw4.size).mono ?_
        rintro e w5 ⟨u5, M5, rfl, hM5, hO5, hb5⟩
        refine hK.out _ _ (HALL.out _ (hS2.1.tr hb5)) (fun hS3 => ?_)
        clear hK K
        try simp only [Act.put, List.getElem_toArray, List.getElem_cons_succ, List.getElem_cons_zero, List.setIfInBounds_toArray, List.set_cons_zero, List.set_cons_succ]
        have zz3 := (hb5.block _ (lt_of_block zz2)).trans zz2
        have tl2 := lt_of_block zz2
        have cw3 := Gr.tr cw3 hb5
        have cw4 := Gr.tr cw4 hb5
        obtain ⟨a5, k5, e5, _, _⟩ := hO5.1.form
        subst e5
        refine wpAnyH_take (i := 5) (v := ?_) rfl (by kernel_rfl) (by kernel_rfl) (by kernel_rfl) (fun _ _ _ h => h) (Or.inl ⟨by rfl, ?_⟩) hS3 ?_
        rotate_left
        · (intro W hSw; (try dsimp only at hSw); go_simp; try (with_reducible rfl))
        try simp only [Act.put, List.getElem_toArray, List.getElem_cons_succ, List.getElem_cons_zero, List.setIfInBounds_toArray, List.set_cons_zero, List.set_cons_succ]
        refine wpAnyH_take (i := 6) (v := ?_) rfl (by kernel_rfl) (by kernel_rfl) (by kernel_rfl) (fun _ _ _ h => h) (Or.inl ⟨by rfl, ?_⟩) hS3 ?_
        rotate_left
        · (intro W hSw; (try dsimp only at hSw); go_simp; try (with_reducible rfl))
        try simp only [Act.put, List.getElem_toArray, List.getElem_cons_succ, List.getElem_cons_zero, List.setIfInBounds_toArray, List.set_cons_zero, List.set_cons_succ]
        refine wpAnyH_take (i := 7) (v := ?_) rfl (by kernel_rfl) (by kernel_rfl) (by kernel_rfl) (fun _ _ _ h => h) (Or.inl ⟨by rfl, ?_⟩) hS3 ?_
        rotate_left
        · (intro W hSw; (try dsimp only at hSw); go_simp; try (with_reducible rfl))
        try simp only [Act.put, List.getElem_toArray, List.getElem_cons_succ, List.getElem_cons_zero, List.setIfInBounds_toArray, List.set_cons_zero, List.set_cons_succ]
        refine wpAnyH_ready (rs := [9]) (by kernel_rfl) (by simp) ?_
        refine AllReadyH.cons rfl (fun K hK => ?_) (AllReadyH.nil)
        obtain ⟨zc, zf⟩ := row1 zz3
        go_simp
        refine hK.out _ _ (HALL.out _ (hS3.1.setCell (p := ⟨w2.heap.size, 0, none⟩) tg _)) (fun hE => ?_)
        clear hK K
        try simp only [Act.put, List.getElem_toArray, List.getElem_cons_succ, List.getElem_cons_zero, List.setIfInBounds_toArray, List.set_cons_zero, List.set_cons_succ]
        refine wpAnyH_take (i := 10) (v := ?_) rfl (by kernel_rfl) (by kernel_rfl) (by kernel_rfl) (fun _ _ _ h => h) (Or.inl ⟨by rfl, ?_⟩) hE ?_
        rotate_left
        · (intro W hSw; (try dsimp only at hSw); go_simp; try (with_reducible rfl))
        try simp only [Act.put, List.getElem_toArray, List.getElem_cons_succ, List.getElem_cons_zero, List.setIfInBounds_toArray, List.set_cons_zero, List.set_cons_succ]
        refine wpAnyH_done (by kernel_rfl) ?_ _
        exact KEY _ _ a5 k5 M5 w2.heap.size (w5.heap.size - 1) _ hM5 hE.1 (heap_set1 (b0 := .slice a5 M5.length k5) zz3) ((hO5.chg (ChgN.set w5 w2.heap.size 0 (.slice a5 M5.length k5) (p := fun b => b = (w2.heap.size)) rfl) (fun b hb q => by have := (hO5.block b hb).1; have := tl2; omega)).mono (Nat.zero_le _)) (by have := lt_of_block zz3; simp [World.setCell]; omega) (by have := tg; simp only [World.size_alloc] at this; omega) (by have := lt_of_block zz3; omega)
end Go.Proofs.YtomndnlpogikdaaDoor
