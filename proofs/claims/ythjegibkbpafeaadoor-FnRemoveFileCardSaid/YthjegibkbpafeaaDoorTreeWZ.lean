/-
  Walk of the law on valid trees: files can go. Printed by treew.py.
-/
import Derived.Test.YthjegibkbpafeaaDoorDrawGZ
import Derived.Test.YthjegibkbpafeaaDoorTreeSZ
namespace Imp
open Go Go.RowKit
theorem without_map {T : List Fil} (j : Nat) (f : Fil) (hf : f ∈ T.take j ++ T.drop (j + 1)) : f ∈ T := (sub_without' T j).subset hf
theorem without_len {T : List Fil} {j : Nat} (h : j < T.length) : (T.take j ++ T.drop (j + 1)).length + 1 = T.length := by
  rw [List.length_append, List.length_take, List.length_drop]; omega
end Imp
namespace Go.Proofs.YthjegibkbpafeaaDoor
open Go Go.RowKit Imp
set_option linter.unusedVariables false
set_option linter.unusedSimpArgs false
theorem smF_t {r : FR} (h : SmFt r.1) : SmF r := by
  obtain ⟨h1, h2, h3, h4⟩ := h
  exact ⟨by omega, by omega, fun s hs => by have := h2 s hs; unfold szSt; omega⟩
theorem smF_sub {M N : List FR} (h : ∀ r ∈ M, SmFt r.1) (hs : ∀ f ∈ N.map (·.1), f ∈ M.map (·.1)) : ∀ r ∈ N, SmF r := fun r hr => by
  have := hs r.1 (List.mem_map_of_mem hr)
  rw [List.mem_map] at this
  obtain ⟨q, hq, e⟩ := this
  exact smF_t (by rw [← e]; exact h q hq)
def DrawnTree (w : World) (e : Ending) (w' : World) : Prop :=
  ∃ u, ∃ M : List FR, e = .returned (.agg #[u]) ∧ FlR w' 0 w'.heap.size u M ∧ M.length ≤ 11 ∧ (∀ r ∈ M, SmFt r.1) ∧ Gr w w'
theorem DrawValidTree_any {lo hi : Nat} (v : Value) (L : List UInt8) (w : World) (hv : SlR w lo hi 1 eB v L) (hhi : hi ≤ w.heap.size) (hl : L.length ≤ 1048576) :
    Calls Tryd.prog 9 #[v] w (DrawnTree w) := by
  have hg0 := gr_al w (.cells #[.slice none 0 0] 29)
  have hr0 := newReader_any v L (w.alloc (.cells #[.slice none 0 0] 29)) (hv.below hg0 hhi) (by simp; omega) hl
  have HR0 := Lib.hid hr0
  clear hr0
  go_enter Tryd.func9, Tryd.ntmps9
  go_wp2_with fail
  refine HR0.out.mono ?_
  rintro e w1 ⟨rfl, hr, hsz, hb⟩
  have hsz' : w1.heap.size = w.heap.size + 1 + 1 := by rw [hsz]; simp
  have hz1 := (hb.block w.heap.size (by simp)).trans (heap_alloc_new w _)
  simp only [World.size_alloc] at hr
  go_wp2_with fail
  refine (anyTree_any (w.heap.size + 1) 0 w1 hr (by omega)).mono ?_
  rintro e w2 ⟨u, M, p', rfl, hfl, hll, hsm, hr2, hp', hg⟩
  obtain ⟨ua, uc, rfl, _, _⟩ := hfl.1.form
  have hz2 := keep_blk hz1 hg (by omega)
  have HZ := Lib.hid hz2
  have HSM := Lib.hid hsm
  have HFL := Lib.hid hfl
  obtain ⟨x0, xf0⟩ := row1 hz2
  clear hz1 hz2 hsm hfl
  go_wp2
  refine bodyPost_ret (results_cell_row rfl _ _ w.heap.size 29 _ (0, 0) _ rfl (heap_set1 HZ.out) Tryd.underlying29 rfl (by kernel_rfl)) rfl ?_
  refine ⟨_, M, rfl, ((HFL.out.setB (b := w.heap.size) (o := 0) (by omega)).mono' (Nat.zero_le _) (by simp [World.setCell])), hll, HSM.out, ?_⟩
  exact ((hg0.tr hb).grown hg (by omega) (fun b hb => by injection hb with hb; omega)).setCell (by show w.heap.size ≤ w.heap.size; omega) _
set_option maxRecDepth 100000 in
set_option maxHeartbeats 3200000 in
theorem walk_FnValidTree (w : World) (hok : OkW w) (v : Value) (L : List UInt8) (hv : SlR w 0 w.heap.size 1 eB v L) :
    Calls Tryd.prog 4 #[v] w fun e w' => e = .returned (.bool true) ∧ Below w.heap.size w w' := by
  have hlen := hv.len_le
  have hv0 := hv
  obtain ⟨a, c, rfl, _, _⟩ := hv.form
  unfold maxLen at hlen
  by_cases hbig : L.length ≤ 1048576
  · have hd : decide ((1048576 : Int) < (L.length : Int)) = false := decide_eq_false (by omega)
    go_enter Tryd.func4, Tryd.ntmps4
    go_wp2_with fail
    refine (DrawValidTree_any _ L _ hv0 (Nat.le_refl _) hbig).mono ?_
    rintro e w1 ⟨u, M, rfl, r1, hml, hms, hb1⟩
    obtain ⟨a1, c1, rfl, hcc, hc2⟩ := r1.1.form
    have hok := hok.gr hb1
    have hst : ∀ s ∈ M, SmF s := fun s hs => smF_t (hms s hs)
    have hgT := gr_al w1 (.cells #[.slice a1 M.length c1] 29)
    have hzT := heap_alloc_new w1 (.cells #[.slice a1 M.length c1] 29)
    have h1 := fun W (h : Gr w1 W) => sValidTree_any _ M W (hok.gr h) (r1.below h (Nat.le_refl _)) h.size hst
    have h2 := fun W (h : Gr w1 W) => iValidTree_any _ M W (hok.gr h) (r1.below h (Nat.le_refl _)) h.size hst
    have hcT : ∀ W, Gr (w1.alloc (.cells #[.slice a1 M.length c1] 29)) W → W.cell? ⟨w1.heap.size, 0, none⟩ = some (.slice a1 M.length c1) := fun W h => (row1 ((h.block w1.heap.size (by simp)).trans hzT)).1
    obtain ⟨n, hn⟩ : ∃ n, n = M.length := ⟨_, rfl⟩
    have HN := Lib.hid hn
    have HCT := Lib.hid hcT
    have hc0 := hcT _ (Gr.rfl' _)
    have R1 := Lib.hid r1
    clear hcT hzT
    by_cases hb : okTree (M.map (·.1)) = true
    · simp only [hb] at h1 h2
      have h3 : ∀ W, Gr w1 W → ∀ j : Nat, j < M.length → Calls Tryd.prog 12 #[.agg #[.slice a1 M.length c1], .int .i64 j] W (DTb W true ((M.map (·.1)).take j ++ (M.map (·.1)).drop (j + 1))) := by
        intro W h j hj
        have := iRemoveFile_any (.slice a1 M.length c1) M (j : Int) W (hok.gr h) (R1.out.below h (Nat.le_refl _)) h.size (by omega) (fun r hr => by have := (hms r hr).1; omega) hst
        rw [hb, show (decide ((0 : Int) ≤ (j : Int)) && decide ((j : Int) ≤ (M.length : Int) - 1)) = true by simp; omega] at this
        exact this
      have h4 : ∀ vv (M' : List FR) W (j : Nat), Gr w1 W → FlR W 0 W.heap.size vv M' → M'.map (·.1) = (M.map (·.1)).take j ++ (M.map (·.1)).drop (j + 1) → Calls Tryd.prog 10 #[.agg #[vv]] W fun e w' => e = .returned (.bool true) ∧ Gr W w' := by
        intro vv M' W j h hf he
        have := iValidTree_any vv M' W (hok.gr h) hf (Nat.le_refl _) (smF_sub hms (by rw [he]; exact without_map j))
        rw [he, okTree_sub hb (sub_without' _ j)] at this
        exact this
      have hlen2 : ∀ (M' : List FR) (j : Nat), j < M.length → M'.map (·.1) = (M.map (·.1)).take j ++ (M.map (·.1)).drop (j + 1) → M'.length + 1 = M.length := fun M' j hj he => by
        have h5 := without_len (T := M.map (·.1)) (j := j) (by rw [List.length_map]; exact hj)
        rw [← he, List.length_map, List.length_map] at h5
        exact h5
      have H1 := Lib.hid h1
      have H2 := Lib.hid h2
      have H3 := Lib.hid h3
      have H4 := Lib.hid h4
      have HL2 := Lib.hid hlen2
      clear h1 h2 h3 h4 hlen2 hb hms hst r1
      go_wp2_with fail
      refine (H2.out _ hgT).mono ?_
      rintro e w2 ⟨rfl, hb2⟩
      have c2 := HCT.out _ hb2
      clear hc0
      go_wp2_with fail
      refine (H1.out _ (hgT.tr hb2)).mono ?_
      rintro e w3 ⟨rfl, hb3⟩
      have c3 := HCT.out _ (hb2.tr hb3)
      have hg3 := hb2.tr hb3
      clear c2
      go_wp2
      go_loopw [5] (fun i wr => ∃ k : Nat, k ≤ M.length ∧ i = .int .i64 k ∧ Gr (w1.alloc (.cells #[.slice a1 M.length c1] 29)) wr) (fun i _ => M.length - (intOf i).toNat)
      case atStart => exact ⟨0, Nat.zero_le _, rfl, hg3⟩
      case round =>
        obtain ⟨k, hk, rfl, hg4⟩ := hrel
        have d0 := HCT.out _ hg4
        by_cases hlt : k < M.length
        · go_wp2_with fail
          refine (H3.out _ (hgT.tr hg4) k hlt).mono ?_
          rintro e w5 ⟨u5, M5, rfl, hM5, ho5, hb5⟩
          obtain ⟨a5, c5, rfl, _, _⟩ := ho5.1.form
          simp only [if_true] at hM5
          have hgV := gr_al w5 (.cells #[.slice a5 M5.length c5] 29)
          have hzV := heap_alloc_new w5 (.cells #[.slice a5 M5.length c5] 29)
          have hg5 := (hg4.tr hb5).tr hgV
          have e0 := HCT.out _ hg5
          obtain ⟨x5, _⟩ := row1 hzV
          have hv5 := H4.out (.slice a5 M5.length c5) M5 (w5.alloc (.cells #[.slice a5 M5.length c5] 29)) k (hgT.tr hg5) (((ho5.gr hgV).flR2).mono' (Nat.zero_le _) (Nat.le_refl _)) hM5
          have hl5 := HL2.out M5 k hlt hM5
          have hne : ((M5.length : Int) != (M.length : Int) - 1) = false := by
            rw [bne_eq_false_iff_eq]; omega
          have hwr : IntKind.i64.wrap ((M.length : Int) - 1) = (M.length : Int) - 1 := IntWalk.i64_in _ (by omega)
          have HV5 := Lib.hid hv5
          have HZV := Lib.hid hzV
          have HL5 := Lib.hid hl5
          clear hv5 hzV hM5 d0 hl5
          go_wp2_with fail
          refine HV5.out.mono ?_
          rintro e w6 ⟨rfl, hb6⟩
          have e6 := HCT.out _ (hg5.tr hb6)
          obtain ⟨x6, _⟩ := row1 ((hb6.block w5.heap.size (by simp)).trans HZV.out)
          clear e0 x5
          go_wp2
          go_roundw
          case rel => exact ⟨k + 1, by omega, by go_num, hg5.tr hb6⟩
          case measure => simp [intOf]; omega
        · go_wp2
          go_ret
          exact ⟨rfl, (hb1.tr hgT).tr hg4⟩
    · have hb' := (Bool.not_eq_true _).mp hb
      simp only [hb'] at h1 h2
      have H1 := Lib.hid h1
      have H2 := Lib.hid h2
      clear h1 h2 hb hb' hms hst r1
      go_wp2_with fail
      refine (H2.out _ hgT).mono ?_
      rintro e w2 ⟨rfl, hb2⟩
      have c2 := HCT.out _ hb2
      clear hc0
      go_wp2_with fail
      refine (H1.out _ (hgT.tr hb2)).mono ?_
      rintro e w3 ⟨rfl, hb3⟩
      have c3 := HCT.out _ (hb2.tr hb3)
      clear c2
      go_wp2_with fail
      refine (H1.out _ ((hgT.tr hb2).tr hb3)).mono ?_
      rintro e w4 ⟨rfl, hb4⟩
      go_wp2
      go_ret
      exact ⟨rfl, (((hb1.tr hgT).tr hb2).tr hb3).tr hb4⟩
  · go_enter Tryd.func4, Tryd.ntmps4
    go_wp2
    go_ret
    exact ⟨rfl, Below.refl _ _⟩
end Go.Proofs.YthjegibkbpafeaaDoor
