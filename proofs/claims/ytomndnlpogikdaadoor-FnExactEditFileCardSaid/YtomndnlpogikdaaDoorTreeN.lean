/-
  Walks: marks read of trees. Printed by treem.py.
-/
import Derived.Test.YtomndnlpogikdaaDoorTreeM
namespace Go.Proofs.YtomndnlpogikdaaDoor
open Go Go.RowKit Imp
set_option linter.unusedVariables false
set_option linter.unusedSimpArgs false
set_option maxRecDepth 50000 in
set_option maxHeartbeats 3200000 in
theorem heldFileS_any {lo hi : Nat} (v : Value) (M : List FR) (ns : List Nat) (w : World) (k0 : Nat) (hv0 : FlR w lo hi v M) (hM : M.map (·.1) = marksF k0 ns) (hhi : hi ≤ w.heap.size) (h0 : 1 ≤ k0) (hk : kF k0 ns ≤ 42949670) :
    Calls Tryd.prog 53 #[v, .int .i64 k0] w fun e w' => e = .returned (.int .i64 ((kF k0 ns : Nat) : Int)) ∧ Gr w w' := by
  obtain ⟨hv, hbod⟩ := hv0
  obtain ⟨a, c, rfl, h1, h2, h3⟩ := hv
  unfold maxLen at h2
  have HB := Lib.hid hbod
  have hl : M.length = ns.length := by have := congrArg List.length hM; rw [List.length_map, marksF_length] at this; exact this
  have HM := Lib.hid hM
  have HL := Lib.hid hl
  clear hbod hM hl
  go_enter Tryd.func53, Tryd.ntmps53
  go_wp2
  go_loopw [1, 5] (fun kk i wr => ∃ j K : Nat, j ≤ M.length ∧ i = .int .i64 j ∧ kk = .int .i64 K ∧ K = kF k0 (ns.take j) ∧ Gr w wr) (fun _ i _ => M.length - (intOf i).toNat)
  case atStart => exact ⟨0, k0, Nat.zero_le _, rfl, rfl, by simp [kF], Gr.rfl' _⟩
  case round =>
    obtain ⟨j, K, hj, rfl, rfl, hK, hgr⟩ := hrel
    have HK := Lib.hid hK
    by_cases hlt : j < M.length
    · obtain ⟨b, o, rfl, hbb, hc⟩ := h3 j hlt
      have hjn : j < ns.length := by have := HL.out; omega
      have hkt := kF_take (ns := ns) (k := k0) (j := j) hjn
      have hkl := kF_take_le k0 ns (j + 1)
      have hkf := kF_le k0 (ns.take j)
      obtain ⟨n, hn⟩ : ∃ n, n = ns[j]'hjn := ⟨_, rfl⟩
      rw [← hn] at hkt
      have hx1 : M[j].1 = filK K n := by
        have e1 := marksF_get k0 ns j hjn
        rw [← HM.out, List.getElem?_map, List.getElem?_eq_getElem hlt, ← hn, ← hK] at e1
        injection e1
      obtain ⟨x, hx⟩ : ∃ x, x = M[j] := ⟨_, rfl⟩
      have hbx := HB.out _ (List.getElem_mem hlt)
      rw [← hx] at hbx hx1 hc
      obtain ⟨f, xv⟩ := x
      simp only at hx1
      subst hx1
      have hbx : SlR w lo hi 5 eSt xv (marksB (K + 5) n) := hbx
      obtain ⟨na, nc, hxv, _, _⟩ := hbx.form
      rw [marksB_length] at hxv
      subst hxv
      obtain ⟨K1, hK1⟩ : ∃ K1 : Nat, K1 = K + 1 := ⟨_, rfl⟩
      obtain ⟨K2, hK2⟩ : ∃ K2 : Nat, K2 = K + 2 := ⟨_, rfl⟩
      obtain ⟨K3, hK3⟩ : ∃ K3 : Nat, K3 = K + 3 := ⟨_, rfl⟩
      obtain ⟨K4, hK4⟩ : ∃ K4 : Nat, K4 = K + 4 := ⟨_, rfl⟩
      obtain ⟨K5, hK5⟩ : ∃ K5 : Nat, K5 = K + 5 := ⟨_, rfl⟩
      have hw1 : IntKind.i64.wrap ((K : Int) + 1) = (K1 : Int) := by rw [IntWalk.i64_in _ (by omega)]; omega
      have hw2 : IntKind.i64.wrap ((K1 : Int) + 1) = (K2 : Int) := by rw [IntWalk.i64_in _ (by omega)]; omega
      have hw3 : IntKind.i64.wrap ((K2 : Int) + 1) = (K3 : Int) := by rw [IntWalk.i64_in _ (by omega)]; omega
      have hw4 : IntKind.i64.wrap ((K3 : Int) + 1) = (K4 : Int) := by rw [IntWalk.i64_in _ (by omega)]; omega
      have hw5 : IntKind.i64.wrap ((K4 : Int) + 1) = (K5 : Int) := by rw [IntWalk.i64_in _ (by omega)]; omega
      have m1 := fun W => markText_any K1 W (by omega) (by omega)
      have m2 := fun W => markText_any K2 W (by omega) (by omega)
      rw [← hK5] at hbx
      have m3 := fun W (h : Gr w W) => heldStmtS_any (.slice na n nc) W K5 n (SlR.below hbx h hhi) (Nat.le_trans hhi h.size) (by omega) (by omega)
      obtain ⟨KN, hKN⟩ : ∃ KN : Nat, KN = K5 + 5 * n := ⟨_, rfl⟩
      have hKn : KN = kF k0 (ns.take (j + 1)) := by rw [hkt, ← hK, hKN]; omega
      have hKp : ¬ (KN : Int) < 0 := by omega
      rw [← hKN] at m3
      obtain ⟨I3, hI3⟩ : ∃ I3, ((K3 : Int) % 3 == 0) = I3 := ⟨_, rfl⟩
      have hend : filK K n = (⟨(K : Int), mText K1, mText K2, I3, (K4 : Int), marksB K5 n⟩ : Fil) := by
        unfold filK; rw [← hI3, hK1, hK2, hK3, hK4, hK5]
      rw [hend] at hc
      generalize mText K1 = T1 at m1 hc hend
      generalize mText K2 = T2 at m2 hc hend
      have hall : ∀ W, Gr w W → Gr w W ∧ (W.cell? ⟨b, o + j * 6, none⟩ = some (.int .i64 (K : Int)) ∧ W.cell? ⟨b, o + j * 6 + 1, none⟩ = some (.string T1) ∧ W.cell? ⟨b, o + j * 6 + 2, none⟩ = some (.string T2) ∧ W.cell? ⟨b, o + j * 6 + 3, none⟩ = some (.bool I3) ∧ W.cell? ⟨b, o + j * 6 + 4, none⟩ = some (.int .i64 (K4 : Int)) ∧ W.cell? ⟨b, o + j * 6 + 5, none⟩ = some (.slice na n nc)) := fun W h => by
        have cc := cells_fil (w := W) (b := b) (o := o) (k := j) (x := ((⟨(K : Int), T1, T2, I3, (K4 : Int), marksB K5 n⟩ : Fil), (.slice na n nc : Value))) (fun q u hu => (h.cell (p := ⟨b, o + j * 6 + q, none⟩) (Nat.lt_of_lt_of_le hbb.2 hhi)).trans (hc q u hu))
        exact ⟨h, cc⟩
      have q0 : (T1.toList != T1.toList) = false := by simp
      have q1 : (T2.toList != T2.toList) = false := by simp
      have q2 : ((K : Int) != (K : Int)) = false := by simp
      have q3 : (I3 != I3) = false := by simp
      have q4 : ((K4 : Int) != (K4 : Int)) = false := by simp
      have HALL := Lib.hid hall
      have HKN := Lib.hid hKn
      have M1 := Lib.hid m1
      have M2 := Lib.hid m2
      have M3 := Lib.hid m3
      obtain ⟨c0, c1, c2, c3, c4, c5⟩ := (hall _ hgr).2
      clear hK1 hK2 hK3 hK4 hK5 hKN hKn hend hc m1 m2 m3 hK hall h3 hkt hkl hkf hx hn hbx hjn
      go_wp2
      refine wp_region_held_drew (S := (fun W => Gr w W ∧ (W.cell? ⟨b, o + j * 6, none⟩ = some (.int .i64 (K : Int)) ∧ W.cell? ⟨b, o + j * 6 + 1, none⟩ = some (.string T1) ∧ W.cell? ⟨b, o + j * 6 + 2, none⟩ = some (.string T2) ∧ W.cell? ⟨b, o + j * 6 + 3, none⟩ = some (.bool I3) ∧ W.cell? ⟨b, o + j * 6 + 4, none⟩ = some (.int .i64 (K4 : Int)) ∧ W.cell? ⟨b, o + j * 6 + 5, none⟩ = some (.slice na n nc)))) (by kernel_rfl) (HALL.out _ (below_drewN hgr 1)) (fun hS0 => ?_)
      refine wpAnyH_take (i := 0) (v := ?_) rfl (by kernel_rfl) (by kernel_rfl) (by kernel_rfl) (fun _ _ _ h => h) (Or.inl ⟨by rfl, ?_⟩) hS0 ?_
      rotate_left
      · (intro W hSw; (try dsimp only at hSw); go_simp; try (with_reducible rfl))
      try simp only [Act.put, List.getElem_toArray, List.getElem_cons_succ, List.getElem_cons_zero, List.setIfInBounds_toArray, List.set_cons_zero, List.set_cons_succ]
      refine wpAnyH_take (i := 1) (v := ?_) rfl (by kernel_rfl) (by kernel_rfl) (by kernel_rfl) (fun _ _ _ h => h) (Or.inl ⟨by rfl, ?_⟩) hS0 ?_
      rotate_left
      · (intro W hSw; (try dsimp only at hSw); go_simp; try (with_reducible rfl))
      try simp only [Act.put, List.getElem_toArray, List.getElem_cons_succ, List.getElem_cons_zero, List.setIfInBounds_toArray, List.set_cons_zero, List.set_cons_succ]
      refine wpAnyH_take (i := 2) (v := ?_) rfl (by kernel_rfl) (by kernel_rfl) (by kernel_rfl) (fun _ _ _ h => h) (Or.inl ⟨by rfl, ?_⟩) hS0 ?_
      rotate_left
      · (intro W hSw; (try dsimp only at hSw); go_simp; try (with_reducible rfl))
      try simp only [Act.put, List.getElem_toArray, List.getElem_cons_succ, List.getElem_cons_zero, List.setIfInBounds_toArray, List.set_cons_zero, List.set_cons_succ]
      refine wpAnyH_take (i := 3) (v := ?_) rfl (by kernel_rfl) (by kernel_rfl) (by kernel_rfl) (fun _ _ _ h => h) (Or.inl ⟨by rfl, ?_⟩) hS0 ?_
      rotate_left
      · (intro W hSw; (try dsimp only at hSw); go_simp; try (with_reducible rfl))
      try simp only [Act.put, List.getElem_toArray, List.getElem_cons_succ, List.getElem_cons_zero, List.setIfInBounds_toArray, List.set_cons_zero, List.set_cons_succ]
      refine wpAnyH_take (i := 4) (v := ?_) rfl (by kernel_rfl) (by kernel_rfl) (by kernel_rfl) (fun _ _ _ h => h) (Or.inl ⟨by rfl, ?_⟩) hS0 ?_
      rotate_left
      · (intro W hSw; (try dsimp only at hSw); go_simp; try (with_reducible rfl))
      try simp only [Act.put, List.getElem_toArray, List.getElem_cons_succ, List.getElem_cons_zero, List.setIfInBounds_toArray, List.set_cons_zero, List.set_cons_succ]
      refine wpAnyH_take (i := 5) (v := ?_) rfl (by kernel_rfl) (by kernel_rfl) (by kernel_rfl) (fun _ _ _ h => h) (Or.inl ⟨by rfl, ?_⟩) hS0 ?_
      rotate_left
      · (intro W hSw; (try dsimp only at hSw); go_simp; try (with_reducible rfl))
      try simp only [Act.put, List.getElem_toArray, List.getElem_cons_succ, List.getElem_cons_zero, List.setIfInBounds_toArray, List.set_cons_zero, List.set_cons_succ]
      refine wpAnyH_ready (rs := [6]) (by kernel_rfl) (by simp) ?_
      refine AllReadyH.cons rfl (fun K hK => ?_) AllReadyH.nil
      go_simp
      refine (M1.out _).mono ?_
      rintro e w5 ⟨rfl, hb5⟩
      try go_wp2_with fail
      refine hK.out _ _ (HALL.out _ (hS0.1.tr hb5)) (fun hS1 => ?_)
      clear hK K
      try simp only [Act.put, List.getElem_toArray, List.getElem_cons_succ, List.getElem_cons_zero, List.setIfInBounds_toArray, List.set_cons_zero, List.set_cons_succ]
      refine wpAnyH_take (i := 7) (v := ?_) rfl (by kernel_rfl) (by kernel_rfl) (by kernel_rfl) (fun _ _ _ h => h) (Or.inl ⟨by rfl, ?_⟩) hS1 ?_
      rotate_left
      · (intro W hSw; (try dsimp only at hSw); go_simp; try (with_reducible rfl))
      try simp only [Act.put, List.getElem_toArray, List.getElem_cons_succ, List.getElem_cons_zero, List.setIfInBounds_toArray, List.set_cons_zero, List.set_cons_succ]
      refine wpAnyH_done (by kernel_rfl) ?_ _
      obtain ⟨d0, d1, d2, d3, d4, d5⟩ := hS1.2
      go_wp2
      refine wp_region_held_drew (S := (fun W => Gr w W ∧ (W.cell? ⟨b, o + j * 6, none⟩ = some (.int .i64 (K : Int)) ∧ W.cell? ⟨b, o + j * 6 + 1, none⟩ = some (.string T1) ∧ W.cell? ⟨b, o + j * 6 + 2, none⟩ = some (.string T2) ∧ W.cell? ⟨b, o + j * 6 + 3, none⟩ = some (.bool I3) ∧ W.cell? ⟨b, o + j * 6 + 4, none⟩ = some (.int .i64 (K4 : Int)) ∧ W.cell? ⟨b, o + j * 6 + 5, none⟩ = some (.slice na n nc)))) (by kernel_rfl) (HALL.out _ (below_drewN hS1.1 1)) (fun hS2 => ?_)
      refine wpAnyH_take (i := 0) (v := ?_) rfl (by kernel_rfl) (by kernel_rfl) (by kernel_rfl) (fun _ _ _ h => h) (Or.inl ⟨by rfl, ?_⟩) hS2 ?_
      rotate_left
      · (intro W hSw; (try dsimp only at hSw); go_simp; try (with_reducible rfl))
      try simp only [Act.put, List.getElem_toArray, List.getElem_cons_succ, List.getElem_cons_zero, List.setIfInBounds_toArray, List.set_cons_zero, List.set_cons_succ]
      refine wpAnyH_take (i := 1) (v := ?_) rfl (by kernel_rfl) (by kernel_rfl) (by kernel_rfl) (fun _ _ _ h => h) (Or.inl ⟨by rfl, ?_⟩) hS2 ?_
      rotate_left
      · (intro W hSw; (try dsimp only at hSw); go_simp; try (with_reducible rfl))
      try simp only [Act.put, List.getElem_toArray, List.getElem_cons_succ, List.getElem_cons_zero, List.setIfInBounds_toArray, List.set_cons_zero, List.set_cons_succ]
      refine wpAnyH_take (i := 2) (v := ?_) rfl (by kernel_rfl) (by kernel_rfl) (by kernel_rfl) (fun _ _ _ h => h) (Or.inl ⟨by rfl, ?_⟩) hS2 ?_
      rotate_left
      · (intro W hSw; (try dsimp only at hSw); go_simp; try (with_reducible rfl))
      try simp only [Act.put, List.getElem_toArray, List.getElem_cons_succ, List.getElem_cons_zero, List.setIfInBounds_toArray, List.set_cons_zero, List.set_cons_succ]
      refine wpAnyH_take (i := 3) (v := ?_) rfl (by kernel_rfl) (by kernel_rfl) (by kernel_rfl) (fun _ _ _ h => h) (Or.inl ⟨by rfl, ?_⟩) hS2 ?_
      rotate_left
      · (intro W hSw; (try dsimp only at hSw); go_simp; try (with_reducible rfl))
      try simp only [Act.put, List.getElem_toArray, List.getElem_cons_succ, List.getElem_cons_zero, List.setIfInBounds_toArray, List.set_cons_zero, List.set_cons_succ]
      refine wpAnyH_take (i := 4) (v := ?_) rfl (by kernel_rfl) (by kernel_rfl) (by kernel_rfl) (fun _ _ _ h => h) (Or.inl ⟨by rfl, ?_⟩) hS2 ?_
      rotate_left
      · (intro W hSw; (try dsimp only at hSw); go_simp; try (with_reducible rfl))
      try simp only [Act.put, List.getElem_toArray, List.getElem_cons_succ, List.getElem_cons_zero, List.setIfInBounds_toArray, List.set_cons_zero, List.set_cons_succ]
      refine wpAnyH_take (i := 5) (v := ?_) rfl (by kernel_rfl) (by kernel_rfl) (by kernel_rfl) (fun _ _ _ h => h) (Or.inl ⟨by rfl, ?_⟩) hS2 ?_
      rotate_left
      · (intro W hSw; (try dsimp only at hSw); go_simp; try (with_reducible rfl))
      try simp only [Act.put, List.getElem_toArray, List.getElem_cons_succ, List.getElem_cons_zero, List.setIfInBounds_toArray, List.set_cons_zero, List.set_cons_succ]
      refine wpAnyH_ready (rs := [6]) (by kernel_rfl) (by simp) ?_
      refine AllReadyH.cons rfl (fun K hK => ?_) AllReadyH.nil
      go_simp
      refine (M2.out _).mono ?_
      rintro e w6 ⟨rfl, hb6⟩
      try go_wp2_with fail
      refine hK.out _ _ (HALL.out _ (hS2.1.tr hb6)) (fun hS3 => ?_)
      clear hK K
      try simp only [Act.put, List.getElem_toArray, List.getElem_cons_succ, List.getElem_cons_zero, List.setIfInBounds_toArray, List.set_cons_zero, List.set_cons_succ]
      refine wpAnyH_take (i := 7) (v := ?_) rfl (by kernel_rfl) (by kernel_rfl) (by kernel_rfl) (fun _ _ _ h => h) (Or.inl ⟨by rfl, ?_⟩) hS3 ?_
      rotate_left
      · (intro W hSw; (try dsimp only at hSw); go_simp; try (with_reducible rfl))
      try simp only [Act.put, List.getElem_toArray, List.getElem_cons_succ, List.getElem_cons_zero, List.setIfInBounds_toArray, List.set_cons_zero, List.set_cons_succ]
      refine wpAnyH_done (by kernel_rfl) ?_ _
      obtain ⟨g0, g1, g2, g3, g4, g5⟩ := hS3.2
      go_wp2_with fail
      refine (M3.out _ hS3.1).mono ?_
      rintro e w7 ⟨rfl, hb7⟩
      go_wp2
      go_roundw
      case rel => exact ⟨j + 1, KN, by omega, by go_num, rfl, HKN.out, hS3.1.tr hb7⟩
      case measure => simp [intOf]; omega
    · have hjl : j = M.length := by omega
      subst hjl
      have hKe := HK.out
      rw [HL.out, List.take_length] at hKe
      clear HK hK
      subst hKe
      go_wp2
      go_ret
      exact ⟨rfl, hgr⟩
theorem heldTree_any {lo hi : Nat} (v : Value) (M : List FR) (ns : List Nat) (w : World) (k0 : Nat) (hv : FlR w lo hi v M) (hM : M.map (·.1) = marksF k0 ns) (hhi : hi ≤ w.heap.size) (h0 : 1 ≤ k0) (hk : kF k0 ns ≤ 42949670) :
    Calls Tryd.prog 20 #[.agg #[v], .int .i64 k0] w fun e w' => e = .returned (.int .i64 ((kF k0 ns : Nat) : Int)) ∧ Gr w w' := by
  have h := fun o => heldFileS_any v M ns (w.alloc o) k0 (hv.below (gr_al w o) hhi) hM (by simp; omega) h0 hk
  generalize kF k0 ns = R at h ⊢
  have H := Lib.hid h
  obtain ⟨ua, uc, rfl, _, _⟩ := hv.1.form
  have hR : ¬ (R : Int) < 0 := by omega
  clear h hv hM hk
  go_enter Tryd.func20, Tryd.ntmps20
  go_wp2_with fail
  refine (H.out _).mono ?_
  rintro e w2 ⟨rfl, hb2⟩
  go_wp2
  go_ret
  exact ⟨rfl, (gr_al w _).tr hb2⟩
end Go.Proofs.YtomndnlpogikdaaDoor
