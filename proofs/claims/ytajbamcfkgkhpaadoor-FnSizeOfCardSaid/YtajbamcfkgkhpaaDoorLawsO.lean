/-
  Walk of the law on sizes of bodies.
-/
import Derived.Test.YtajbamcfkgkhpaaDoorLawsL
namespace Go.Proofs.YtajbamcfkgkhpaaDoor
open Go Go.RowKit Imp
set_option linter.unusedVariables false

set_option maxHeartbeats 12800000 in
set_option maxRecDepth 100000 in
theorem walk_FnSizeOf (w : World) (hok : OkW w) (v : Value) (L : List UInt8) (hv : SlR w 0 w.heap.size 1 eB v L) :
    Calls Tryd.prog 8 #[v] w fun e w' => e = .returned (.bool true) ∧ Below w.heap.size w w' := by
  have hlen := hv.len_le
  have hv0 := hv
  obtain ⟨a, c, rfl, _, _⟩ := hv.form
  unfold maxLen at hlen
  by_cases hbig : L.length ≤ 1048576
  · have hd : decide ((1048576 : Int) < (L.length : Int)) = false := decide_eq_false (by omega)
    go_enter Tryd.func8, Tryd.ntmps8
    go_wp2_with fail
    refine (DrawSizeOf_any _ L _ hv0 (Nat.le_refl _) hbig).mono ?_
    rintro e w1 ⟨u, M, rfl, r1, hml, hms, hb1⟩
    have hok := hok.gr hb1
    have hgr := hb1
    have htot := totB_five hms
    obtain ⟨a1, c1, rfl, hcc, hc2⟩ := r1.form
    have h1 := fun W (h : Gr w1 W) k => sSizeOf_any _ M W (r1.below h (Nat.le_refl _)) h.size (by omega) (by omega) k
    have h2 := fun W (h : Gr w1 W) k => iSizeOf_any _ M W (r1.below h (Nat.le_refl _)) h.size (by omega) (by omega) k
    have hg1 := Gr.rfl' w1
    by_cases hb : okBody M = true
    · obtain ⟨K, hK⟩ : ∃ K, K = M.length / 2 := ⟨_, rfl⟩
      have hKl : K ≤ M.length := by omega
      have t1 := fSize_ok (okBody_sub hb (List.take_sublist K M))
      have t2 := fSize_ok (okBody_sub hb (List.drop_sublist K M))
      have t0 := fSize_ok hb
      have htt : totB M = totB (M.take K) + totB (M.drop K) := by rw [← totB_append, List.take_append_drop]
      have hA := fun lo hi vv W h h' k => iSizeOf_any (lo := lo) (hi := hi) vv (M.take K) W h h' (by rw [List.length_take]; omega) (by omega) k
      have hB := fun lo hi vv W h h' k => iSizeOf_any (lo := lo) (hi := hi) vv (M.drop K) W h h' (by rw [List.length_drop]; omega) (by omega) k
      rw [List.length_take] at t1
      rw [List.length_drop] at t2
      have hsum : fSize (M.take K) + fSize (M.drop K) = fSize M := by rw [t0, t1, t2]; omega
      have hge : 3 * (M.length : Int) ≤ fSize M := by rw [t0]; omega
      have hle : fSize M ≤ 1000 := by rw [t0]; omega
      generalize fSize (M.take K) = A at hA hsum
      generalize fSize (M.drop K) = B at hB hsum
      generalize fSize M = N at h1 h2 hsum hge hle
      have hlt : ¬ N < 0 := by omega
      have hw1 : IntKind.i64.wrap (A + B) = N := by rw [hsum]; exact IntWalk.i64_in _ (by omega)
      have hw2 : IntKind.i64.wrap (3 * (M.length : Int)) = 3 * (M.length : Int) := IntWalk.i64_in _ (by omega)
      have hk1 : (M.length : Int) / 2 = (K : Int) := by omega
      have hk2 : IntKind.i64.wrap (K : Int) = (K : Int) := IntWalk.i64_in _ (by omega)
      have hk3 : (K : Int) ≤ (M.length : Int) := by omega
      have hk4 : K ≤ c1 := by omega
      have R1 := Lib.hid r1
      have HA := Lib.hid hA
      have HB := Lib.hid hB
      clear t0 t1 t2 htt hA hB hb r1 hsum hK
      go_wp2_with fail
      refine (h2 _ hg1 hok).mono ?_
      rintro e w2 ⟨rfl, hb2⟩
      have hok := hok.gr hb2
      have hgr := hgr.tr hb2
      have hg1 := hg1.tr hb2
      go_wp2_with fail
      refine (h1 _ hg1 hok).mono ?_
      rintro e w3 ⟨rfl, hb3⟩
      have hok := hok.gr hb3
      have hgr := hgr.tr hb3
      have hg1 := hg1.tr hb3
      go_wp2
      go_region_law (go_simp
                     go_at_call 23
                     first
                     | (refine (HB.out _ _ _ _ ((R1.out.below hg4 (Nat.le_refl _)).drop K hKl) hg4.size hok4).mono ?_
                        rintro e w5 ⟨rfl, hb5⟩
                        have hg5 := hg4.tr hb5)
                     | (refine (HA.out _ _ _ _ ((R1.out.below hg1 (Nat.le_refl _)).take K hKl |>.drewN _) hg1.size (hok.drewN _)).mono ?_
                        rintro e w4 ⟨rfl, hb4⟩
                        have hg4 := below_drewN' hg1 hb4
                        have hok4 := (hok.drewN 1).gr hb4))
      all_goals go_wp2
      all_goals go_ret
      all_goals exact ⟨rfl, hb1.tr hg5⟩
    · rw [fSize_bad ((Bool.not_eq_true _).mp hb)] at h1 h2
      clear hb
      go_wp2_with fail
      refine (h2 _ hg1 hok).mono ?_
      rintro e w2 ⟨rfl, hb2⟩
      have hok := hok.gr hb2
      have hgr := hgr.tr hb2
      have hg1 := hg1.tr hb2
      go_wp2_with fail
      refine (h1 _ hg1 hok).mono ?_
      rintro e w3 ⟨rfl, hb3⟩
      have hok := hok.gr hb3
      have hgr := hgr.tr hb3
      have hg1 := hg1.tr hb3
      go_wp2_with fail
      refine (h1 _ hg1 hok).mono ?_
      rintro e w4 ⟨rfl, hb4⟩
      have hok := hok.gr hb4
      have hgr := hgr.tr hb4
      go_wp2
      go_ret
      exact ⟨rfl, hgr⟩
  · go_enter Tryd.func8, Tryd.ntmps8
    go_wp2
    go_ret
    exact ⟨rfl, Below.refl _ _⟩
end Go.Proofs.YtajbamcfkgkhpaaDoor
