/-
  Walks of the laws on bodies, their sizes and hashes.
-/
import Derived.Test.YtajbamcfkgkhpaaDoorLawsL
namespace Go.Proofs.YtajbamcfkgkhpaaDoor
open Go Go.RowKit Imp
set_option linter.unusedVariables false

theorem walk_FnHashOf (w : World) (hok : OkW w) (v : Value) (L : List UInt8) (hv : SlR w 0 w.heap.size 1 eB v L) :
    Calls Tryd.prog 14 #[v] w fun e w' => e = .returned (.bool true) ∧ Below w.heap.size w w' := by
  have hlen := hv.len_le
  have hv0 := hv
  obtain ⟨a, c, rfl, _, _⟩ := hv.form
  unfold maxLen at hlen
  by_cases hbig : L.length ≤ 1048576
  · have hd : decide ((1048576 : Int) < (L.length : Int)) = false := decide_eq_false (by omega)
    go_enter Tryd.func14, Tryd.ntmps14
    go_wp2_with fail
    refine (DrawHashOf_any _ L _ hv0 (Nat.le_refl _) hbig).mono ?_
    rintro e w1 ⟨u, M, rfl, r1, hml, hms, hb1⟩
    have hok := hok.gr hb1
    have hgr := hb1
    have hst : ∀ s ∈ M, szSt s ≤ 16777216 := fun s hs => by obtain ⟨h1, h2⟩ := hms s hs; unfold szSt; omega
    obtain ⟨a1, c1, rfl, hcc, hc2⟩ := r1.form
    have h1 := fun W (h : Gr w1 W) k => sHashOf_any _ M W (r1.below h (Nat.le_refl _)) h.size hst k
    have h2 := fun W (h : Gr w1 W) k => iHashOf_any _ M W (r1.below h (Nat.le_refl _)) h.size hst k
    have h3 := fun lo hi vv W h h' k => iHashOf_any (lo := lo) (hi := hi) vv M W h h' hst k
    have h4 := fun W k => iHashOf_any (.slice none 0 0) [] W (SlR.nil 0 W.heap.size 0 (by decide) none) (Nat.le_refl _) (by simp) k
    have hg1 := Gr.rfl' w1
    by_cases hb : okBody M = true
    · obtain ⟨hH1, hH2⟩ := fHash_ok hb
      have hnil : fHash [] = 1 := by rfl
      rw [hnil] at h4
      generalize fHash M = H at h1 h2 h3 hH1 hH2
      have hlt : ¬ H < 0 := by omega
      have R1 := Lib.hid r1
      have H3 := Lib.hid h3
      clear hnil hb r1 h3
      go_wp2_with fail
      refine (h2 _ hg1 hok).mono ?_
      rintro e w2 ⟨rfl, hb2⟩
      have hok := hok.gr hb2
      have hgr := hgr.tr hb2
      have hg1 := hg1.tr hb2
      go_wp2_with fail
      refine (h1 _ hg1 hok).mono ?_
      rintro e w3 ⟨rfl, hb3⟩
      have hok := hok.gr hb3
      have hgr := hgr.tr hb3
      have hg1 := hg1.tr hb3
      go_wp2_with (at_builtin
                   refine wpList_appG _ rfl (.tmp 27) (.tmp 28) ti_stmS rfl (show _ = Value.slice (some ⟨w3.heap.size, 0, none⟩) 0 0 from rfl) (Own.empty w3 w3.heap.size 67 5 eSt (Nat.le_refl _)) rfl ((R1.out.below hg1 (Nat.le_refl _)).keep (Same.alloc w3 _ hg1.size)) (fun _ _ => rfl) (by simp [eSt, Value.oneCell']) (by unfold maxLen; simp; omega) (by simp; omega) (by simp) ?_
                   intro v4 w4 hown4 hg4 hat4)
      have hb4 : Gr w3 w4 := (gr_al w3 _).grown hg4 (by simp) (by simp [Value.ownBlock])
      have hok := hok.gr hb4
      have hgr := hgr.tr hb4
      go_wp2_with fail
      refine (H3.out _ _ _ _ (hown4.reads (fun _ _ => rfl)) (Nat.le_refl _) hok).mono ?_
      rintro e w5 ⟨rfl, hb5⟩
      have hok := hok.gr hb5
      have hgr := hgr.tr hb5
      go_wp2_with fail
      refine (h4 _ hok).mono ?_
      rintro e w6 ⟨rfl, hb6⟩
      have hok := hok.gr hb6
      have hgr := hgr.tr hb6
      go_wp2
      go_ret
      exact ⟨rfl, hgr⟩
    · rw [fHash_bad ((Bool.not_eq_true _).mp hb)] at h1 h2
      clear hb
      go_wp2_with fail
      refine (h2 _ hg1 hok).mono ?_
      rintro e w2 ⟨rfl, hb2⟩
      have hok := hok.gr hb2
      have hgr := hgr.tr hb2
      have hg1 := hg1.tr hb2
      go_wp2_with fail
      refine (h1 _ hg1 hok).mono ?_
      rintro e w3 ⟨rfl, hb3⟩
      have hok := hok.gr hb3
      have hgr := hgr.tr hb3
      have hg1 := hg1.tr hb3
      go_wp2_with fail
      refine (h1 _ hg1 hok).mono ?_
      rintro e w4 ⟨rfl, hb4⟩
      have hok := hok.gr hb4
      have hgr := hgr.tr hb4
      go_wp2
      go_ret
      exact ⟨rfl, hgr⟩
  · go_enter Tryd.func14, Tryd.ntmps14
    go_wp2
    go_ret
    exact ⟨rfl, Below.refl _ _⟩
set_option maxHeartbeats 1600000 in
set_option maxRecDepth 100000 in
theorem walk_FnValidBody (w : World) (hok : OkW w) (v : Value) (L : List UInt8) (hv : SlR w 0 w.heap.size 1 eB v L) :
    Calls Tryd.prog 9 #[v] w fun e w' => e = .returned (.bool true) ∧ Below w.heap.size w w' := by
  have hlen := hv.len_le
  have hv0 := hv
  obtain ⟨a, c, rfl, _, _⟩ := hv.form
  unfold maxLen at hlen
  by_cases hbig : L.length ≤ 1048576
  · have hd : decide ((1048576 : Int) < (L.length : Int)) = false := decide_eq_false (by omega)
    go_enter Tryd.func9, Tryd.ntmps9
    go_wp2_with fail
    refine (DrawValidBody_any _ L _ hv0 (Nat.le_refl _) hbig).mono ?_
    rintro e w1 ⟨u, M, rfl, r1, hml, hms, hb1⟩
    have hok := hok.gr hb1
    have hgr := hb1
    have hst : ∀ s ∈ M, szSt s ≤ 16777216 := fun s hs => by obtain ⟨h1, h2⟩ := hms s hs; unfold szSt; omega
    obtain ⟨a1, c1, rfl, hcc, hc2⟩ := r1.form
    have h1 := fun W (h : Gr w1 W) k => sValidBody_any _ M W (r1.below h (Nat.le_refl _)) h.size hst k
    have h2 := fun W (h : Gr w1 W) k => iValidBody_any _ M W (r1.below h (Nat.le_refl _)) h.size hst k
    have h4 := fun W (h : Gr w1 W) k => iHashOf_any _ M W (r1.below h (Nat.le_refl _)) h.size hst k
    have hg1 := Gr.rfl' w1
    by_cases hb : okBody M = true
    · rw [hb] at h1 h2
      have h3 := fun lo hi vv i W h h' k => iValidBody_any (lo := lo) (hi := hi) vv (M.take i ++ M.drop (i + 1)) W h h' (fun s hs => hst s ((sub_without M i).subset hs)) k
      obtain ⟨hH1, hH2⟩ := fHash_ok hb
      have hw : ∀ i, okBody (M.take i ++ M.drop (i + 1)) = true := okBody_without hb
      simp only [hw] at h3
      generalize fHash M = H at h4 hH1
      have R1 := Lib.hid r1
      have H3 := Lib.hid h3
      have H4 := Lib.hid h4
      clear hb r1 h3 h4 hw hst
      go_wp2_with fail
      refine (h2 _ hg1 hok).mono ?_
      rintro e w2 ⟨rfl, hb2⟩
      have hok := hok.gr hb2
      have hgr := hgr.tr hb2
      have hg1 := hg1.tr hb2
      go_wp2_with fail
      refine (h1 _ hg1 hok).mono ?_
      rintro e w3 ⟨rfl, hb3⟩
      have hok := hok.gr hb3
      have hgr := hgr.tr hb3
      have hg1 := hg1.tr hb3
      go_wp2
      go_loopw [5] (fun i wr => ∃ k : Nat, k ≤ M.length ∧ i = .int .i64 k ∧ Gr w1 wr ∧ OkW wr) (fun i _ => M.length - (intOf i).toNat)
      case atStart => exact ⟨0, Nat.zero_le _, rfl, hg1, hok⟩
      case round =>
        obtain ⟨k, hk, rfl, hg4, hok4⟩ := hrel
        have hMr := R1.out.below hg4 (Nat.le_refl _)
        have hws := hg4.size
        by_cases hlt : k < M.length
        · have s1 := hMr.take k (by omega)
          have s2 := hMr.drop (k + 1) (by omega)
          have hkc : k ≤ c1 := by omega
          have hwr : IntKind.i64.wrap ((k : Int) + 1) = (k : Int) + 1 := IntWalk.i64_in _ (by omega)
          have hn1 : ((k : Int) + 1).toNat = k + 1 := by omega
          have hk1 : k + 1 ≤ M.length := by omega
          have hk0 : 0 ≤ (k : Int) + 1 := by omega
          have hk2 : (k : Int) + 1 ≤ (M.length : Int) := by omega
          obtain ⟨A2, hA2⟩ : ∃ A2, (if c1 = k + 1 then a1 else Option.map (fun x => x.add ((k + 1) * 5)) a1) = A2 := ⟨_, rfl⟩
          rw [hA2] at s2
          go_wp2
          go_region_law (first
            | (refine step_app _ rfl (.tmp 35) (.tmp 39) ti_stmS rfl (by simp [Act.eval]) hown5 (by simp [Act.eval]) s2' (fun _ _ => rfl) (by simp [eSt, Value.oneCell']) (by unfold maxLen; simp; omega) (by simp; omega) hbz ?_
               intro v6 w6 hown6 hg6 hat6
               have hb6 : Gr wr w6 := hbw.grown hg6 hbz (fun b hb => (hown5.block b hb).1))
            | (go_simp
               go_at_call 41
               refine (H3.out _ _ _ k _ (hown6.reads (fun _ _ => rfl)) (Nat.le_refl _) (hok4.gr hb6)).mono ?_
               rintro e w7 ⟨rfl, hb7⟩)
            | (refine step_app _ rfl (.tmp 31) (.tmp 34) ti_stmS rfl (by simp [Act.eval]) (Own.empty wr wr.heap.size 67 5 eSt (Nat.le_refl _)) (by simp [Act.eval]) (s1.keep (Same.alloc wr _ hws)) (fun _ _ => rfl) (by simp [eSt, Value.oneCell']) (by unfold maxLen; simp; omega) (by simp; omega) (by simp) ?_
               intro v5 w5 hown5 hg5 hat5
               have hbw : Below wr.heap.size wr w5 := (((Below.refl _ wr).alloc (Nat.le_refl _) _).drew).grown hg5 (by simp) (by simp [Value.ownBlock])
               have s2' := s2.below hbw hws
               have hbz := hbw.size))
          all_goals go_wp2
          all_goals go_roundw
          all_goals first
            | exact ⟨k + 1, by omega, by go_num, (hg4.tr hb6).tr hb7, (hok4.gr hb6).gr hb7⟩
            | (simp [intOf]; omega)
        · go_wp2_with fail
          refine (H4.out _ hg4 hok4).mono ?_
          rintro e w5 ⟨rfl, hb5⟩
          go_wp2
          go_ret
          exact ⟨ret_bool (by simp), (hb1.tr hg4).tr hb5⟩
    · rw [(Bool.not_eq_true _).mp hb] at h1 h2
      clear hb
      go_wp2_with fail
      refine (h2 _ hg1 hok).mono ?_
      rintro e w2 ⟨rfl, hb2⟩
      have hok := hok.gr hb2
      have hgr := hgr.tr hb2
      have hg1 := hg1.tr hb2
      go_wp2_with fail
      refine (h1 _ hg1 hok).mono ?_
      rintro e w3 ⟨rfl, hb3⟩
      have hok := hok.gr hb3
      have hgr := hgr.tr hb3
      have hg1 := hg1.tr hb3
      go_wp2_with fail
      refine (h1 _ hg1 hok).mono ?_
      rintro e w4 ⟨rfl, hb4⟩
      have hok := hok.gr hb4
      have hgr := hgr.tr hb4
      go_wp2
      go_ret
      exact ⟨rfl, hgr⟩
  · go_enter Tryd.func9, Tryd.ntmps9
    go_wp2
    go_ret
    exact ⟨rfl, Below.refl _ _⟩
end Go.Proofs.YtajbamcfkgkhpaaDoor
