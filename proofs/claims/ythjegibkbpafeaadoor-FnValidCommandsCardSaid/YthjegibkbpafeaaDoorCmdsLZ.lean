/-
  Walk of the law on commands: any one can be left out.
-/
import Derived.Test.YthjegibkbpafeaaDoorDrawNZ
import Derived.Test.YthjegibkbpafeaaDoorLawsLZ
namespace Imp
open Go Go.RowKit
theorem okCmds_without {L : List Cmd} (h : okCmds L = true) (k : Nat) : okCmds (L.take k ++ L.drop (k + 1)) = true := by
  unfold okCmds at h ⊢
  rw [Bool.and_eq_true] at h ⊢
  obtain ⟨h1, h2⟩ := h
  have hs := sub_without L k
  refine ⟨List.all_eq_true.mpr (fun x hx => List.all_eq_true.mp h1 x (hs.subset hx)), ?_⟩
  have := hs.length_le
  have := of_decide_eq_true h2
  exact decide_eq_true (by omega)
end Imp
namespace Go.Proofs.YthjegibkbpafeaaDoor
open Go Go.RowKit Imp
set_option linter.unusedVariables false
set_option linter.unusedSimpArgs false
def DrawnCs (w : World) (e : Ending) (w' : World) : Prop :=
  ∃ v, ∃ M : List Cmd, e = .returned v ∧ SlR w' 0 w'.heap.size 2 eCm v M ∧ M.length ≤ 6 ∧ (∀ r ∈ M, r.name.size ≤ 9) ∧ Gr w w'
theorem DrawValidCommands_any {lo hi : Nat} (v : Value) (L : List UInt8) (w : World) (hv : SlR w lo hi 1 eB v L) (hhi : hi ≤ w.heap.size) (hl : L.length ≤ 1048576) :
    Calls Tryd.prog 6 #[v] w (DrawnCs w) := by
  go_enter Tryd.func6, Tryd.ntmps6
  go_wp2_with fail
  refine (newReader_any v L w hv hhi hl).mono ?_
  rintro e w1 ⟨rfl, hr, hsz, hb⟩
  go_wp2_with fail
  refine (commandsOf_any _ _ w1 hr (by omega)).mono ?_
  rintro e w2 ⟨qa, qn, qc, pa, pn, pc, v2, M, p', rfl, ho, hll, hls, hr2, hp', hg⟩
  obtain ⟨va, vc, rfl, _, _⟩ := ho.form
  have HO := Lib.hid ho
  have HLS := Lib.hid hls
  clear ho hls
  go_wp2
  go_ret
  exact ⟨_, M, rfl, ((HO.out.alloc _).reads (fun _ _ => rfl)).mono (Nat.zero_le _) (Nat.le_refl _), hll, HLS.out, Gr.tr (hb.grown hg (by omega) (fun k hk => by injection hk with hk; omega)) (gr_al _ _)⟩
set_option maxRecDepth 100000 in
set_option maxHeartbeats 3200000 in
theorem walk_FnValidCommands (w : World) (hok : OkW w) (v : Value) (L : List UInt8) (hv : SlR w 0 w.heap.size 1 eB v L) :
    Calls Tryd.prog 3 #[v] w fun e w' => e = .returned (.bool true) ∧ Below w.heap.size w w' := by
  have hlen := hv.len_le
  have hv0 := hv
  obtain ⟨a, c, rfl, _, _⟩ := hv.form
  unfold maxLen at hlen
  by_cases hbig : L.length ≤ 1048576
  · have hd : decide ((1048576 : Int) < (L.length : Int)) = false := decide_eq_false (by omega)
    go_enter Tryd.func3, Tryd.ntmps3
    go_wp2_with fail
    refine (DrawValidCommands_any _ L _ hv0 (Nat.le_refl _) hbig).mono ?_
    rintro e w1 ⟨u, M, rfl, r1, hml, hms, hb1⟩
    have hok := hok.gr hb1
    have hgr := hb1
    have hst : ∀ s ∈ M, s.name.size ≤ 16777216 := fun s hs => by have := hms s hs; omega
    obtain ⟨a1, c1, rfl, hcc, hc2⟩ := r1.form
    have h1 := fun W (h : Gr w1 W) => sValidCommands_any _ M W (r1.below h (Nat.le_refl _)) h.size hst
    have h2 := fun W (h : Gr w1 W) k => iValidCommands_any _ M W (r1.below h (Nat.le_refl _)) h.size hst k
    have hg1 := Gr.rfl' w1
    by_cases hb : okCmds M = true
    · rw [hb] at h1 h2
      have h3 := fun lo hi vv i W h h' k => iValidCommands_any (lo := lo) (hi := hi) vv (M.take i ++ M.drop (i + 1)) W h h' (fun s hs => hst s ((sub_without M i).subset hs)) k
      have hw : ∀ i, okCmds (M.take i ++ M.drop (i + 1)) = true := okCmds_without hb
      simp only [hw] at h3
      have R1 := Lib.hid r1
      have H3 := Lib.hid h3
      clear hb r1 h3 hw hst hms
      go_wp2_with fail
      refine (h2 _ hg1 hok).mono ?_
      rintro e w2 ⟨rfl, hb2⟩
      have hok := hok.gr hb2
      have hgr := hgr.tr hb2
      have hg1 := hg1.tr hb2
      go_wp2_with fail
      refine (h1 _ hg1).mono ?_
      rintro e w3 ⟨rfl, hb3⟩
      have hok := hok.gr hb3
      have hgr := hgr.tr hb3
      have hg1 := hg1.tr hb3
      go_wp2
      go_loopw [5] (fun i wr => ∃ k : Nat, k ≤ M.length ∧ i = .int .i64 k ∧ Gr w1 wr ∧ OkW wr) (fun i _ => M.length - (intOf i).toNat)
      case atStart => exact ⟨0, Nat.zero_le _, rfl, hg1, hok⟩
      case round =>
        obtain ⟨k, hk, rfl, hg4, hok4⟩ := hrel
        have hMr := R1.out.below hg4 (Nat.le_refl _)
        have hws := hg4.size
        by_cases hlt : k < M.length
        · have s1 := hMr.take k (by omega)
          have s2 := hMr.drop (k + 1) (by omega)
          have hkc : k ≤ c1 := by omega
          have hwr : IntKind.i64.wrap ((k : Int) + 1) = (k : Int) + 1 := IntWalk.i64_in _ (by omega)
          have hn1 : ((k : Int) + 1).toNat = k + 1 := by omega
          have hk1 : k + 1 ≤ M.length := by omega
          have hk0 : 0 ≤ (k : Int) + 1 := by omega
          have hk2 : (k : Int) + 1 ≤ (M.length : Int) := by omega
          obtain ⟨A2, hA2⟩ : ∃ A2, (if c1 = k + 1 then a1 else Option.map (fun x => x.add ((k + 1) * 2)) a1) = A2 := ⟨_, rfl⟩
          rw [hA2] at s2
          go_wp2
          go_region_law (first
            | (refine step_app _ rfl (.tmp 35) (.tmp 39) ti_cmdN rfl (by simp [Act.eval]) hown5 (by simp [Act.eval]) s2' (fun _ _ => rfl) (by simp [eCm, Value.oneCell']) (by unfold maxLen; simp; omega) (by simp; omega) hbz ?_
               intro v6 w6 hown6 hg6 hat6
               have hb6 : Gr wr w6 := hbw.grown hg6 hbz (fun b hb => (hown5.block b hb).1))
            | (go_simp
               go_at_call 7
               refine (H3.out _ _ _ k _ (hown6.reads (fun _ _ => rfl)) (Nat.le_refl _) (hok4.gr hb6)).mono ?_
               rintro e w7 ⟨rfl, hb7⟩)
            | (refine step_app _ rfl (.tmp 31) (.tmp 34) ti_cmdN rfl (by simp [Act.eval]) (Own.empty wr wr.heap.size 47 2 eCm (Nat.le_refl _)) (by simp [Act.eval]) (s1.keep (Same.alloc wr _ hws)) (fun _ _ => rfl) (by simp [eCm, Value.oneCell']) (by unfold maxLen; simp; omega) (by simp; omega) (by simp) ?_
               intro v5 w5 hown5 hg5 hat5
               have hbw : Below wr.heap.size wr w5 := (((Below.refl _ wr).alloc (Nat.le_refl _) _).drew).grown hg5 (by simp) (by simp [Value.ownBlock])
               have s2' := s2.below hbw hws
               have hbz := hbw.size))
          all_goals go_wp2
          all_goals go_roundw
          all_goals first
            | exact ⟨k + 1, by omega, by go_num, (hg4.tr hb6).tr hb7, (hok4.gr hb6).gr hb7⟩
            | (simp [intOf]; omega)
        · go_wp2
          go_ret
          exact ⟨rfl, hb1.tr hg4⟩
    · rw [(Bool.not_eq_true _).mp hb] at h1 h2
      clear hb hms hst
      go_wp2_with fail
      refine (h2 _ hg1 hok).mono ?_
      rintro e w2 ⟨rfl, hb2⟩
      have hok := hok.gr hb2
      have hgr := hgr.tr hb2
      have hg1 := hg1.tr hb2
      go_wp2_with fail
      refine (h1 _ hg1).mono ?_
      rintro e w3 ⟨rfl, hb3⟩
      have hok := hok.gr hb3
      have hgr := hgr.tr hb3
      have hg1 := hg1.tr hb3
      go_wp2_with fail
      refine (h1 _ hg1).mono ?_
      rintro e w4 ⟨rfl, hb4⟩
      have hok := hok.gr hb4
      have hgr := hgr.tr hb4
      go_wp2
      go_ret
      exact ⟨rfl, hgr⟩
  · go_enter Tryd.func3, Tryd.ntmps3
    go_wp2
    go_ret
    exact ⟨rfl, Below.refl _ _⟩
end Go.Proofs.YthjegibkbpafeaaDoor
