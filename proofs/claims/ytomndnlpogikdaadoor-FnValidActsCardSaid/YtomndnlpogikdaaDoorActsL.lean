/-
  Walk of the law on valid acts.
-/
import Derived.Test.YtomndnlpogikdaaDoorDrawA
import Derived.Test.YtomndnlpogikdaaDoorLawsL
namespace Imp
open Go Go.RowKit
theorem okActs_without {L : List AR} (h : okActs (L.map (·.1)) = true) (k : Nat) : okActs ((L.take k ++ L.drop (k + 1)).map (·.1)) = true := by
  unfold okActs at h ⊢
  rw [Bool.and_eq_true] at h ⊢
  obtain ⟨h1, h2⟩ := h
  have hs := (sub_without L k).map (·.1)
  refine ⟨List.all_eq_true.mpr (fun x hx => List.all_eq_true.mp h1 x (hs.subset hx)), ?_⟩
  have := hs.length_le
  have := of_decide_eq_true h2
  exact decide_eq_true (by omega)
theorem smA_of {r : AR} (h : SmAd r.1) : SmA r := by
  obtain ⟨⟨h1, h2, h3, h4⟩, h5⟩ := h
  exact ⟨by omega, by omega, fun s hs => by obtain ⟨q1, q2, _⟩ := h2 s hs; unfold szSt; omega, by omega⟩
end Imp
namespace Go.Proofs.YtomndnlpogikdaaDoor
open Go Go.RowKit Imp
set_option linter.unusedVariables false
set_option linter.unusedSimpArgs false
def DrawnActs (w : World) (e : Ending) (w' : World) : Prop :=
  ∃ v, ∃ M : List AR, e = .returned v ∧ AlR w' 0 w'.heap.size v M ∧ M.length ≤ 16 ∧ (∀ r ∈ M, SmAd r.1) ∧ Gr w w'
theorem DrawValidActs_any {lo hi : Nat} (v : Value) (L : List UInt8) (w : World) (hv : SlR w lo hi 1 eB v L) (hhi : hi ≤ w.heap.size) (hl : L.length ≤ 1048576) :
    Calls Tryd.prog 30 #[v] w (DrawnActs w) := by
  go_enter Tryd.func30, Tryd.ntmps30
  go_wp2_with fail
  refine (newReader_any v L w hv hhi hl).mono ?_
  rintro e w1 ⟨rfl, hr, hsz, hb⟩
  go_wp2_with fail
  refine (someActs_any _ _ w1 hr (by omega)).mono ?_
  rintro e w2 ⟨v2, M, p', rfl, ho, hll, hls, hr2, hp', hg⟩
  have hA := ho.alR
  go_wp2
  go_ret
  exact ⟨v2, M, rfl, ⟨SlR.mono hA.1 (Nat.zero_le _) (Nat.le_refl _), fun r hr => SlR.mono (hA.2 r hr) (Nat.zero_le _) (Nat.le_refl _)⟩, hll, hls, hb.grown hg (by omega) (fun k hk => by injection hk with hk; omega)⟩
set_option maxRecDepth 100000 in
set_option maxHeartbeats 3200000 in
theorem walk_FnValidActs (w : World) (hok : OkW w) (v : Value) (L : List UInt8) (hv : SlR w 0 w.heap.size 1 eB v L) :
    Calls Tryd.prog 6 #[v] w fun e w' => e = .returned (.bool true) ∧ Below w.heap.size w w' := by
  have hlen := hv.len_le
  have hv0 := hv
  obtain ⟨a, c, rfl, _, _⟩ := hv.form
  unfold maxLen at hlen
  by_cases hbig : L.length ≤ 1048576
  · have hd : decide ((1048576 : Int) < (L.length : Int)) = false := decide_eq_false (by omega)
    go_enter Tryd.func6, Tryd.ntmps6
    go_wp2_with fail
    refine (DrawValidActs_any _ L _ hv0 (Nat.le_refl _) hbig).mono ?_
    rintro e w1 ⟨u, M, rfl, r1, hml, hms, hb1⟩
    have hok := hok.gr hb1
    have hgr := hb1
    have hst : ∀ s ∈ M, SmA s := fun s hs => smA_of (hms s hs)
    obtain ⟨a1, c1, rfl, hcc, hc2⟩ := r1.1.form
    have h1 := fun W (h : Gr w1 W) k => sValidActs_any _ M W k (r1.below h (Nat.le_refl _)) h.size hst
    have h2 := fun W (h : Gr w1 W) k => iActs_any _ M W k (r1.below h (Nat.le_refl _)) h.size hst
    have hg1 := Gr.rfl' w1
    by_cases hb : okActs (M.map (·.1)) = true
    · rw [hb] at h1 h2
      have h3 := fun vv i W (g : Gr w1 W) (hs : SlR W 0 W.heap.size 9 eA vv (M.take i ++ M.drop (i + 1))) (kk : OkW W) => iActs_any vv (M.take i ++ M.drop (i + 1)) W kk ⟨hs, fun r hr => SlR.mono (SlR.below (r1.2 r ((sub_without M i).subset hr)) g (Nat.le_refl _)) (Nat.le_refl _) g.size⟩ (Nat.le_refl _) (fun r hr => hst r ((sub_without M i).subset hr))
      simp only [okActs_without hb] at h3
      have R1 := Lib.hid r1
      have H3 := Lib.hid h3
      clear hb r1 h3 hst
      go_wp2_with fail
      refine (h2 _ hg1 hok).mono ?_
      rintro e w2 ⟨rfl, hb2⟩
      have hok := hok.gr hb2
      have hgr := hgr.tr hb2
      have hg1 := hg1.tr hb2
      go_wp2_with fail
      refine (h1 _ hg1 hok).mono ?_
      rintro e w3 ⟨rfl, hb3⟩
      have hok := hok.gr hb3
      have hgr := hgr.tr hb3
      have hg1 := hg1.tr hb3
      go_wp2
      go_loopw [5] (fun i wr => ∃ k : Nat, k ≤ M.length ∧ i = .int .i64 k ∧ Gr w1 wr ∧ OkW wr) (fun i _ => M.length - (intOf i).toNat)
      case atStart => exact ⟨0, Nat.zero_le _, rfl, hg1, hok⟩
      case round =>
        obtain ⟨k, hk, rfl, hg4, hok4⟩ := hrel
        have hMr := R1.out.1.below hg4 (Nat.le_refl _)
        have hws := hg4.size
        by_cases hlt : k < M.length
        · have s1 := hMr.take k (by omega)
          have s2 := hMr.drop (k + 1) (by omega)
          have hkc : k ≤ c1 := by omega
          have hwr : IntKind.i64.wrap ((k : Int) + 1) = (k : Int) + 1 := IntWalk.i64_in _ (by omega)
          have hn1 : ((k : Int) + 1).toNat = k + 1 := by omega
          have hk1 : k + 1 ≤ M.length := by omega
          have hk0 : 0 ≤ (k : Int) + 1 := by omega
          have hk2 : (k : Int) + 1 ≤ (M.length : Int) := by omega
          obtain ⟨A2, hA2⟩ : ∃ A2, (if c1 = k + 1 then a1 else Option.map (fun x => x.add ((k + 1) * 9)) a1) = A2 := ⟨_, rfl⟩
          rw [hA2] at s2
          go_wp2
          go_region_law (first
            | (refine step_app _ rfl (.tmp 35) (.tmp 39) ti_act rfl (by simp [Act.eval]) hown5 (by simp [Act.eval]) s2' (fun _ _ => rfl) (by simp [eA, Value.oneCell']; intro a b hab; obtain ⟨q1, q2, e, _, _⟩ := SlR.form (R1.out.2 (a, b) (List.drop_subset _ _ hab)); have e : b = _ := e; rw [e]; first | done | rfl) (by unfold maxLen; simp; omega) (by simp; omega) hbz ?_
               intro v6 w6 hown6 hg6 hat6
               have hb6 : Gr wr w6 := hbw.grown hg6 hbz (fun b hb => (hown5.block b hb).1))
            | (go_simp
               go_at_call 31
               refine (H3.out _ k _ (hg4.tr hb6) (SlR.mono (hown6.reads (fun _ _ => rfl)) (Nat.zero_le _) (Nat.le_refl _)) (hok4.gr hb6)).mono ?_
               rintro e w7 ⟨rfl, hb7⟩)
            | (refine step_app _ rfl (.tmp 31) (.tmp 34) ti_act rfl (by simp [Act.eval]) (Own.empty wr wr.heap.size 95 9 eA (Nat.le_refl _)) (by simp [Act.eval]) (s1.keep (Same.alloc wr _ hws)) (fun _ _ => rfl) (by simp [eA, Value.oneCell']; intro a b hab; obtain ⟨q1, q2, e, _, _⟩ := SlR.form (R1.out.2 (a, b) (List.take_subset _ _ hab)); have e : b = _ := e; rw [e]; first | done | rfl) (by unfold maxLen; simp; omega) (by simp; omega) (by simp) ?_
               intro v5 w5 hown5 hg5 hat5
               have hbw : Below wr.heap.size wr w5 := (((Below.refl _ wr).alloc (Nat.le_refl _) _).drew).grown hg5 (by simp) (by simp [Value.ownBlock])
               have s2' := s2.below hbw hws
               have hbz := hbw.size))
          all_goals go_wp2
          all_goals go_roundw
          all_goals first
            | exact ⟨k + 1, by omega, by go_num, (hg4.tr hb6).tr hb7, (hok4.gr hb6).gr hb7⟩
            | (simp [intOf]; omega)
        · go_wp2
          go_ret
          exact ⟨rfl, hb1.tr hg4⟩
    · rw [(Bool.not_eq_true _).mp hb] at h1 h2
      clear hb
      go_wp2_with fail
      refine (h2 _ hg1 hok).mono ?_
      rintro e w2 ⟨rfl, hb2⟩
      have hok := hok.gr hb2
      have hgr := hgr.tr hb2
      have hg1 := hg1.tr hb2
      go_wp2_with fail
      refine (h1 _ hg1 hok).mono ?_
      rintro e w3 ⟨rfl, hb3⟩
      have hok := hok.gr hb3
      have hgr := hgr.tr hb3
      have hg1 := hg1.tr hb3
      go_wp2_with fail
      refine (h1 _ hg1 hok).mono ?_
      rintro e w4 ⟨rfl, hb4⟩
      have hok := hok.gr hb4
      have hgr := hgr.tr hb4
      go_wp2
      go_ret
      exact ⟨rfl, hgr⟩
  · go_enter Tryd.func6, Tryd.ntmps6
    go_wp2
    go_ret
    exact ⟨rfl, Below.refl _ _⟩
end Go.Proofs.YtomndnlpogikdaaDoor
