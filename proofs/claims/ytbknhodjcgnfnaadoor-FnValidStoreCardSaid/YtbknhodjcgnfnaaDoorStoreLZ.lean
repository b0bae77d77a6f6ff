/-
  Walk of the law on valid stores.
-/
import Derived.Test.YtbknhodjcgnfnaaDoorDrawSZ
import Derived.Test.YtbknhodjcgnfnaaDoorLawsLZ
namespace Imp
open Go Go.RowKit
theorem okStore_iff (T : List Cmp) : okStore T = true ↔ (∀ f ∈ T, okCmp f = true) ∧ T.Pairwise (fun a b => samC b.root b.mod b.init a = false) ∧ T.length ≤ 12 := by
  unfold okStore
  rw [Bool.and_eq_true, List.all_eq_true, decide_eq_true_eq]
  constructor
  · rintro ⟨h1, h2⟩
    refine ⟨fun f hf => ?_, ?_, by omega⟩
    · obtain ⟨i, hi, rfl⟩ := List.getElem_of_mem hf
      have := h1 i (List.mem_range.2 hi)
      unfold goodC at this
      rw [List.getElem?_eq_getElem hi] at this
      simp only [Bool.and_eq_true] at this
      exact this.1
    · rw [List.pairwise_iff_getElem]
      intro i j hi hj hij
      have := h1 j (List.mem_range.2 hj)
      unfold goodC at this
      rw [List.getElem?_eq_getElem hj] at this
      simp only [Bool.and_eq_true, Bool.not_eq_true', List.any_eq_false] at this
      have q := this.2 T[i] (by rw [List.mem_take_iff_getElem]; exact ⟨i, by omega, rfl⟩)
      simpa using q
  · rintro ⟨h1, h2, h3⟩
    refine ⟨fun i hi => ?_, by omega⟩
    have hi := List.mem_range.1 hi
    unfold goodC
    rw [List.getElem?_eq_getElem hi]
    simp only [Bool.and_eq_true, Bool.not_eq_true', List.any_eq_false]
    refine ⟨h1 _ (List.getElem_mem hi), fun g hg => ?_⟩
    rw [List.mem_take_iff_getElem] at hg
    obtain ⟨j, hj, rfl⟩ := hg
    rw [List.pairwise_iff_getElem] at h2
    have := h2 j i (by omega) hi (by omega)
    simp [this]
theorem okStore_without {L : List CR} (h : okStore (L.map (·.1)) = true) (k : Nat) : okStore ((L.take k ++ L.drop (k + 1)).map (·.1)) = true := by
  have hs := (sub_without L k).map (·.1)
  rw [okStore_iff] at h ⊢
  exact ⟨fun f hf => h.1 f (hs.subset hf), h.2.1.sublist hs, Nat.le_trans hs.length_le h.2.2⟩
end Imp
namespace Go.Proofs.YtbknhodjcgnfnaaDoor
open Go Go.RowKit Imp
set_option linter.unusedVariables false
set_option linter.unusedSimpArgs false
def DrawnStore (w : World) (e : Ending) (w' : World) : Prop :=
  ∃ v, ∃ M : List CR, e = .returned v ∧ StR w' 0 w'.heap.size v M ∧ M.length ≤ 11 ∧ (∀ r ∈ M, SmCa r.1) ∧ Gr w w'
theorem DrawValidStore_any {lo hi : Nat} (v : Value) (L : List UInt8) (w : World) (hv : SlR w lo hi 1 eB v L) (hhi : hi ≤ w.heap.size) (hl : L.length ≤ 1048576) :
    Calls Tryd.prog 5 #[v] w (DrawnStore w) := by
  go_enter Tryd.func5, Tryd.ntmps5
  go_wp2_with fail
  refine (newReader_any v L w hv hhi hl).mono ?_
  rintro e w1 ⟨rfl, hr, hsz, hb⟩
  go_wp2_with fail
  refine (anyStore_any _ _ w1 hr (by omega)).mono ?_
  rintro e w2 ⟨v2, ta, tn, tc, M, p', rfl, ho, hll, hls, hr2, hp', hg⟩
  have hal := gr_al w2 (.cells #[.slice ta tn tc] 39)
  have hA := (ho.below hal (Nat.le_refl _)).monoZ (Nat.zero_le _) hal.size
  have HA := Lib.hid hA
  have hbw : Gr w w2 := hb.grown hg (by omega) (fun k hk => by injection hk with hk; omega)
  clear hA
  go_wp2
  go_ret
  exact ⟨v2, M, rfl, HA.out, hll, hls, hbw.tr hal⟩
set_option maxRecDepth 100000 in
set_option maxHeartbeats 3200000 in
theorem walk_FnValidStore (w : World) (hok : OkW w) (v : Value) (L : List UInt8) (hv : SlR w 0 w.heap.size 1 eB v L) :
    Calls Tryd.prog 3 #[v] w fun e w' => e = .returned (.bool true) ∧ Below w.heap.size w w' := by
  have hlen := hv.len_le
  have hv0 := hv
  obtain ⟨a, c, rfl, _, _⟩ := hv.form
  unfold maxLen at hlen
  by_cases hbig : L.length ≤ 1048576
  · have hd : decide ((1048576 : Int) < (L.length : Int)) = false := decide_eq_false (by omega)
    go_enter Tryd.func3, Tryd.ntmps3
    go_wp2_with fail
    refine (DrawValidStore_any _ L _ hv0 (Nat.le_refl _) hbig).mono ?_
    rintro e w1 ⟨u, M, rfl, r1, hml, hms, hb1⟩
    have hok := hok.gr hb1
    have hgr := hb1
    have hst : ∀ s ∈ M, SmC s := fun s hs => smCa_C (hms s hs)
    obtain ⟨a1, c1, rfl, hcc, hc2⟩ := r1.1.form
    have h1 := fun W (h : Gr w1 W) k => sValidStore_any _ M W k (r1.below h (Nat.le_refl _)) h.size hst
    have h2 := fun W (h : Gr w1 W) k => iValidStore_any _ M W k (r1.below h (Nat.le_refl _)) h.size hst
    have hg1 := Gr.rfl' w1
    by_cases hb : okStore (M.map (·.1)) = true
    · rw [hb] at h1 h2
      have h3 := fun vv i W (g : Gr w1 W) (hs : SlR W 0 W.heap.size 8 eCp vv (M.take i ++ M.drop (i + 1))) (kk : OkW W) => iValidStore_any vv (M.take i ++ M.drop (i + 1)) W kk ⟨hs, fun r hr => SlR.mono (SlR.below (r1.2 r ((sub_without M i).subset hr)) g (Nat.le_refl _)) (Nat.le_refl _) g.size⟩ (Nat.le_refl _) (fun r hr => hst r ((sub_without M i).subset hr))
      simp only [okStore_without hb] at h3
      have R1 := Lib.hid r1
      have H3 := Lib.hid h3
      clear hb r1 h3 hst hms
      go_wp2_with fail
      refine (h2 _ hg1 hok).mono ?_
      rintro e w2 ⟨rfl, hb2⟩
      have hok := hok.gr hb2
      have hgr := hgr.tr hb2
      have hg1 := hg1.tr hb2
      go_wp2_with fail
      refine (h1 _ hg1 hok).mono ?_
      rintro e w3 ⟨rfl, hb3⟩
      have hok := hok.gr hb3
      have hgr := hgr.tr hb3
      have hg1 := hg1.tr hb3
      go_wp2
      go_loopw [5] (fun i wr => ∃ k : Nat, k ≤ M.length ∧ i = .int .i64 k ∧ Gr w1 wr ∧ OkW wr) (fun i _ => M.length - (intOf i).toNat)
      case atStart => exact ⟨0, Nat.zero_le _, rfl, hg1, hok⟩
      case round =>
        obtain ⟨k, hk, rfl, hg4, hok4⟩ := hrel
        have hMr := R1.out.1.below hg4 (Nat.le_refl _)
        have hws := hg4.size
        by_cases hlt : k < M.length
        · have s1 := hMr.take k (by omega)
          have s2 := hMr.drop (k + 1) (by omega)
          have hkc : k ≤ c1 := by omega
          have hwr : IntKind.i64.wrap ((k : Int) + 1) = (k : Int) + 1 := IntWalk.i64_in _ (by omega)
          have hn1 : ((k : Int) + 1).toNat = k + 1 := by omega
          have hk1 : k + 1 ≤ M.length := by omega
          have hk0 : 0 ≤ (k : Int) + 1 := by omega
          have hk2 : (k : Int) + 1 ≤ (M.length : Int) := by omega
          obtain ⟨A2, hA2⟩ : ∃ A2, (if c1 = k + 1 then a1 else Option.map (fun x => x.add ((k + 1) * 8)) a1) = A2 := ⟨_, rfl⟩
          rw [hA2] at s2
          go_wp2
          go_region_law (first
            | (refine step_app _ rfl (.tmp 35) (.tmp 39) ti_cmpS rfl (by simp [Act.eval]) hown5 (by simp [Act.eval]) s2' (fun _ _ => rfl) (by simp [eCp, Value.oneCell']; intro a b hab; obtain ⟨q1, q2, e, _, _⟩ := SlR.form (R1.out.2 (a, b) (List.drop_subset _ _ hab)); have e : b = _ := e; rw [e]; first | done | rfl) (by unfold maxLen; simp; omega) (by simp; omega) hbz ?_
               intro v6 w6 hown6 hg6 hat6
               have hb6 : Gr wr w6 := hbw.grown hg6 hbz (fun b hb => (hown5.block b hb).1))
            | (go_simp
               go_at_call 6
               refine (H3.out _ k _ (hg4.tr hb6) (SlR.mono (hown6.reads (fun _ _ => rfl)) (Nat.zero_le _) (Nat.le_refl _)) (hok4.gr hb6)).mono ?_
               rintro e w7 ⟨rfl, hb7⟩)
            | (refine step_app _ rfl (.tmp 31) (.tmp 34) ti_cmpS rfl (by simp [Act.eval]) (Own.empty wr wr.heap.size 29 8 eCp (Nat.le_refl _)) (by simp [Act.eval]) (s1.keep (Same.alloc wr _ hws)) (fun _ _ => rfl) (by simp [eCp, Value.oneCell']; intro a b hab; obtain ⟨q1, q2, e, _, _⟩ := SlR.form (R1.out.2 (a, b) (List.take_subset _ _ hab)); have e : b = _ := e; rw [e]; first | done | rfl) (by unfold maxLen; simp; omega) (by simp; omega) (by simp) ?_
               intro v5 w5 hown5 hg5 hat5
               have hbw : Below wr.heap.size wr w5 := (((Below.refl _ wr).alloc (Nat.le_refl _) _).drew).grown hg5 (by simp) (by simp [Value.ownBlock])
               have s2' := s2.below hbw hws
               have hbz := hbw.size))
          all_goals go_wp2
          all_goals go_roundw
          all_goals first
            | exact ⟨k + 1, by omega, by go_num, (hg4.tr hb6).tr hb7, (hok4.gr hb6).gr hb7⟩
            | (simp [intOf]; omega)
        · go_wp2
          go_ret
          exact ⟨rfl, hb1.tr hg4⟩
    · rw [(Bool.not_eq_true _).mp hb] at h1 h2
      clear hb
      go_wp2_with fail
      refine (h2 _ hg1 hok).mono ?_
      rintro e w2 ⟨rfl, hb2⟩
      have hok := hok.gr hb2
      have hgr := hgr.tr hb2
      have hg1 := hg1.tr hb2
      go_wp2_with fail
      refine (h1 _ hg1 hok).mono ?_
      rintro e w3 ⟨rfl, hb3⟩
      have hok := hok.gr hb3
      have hgr := hgr.tr hb3
      have hg1 := hg1.tr hb3
      go_wp2_with fail
      refine (h1 _ hg1 hok).mono ?_
      rintro e w4 ⟨rfl, hb4⟩
      have hok := hok.gr hb4
      have hgr := hgr.tr hb4
      go_wp2
      go_ret
      exact ⟨rfl, hgr⟩
  · go_enter Tryd.func3, Tryd.ntmps3
    go_wp2
    go_ret
    exact ⟨rfl, Below.refl _ _⟩
end Go.Proofs.YtbknhodjcgnfnaaDoor
