/-
  Walks: valid bodies, of both packages; the law on them.
-/
import Derived.Test.YtonpfkfmkdaglaaDoorBodyB
namespace Go.Proofs.YtonpfkfmkdaglaaDoor
open Go Go.RowKit Imp
set_option linter.unusedVariables false

theorem okStm_one {kind : Int} {mod : ByteArray} {level : Int} {name : ByteArray} {value : Int} (k0 : (kind == 0) = false) (k1 : (kind == 1) = true) :
    okStm ⟨kind, mod, level, name, value⟩ = (vPkg (bs mod) && (decide (0 ≤ level) && decide (level ≤ 3)) && (!mod.toList.isEmpty || decide (0 < level)) && vPart (bs name) && (value == 0)) := by
  simp only [okStm, k0, k1, Bool.false_eq_true, ↓reduceIte]
theorem svalidStmt_any (s : Stm) (w : World) (hok : OkW w) (hm : s.mod.size ≤ 16777216) (hn : s.name.size ≤ 16777216) :
    Calls Tryd.prog 126 #[vSt s] w fun e w' => e = .returned (.bool (okStm s)) ∧ Gr w w' := by
  obtain ⟨kind, mod, level, name, value⟩ := s
  by_cases h0 : (kind == 0) = true
  · have k0 := h0
    have := sStmt0 kind mod level name value w hok hm hn k0
    simpa only [okStm, k0, Bool.false_eq_true, ↓reduceIte] using this
  · have k0 := (Bool.not_eq_true _).mp h0
    by_cases h1 : (kind == 1) = true
    · have k1 := h1
      have := sStmt1 kind mod level name value w hok hm hn k0 k1
      simpa only [okStm, k0, k1, Bool.false_eq_true, ↓reduceIte] using this
    · have k1 := (Bool.not_eq_true _).mp h1
      by_cases h2 : (kind == 2) = true
      · have k2 := h2
        have := sStmt2 kind mod level name value w hok hm hn k0 k1 k2
        simpa only [okStm, k0, k1, k2, Bool.false_eq_true, ↓reduceIte] using this
      · have k2 := (Bool.not_eq_true _).mp h2
        by_cases h3 : (kind == 3) = true
        · have k3 := h3
          have := sStmt3 kind mod level name value w hok hm hn k0 k1 k2 k3
          simpa only [okStm, k0, k1, k2, k3, Bool.false_eq_true, ↓reduceIte] using this
        · have k3 := (Bool.not_eq_true _).mp h3
          by_cases h4 : (kind == 4) = true
          · have k4 := h4
            have := sStmt4 kind mod level name value w hok hm hn k0 k1 k2 k3 k4
            simpa only [okStm, k0, k1, k2, k3, k4, Bool.false_eq_true, ↓reduceIte] using this
          · have k4 := (Bool.not_eq_true _).mp h4
            by_cases h5 : (kind == 5) = true
            · have k5 := h5
              have := sStmt5 kind mod level name value w hok hm hn k0 k1 k2 k3 k4 k5
              simpa only [okStm, k0, k1, k2, k3, k4, k5, Bool.false_eq_true, ↓reduceIte] using this
            · have k5 := (Bool.not_eq_true _).mp h5
              have e : okStm ⟨kind, mod, level, name, value⟩ = false := by simp only [okStm, k0, k1, k2, k3, k4, k5, Bool.false_eq_true, ↓reduceIte]
              rw [e]
              exact sStmtX kind mod level name value w hok hm hn k0 k1 k2 k3 k4 k5
theorem istmtOk_any (s : Stm) (w : World) (hok : OkW w) (hm : s.mod.size ≤ 16777216) (hn : s.name.size ≤ 16777216) :
    Calls Tryd.prog 105 #[vSt s] w fun e w' => e = .returned (.bool (okStm s)) ∧ Gr w w' := by
  obtain ⟨kind, mod, level, name, value⟩ := s
  by_cases h0 : (kind == 0) = true
  · have k0 := h0
    have := iStmt0 kind mod level name value w hok hm hn k0
    simpa only [okStm, k0, Bool.false_eq_true, ↓reduceIte] using this
  · have k0 := (Bool.not_eq_true _).mp h0
    by_cases h1 : (kind == 1) = true
    · have k1 := h1
      have := iStmt1 kind mod level name value w hok hm hn k0 k1
      rw [isEmpty_toList] at this
      rw [okStm_one k0 k1, vPkg, isEmpty_toList]
      exact this
    · have k1 := (Bool.not_eq_true _).mp h1
      by_cases h2 : (kind == 2) = true
      · have k2 := h2
        have := iStmt2 kind mod level name value w hok hm hn k0 k1 k2
        simpa only [okStm, k0, k1, k2, Bool.false_eq_true, ↓reduceIte] using this
      · have k2 := (Bool.not_eq_true _).mp h2
        by_cases h3 : (kind == 3) = true
        · have k3 := h3
          have := iStmt3 kind mod level name value w hok hm hn k0 k1 k2 k3
          simpa only [okStm, k0, k1, k2, k3, Bool.false_eq_true, ↓reduceIte] using this
        · have k3 := (Bool.not_eq_true _).mp h3
          by_cases h4 : (kind == 4) = true
          · have k4 := h4
            have := iStmt4 kind mod level name value w hok hm hn k0 k1 k2 k3 k4
            simpa only [okStm, k0, k1, k2, k3, k4, Bool.false_eq_true, ↓reduceIte] using this
          · have k4 := (Bool.not_eq_true _).mp h4
            by_cases h5 : (kind == 5) = true
            · have k5 := h5
              have := iStmt5 kind mod level name value w hok hm hn k0 k1 k2 k3 k4 k5
              simpa only [okStm, k0, k1, k2, k3, k4, k5, Bool.false_eq_true, ↓reduceIte] using this
            · have k5 := (Bool.not_eq_true _).mp h5
              have e : okStm ⟨kind, mod, level, name, value⟩ = false := by simp only [okStm, k0, k1, k2, k3, k4, k5, Bool.false_eq_true, ↓reduceIte]
              rw [e]
              exact iStmtX kind mod level name value w hok hm hn k0 k1 k2 k3 k4 k5
theorem svalidBody_any {lo hi : Nat} (v : Value) (L : List Stm) (w : World) (hv : SlR w lo hi 5 eSt v L) (hhi : hi ≤ w.heap.size) (hsm : ∀ s ∈ L, szSt s ≤ 16777216) (hok : OkW w) :
    Calls Tryd.prog 100 #[v] w fun e w' => e = .returned (.bool (okBody L)) ∧ Gr w w' := by
  obtain ⟨a, c, rfl, h1, h2, h3⟩ := hv
  unfold maxLen at h2
  obtain ⟨R, hR⟩ : ∃ R, R = okBody L := ⟨_, rfl⟩
  rw [← hR]
  have HR := Lib.hid hR
  have HM := Lib.hid hsm
  clear hsm hR
  go_enter Tryd.func100, Tryd.ntmps100
  go_wp2
  go_loopw [3] (fun i wr => ∃ k : Nat, k ≤ L.length ∧ i = .int .i64 k ∧ (L.take k).all okStm = true ∧ Gr w wr) (fun i _ => L.length - (intOf i).toNat)
  case atStart => exact ⟨0, Nat.zero_le _, rfl, by simp, Gr.rfl' _⟩
  case round =>
    obtain ⟨k, hk, rfl, hall, hgr⟩ := hrel
    have H := Lib.hid hall
    have hokr := hok.gr hgr
    clear hall
    by_cases hlt : k < L.length
    · obtain ⟨b, o, rfl, hbb, hc⟩ := h3 k hlt
      obtain ⟨x, hx⟩ : ∃ x, x = L[k] := ⟨_, rfl⟩
      obtain ⟨c0, c1, c2, c3, c4⟩ := cells_stm (w := wr) (b := b) (o := o) (k := k) (x := x) (fun j u hu => (hgr.cell (p := ⟨b, o + k * 5 + j, none⟩) (Nat.lt_of_lt_of_le hbb.2 hhi)).trans (hc j u (by rw [← hx]; exact hu)))
      have hpl := HM.out L[k] (List.getElem_mem hlt)
      rw [← hx, szSt] at hpl
      have hat := all_take_succ okStm L k hlt
      rw [← hx] at hat
      have HX := Lib.hid hx
      have HA := Lib.hid hat
      have hst := svalidStmt_any x wr hokr (by omega) (by omega)
      clear hc h3 hat hx
      by_cases hv : okStm x = true
      · rw [hv] at hst
        go_wp2_with (go_at_call 126; refine hst.mono ?_; rintro e w2 ⟨rfl, hb2⟩)
        go_roundw
        case rel => exact ⟨k + 1, by omega, by go_num, by rw [HA.out, H.out, hv]; rfl, hgr.tr hb2⟩
        case measure => simp [intOf]; omega
      · have hv' : okStm x = false := (Bool.not_eq_true _).mp hv
        rw [hv'] at hst
        go_wp2_with (go_at_call 126; refine hst.mono ?_; rintro e w2 ⟨rfl, hb2⟩)
        go_ret
        exact ⟨ret_bool (by rw [HR.out, okBody, all_false_at _ _ k hlt (by rw [← HX.out]; exact hv')]; rfl), hgr.tr hb2⟩
    · have hall : L.all okStm = true := by rw [← List.take_of_length_le (show L.length ≤ k by omega)]; exact H.out
      have hfin : R = decide ((L.length : Int) ≤ 8) := by rw [HR.out, okBody, hall, Bool.true_and]
      have HF := Lib.hid hfin
      clear hall hfin
      go_wp2
      go_ret
      exact ⟨ret_bool (by rw [HF.out]), hgr⟩
theorem sValidBody_any {lo hi : Nat} (v : Value) (L : List Stm) (w : World) (hv : SlR w lo hi 5 eSt v L) (hhi : hi ≤ w.heap.size) (hsm : ∀ s ∈ L, szSt s ≤ 16777216) (hok : OkW w) :
    Calls Tryd.prog 56 #[v] w fun e w' => e = .returned (.bool (okBody L)) ∧ Gr w w' := by
  have h := svalidBody_any v L w hv hhi hsm hok
  generalize okBody L = R at h
  go_enter Tryd.func56, Tryd.ntmps56
  go_wp2_with (go_at_call 100; refine h.mono ?_; rintro e w1 ⟨rfl, hb1⟩)
  go_ret
  exact ⟨rfl, hb1⟩
theorem iValidBody_any {lo hi : Nat} (v : Value) (L : List Stm) (w : World) (hv : SlR w lo hi 5 eSt v L) (hhi : hi ≤ w.heap.size) (hsm : ∀ s ∈ L, szSt s ≤ 16777216) (hok : OkW w) :
    Calls Tryd.prog 57 #[v] w fun e w' => e = .returned (.bool (okBody L)) ∧ Gr w w' := by
  obtain ⟨a, c, rfl, h1, h2, h3⟩ := hv
  unfold maxLen at h2
  obtain ⟨R, hR⟩ : ∃ R, R = okBody L := ⟨_, rfl⟩
  rw [← hR]
  have HR := Lib.hid hR
  have HM := Lib.hid hsm
  clear hsm hR
  go_enter Tryd.func57, Tryd.ntmps57
  go_wp2
  go_loopw [7] (fun i wr => ∃ k : Nat, k ≤ L.length ∧ i = .int .i64 k ∧ (L.take k).all okStm = true ∧ Gr w wr) (fun i _ => L.length - (intOf i).toNat)
  case atStart => exact ⟨0, Nat.zero_le _, rfl, by simp, Gr.rfl' _⟩
  case round =>
    obtain ⟨k, hk, rfl, hall, hgr⟩ := hrel
    have H := Lib.hid hall
    have hokr := hok.gr hgr
    clear hall
    by_cases hlt : k < L.length
    · obtain ⟨b, o, rfl, hbb, hc⟩ := h3 k hlt
      obtain ⟨x, hx⟩ : ∃ x, x = L[k] := ⟨_, rfl⟩
      obtain ⟨c0, c1, c2, c3, c4⟩ := cells_stm (w := wr) (b := b) (o := o) (k := k) (x := x) (fun j u hu => (hgr.cell (p := ⟨b, o + k * 5 + j, none⟩) (Nat.lt_of_lt_of_le hbb.2 hhi)).trans (hc j u (by rw [← hx]; exact hu)))
      have hpl := HM.out L[k] (List.getElem_mem hlt)
      rw [← hx, szSt] at hpl
      have hat := all_take_succ okStm L k hlt
      rw [← hx] at hat
      have HX := Lib.hid hx
      have HA := Lib.hid hat
      have hst := fun W h => istmtOk_any x W h (by omega) (by omega)
      have hgs := hgr.size
      clear hc h3 hat hx
      by_cases hv : okStm x = true
      · rw [hv] at hst
        go_wp2_with (go_at_call 105; refine (hst _ (hokr.al _)).mono ?_; rintro e w2 ⟨rfl, hb2⟩)
        go_roundw
        case rel => exact ⟨k + 1, by omega, by go_num, by rw [HA.out, H.out, hv]; rfl, Gr.tr (hgr.alloc hgs _) hb2⟩
        case measure => simp [intOf]; omega
      · have hv' : okStm x = false := (Bool.not_eq_true _).mp hv
        rw [hv'] at hst
        go_wp2_with (go_at_call 105; refine (hst _ (hokr.al _)).mono ?_; rintro e w2 ⟨rfl, hb2⟩)
        go_ret
        exact ⟨ret_bool (by rw [HR.out, okBody, all_false_at _ _ k hlt (by rw [← HX.out]; exact hv')]; rfl), Gr.tr (hgr.alloc hgs _) hb2⟩
    · have hall : L.all okStm = true := by rw [← List.take_of_length_le (show L.length ≤ k by omega)]; exact H.out
      have hfin : R = decide ((L.length : Int) ≤ 8) := by rw [HR.out, okBody, hall, Bool.true_and]
      have HF := Lib.hid hfin
      clear hall hfin
      go_wp2
      go_ret
      exact ⟨ret_bool (by rw [HF.out]), hgr⟩
theorem walk_FnExactValidBody (w : World) (hok : OkW w) (v : Value) (L : List Stm) (hL : SlR w 0 w.heap.size 5 eSt v L ∧ ∀ s ∈ L, okSt s) :
    Calls Tryd.prog 12 #[v] w fun e w' => e = .returned (.bool true) ∧ Below w.heap.size w w' := by
  obtain ⟨hv, hsz⟩ := hL
  go_enter Tryd.func12, Tryd.ntmps12
  go_wp2_with fail
  refine (szStmtS_any _ L _ _ hv (Nat.le_refl _) hsz (by omega) (by omega)).mono ?_
  rintro e w0 ⟨r, rfl, hr, hrl, hb0⟩
  by_cases h0 : r < 0
  · go_wp2
    go_ret
    exact ⟨rfl, hb0⟩
  · have htot := hr (by omega)
    have hlen : L.length ≤ 1048576 := by omega
    have hsm : ∀ s ∈ L, szSt s ≤ 16777216 := by
      intro s hs
      have := totB_mem hs
      omega
    have h1 := fun lo hi u W h h' k => sValidBody_any (lo := lo) (hi := hi) u L W h h' hsm k
    have h2 := fun lo hi u W h h' k => iValidBody_any (lo := lo) (hi := hi) u L W h h' hsm k
    generalize okBody L = R at h1 h2
    have q2 : (R != R) = false := by simp
    clear hr hrl htot hsm
    go_wp2_with fail
    refine (toStmtS_any _ L _ (hv.below hb0 (Nat.le_refl _)) hb0.size hlen).mono ?_
    rintro e w1 ⟨u1, rfl, hu1, hb1⟩
    have hg1 : Gr w w1 := Gr.tr hb0 hb1
    go_wp2_with fail
    refine (h1 _ _ _ _ hu1 (Nat.le_refl _) (hok.gr hg1)).mono ?_
    rintro e w2 ⟨rfl, hb2⟩
    have hg2 : Gr w w2 := Gr.tr hg1 hb2
    go_wp2_with fail
    refine (toStmtS_any _ L _ (hv.below hg2 (Nat.le_refl _)) hg2.size hlen).mono ?_
    rintro e w3 ⟨u3, rfl, hu3, hb3⟩
    have hg3 : Gr w w3 := Gr.tr hg2 hb3
    go_wp2_with fail
    refine (h2 _ _ _ _ hu3 (Nat.le_refl _) (hok.gr hg3)).mono ?_
    rintro e w4 ⟨rfl, hb4⟩
    have hg4 : Gr w w4 := Gr.tr hg3 hb4
    have hu3 := hu3.below hb4 (Nat.le_refl _)
    go_wp2_with fail
    refine (toStmtS_any _ L _ (hv.below hg4 (Nat.le_refl _)) hg4.size hlen).mono ?_
    rintro e w5 ⟨u5, rfl, hu5, hb5⟩
    go_wp2_with fail
    refine (eqStmtS_any _ _ L _ (hu3.below hb5 hb4.size) hu5 (Nat.le_trans hb4.size hb5.size) (Nat.le_refl _)).mono ?_
    rintro e w6 ⟨rfl, hb6⟩
    go_wp2
    go_ret
    exact ⟨rfl, Gr.tr (Gr.tr hg4 hb5) hb6⟩
end Go.Proofs.YtonpfkfmkdaglaaDoor
