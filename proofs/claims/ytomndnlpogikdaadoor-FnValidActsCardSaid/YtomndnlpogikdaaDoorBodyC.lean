/-
  Walks: valid bodies, of both packages; the law on them.
-/
import Derived.Test.YtomndnlpogikdaaDoorBodyB
namespace Go.Proofs.YtomndnlpogikdaaDoor
open Go Go.RowKit Imp
set_option linter.unusedVariables false

theorem okStm_one {kind : Int} {mod : ByteArray} {level : Int} {name : ByteArray} {value : Int} (k0 : (kind == 0) = false) (k1 : (kind == 1) = true) :
    okStm ⟨kind, mod, level, name, value⟩ = (vPkg (bs mod) && (decide (0 ≤ level) && decide (level ≤ 3)) && (!mod.toList.isEmpty || decide (0 < level)) && vPart (bs name) && (value == 0)) := by
  simp only [okStm, k0, k1, Bool.false_eq_true, ↓reduceIte]
theorem svalidStmt_any (s : Stm) (w : World) (hok : OkW w) (hm : s.mod.size ≤ 16777216) (hn : s.name.size ≤ 16777216) :
    Calls Tryd.prog 82 #[vSt s] w fun e w' => e = .returned (.bool (okStm s)) ∧ Gr w w' := by
  obtain ⟨kind, mod, level, name, value⟩ := s
  by_cases h0 : (kind == 0) = true
  · have k0 := h0
    have := sStmt0 kind mod level name value w hok hm hn k0
    simpa only [okStm, k0, Bool.false_eq_true, ↓reduceIte] using this
  · have k0 := (Bool.not_eq_true _).mp h0
    by_cases h1 : (kind == 1) = true
    · have k1 := h1
      have := sStmt1 kind mod level name value w hok hm hn k0 k1
      simpa only [okStm, k0, k1, Bool.false_eq_true, ↓reduceIte] using this
    · have k1 := (Bool.not_eq_true _).mp h1
      by_cases h2 : (kind == 2) = true
      · have k2 := h2
        have := sStmt2 kind mod level name value w hok hm hn k0 k1 k2
        simpa only [okStm, k0, k1, k2, Bool.false_eq_true, ↓reduceIte] using this
      · have k2 := (Bool.not_eq_true _).mp h2
        by_cases h3 : (kind == 3) = true
        · have k3 := h3
          have := sStmt3 kind mod level name value w hok hm hn k0 k1 k2 k3
          simpa only [okStm, k0, k1, k2, k3, Bool.false_eq_true, ↓reduceIte] using this
        · have k3 := (Bool.not_eq_true _).mp h3
          by_cases h4 : (kind == 4) = true
          · have k4 := h4
            have := sStmt4 kind mod level name value w hok hm hn k0 k1 k2 k3 k4
            simpa only [okStm, k0, k1, k2, k3, k4, Bool.false_eq_true, ↓reduceIte] using this
          · have k4 := (Bool.not_eq_true _).mp h4
            by_cases h5 : (kind == 5) = true
            · have k5 := h5
              have := sStmt5 kind mod level name value w hok hm hn k0 k1 k2 k3 k4 k5
              simpa only [okStm, k0, k1, k2, k3, k4, k5, Bool.false_eq_true, ↓reduceIte] using this
            · have k5 := (Bool.not_eq_true _).mp h5
              have e : okStm ⟨kind, mod, level, name, value⟩ = false := by simp only [okStm, k0, k1, k2, k3, k4, k5, Bool.false_eq_true, ↓reduceIte]
              rw [e]
              exact sStmtX kind mod level name value w hok hm hn k0 k1 k2 k3 k4 k5
theorem istmtOk_any (s : Stm) (w : World) (hok : OkW w) (hm : s.mod.size ≤ 16777216) (hn : s.name.size ≤ 16777216) :
    Calls Tryd.prog 93 #[vSt s] w fun e w' => e = .returned (.bool (okStm s)) ∧ Gr w w' := by
  obtain ⟨kind, mod, level, name, value⟩ := s
  by_cases h0 : (kind == 0) = true
  · have k0 := h0
    have := iStmt0 kind mod level name value w hok hm hn k0
    simpa only [okStm, k0, Bool.false_eq_true, ↓reduceIte] using this
  · have k0 := (Bool.not_eq_true _).mp h0
    by_cases h1 : (kind == 1) = true
    · have k1 := h1
      have := iStmt1 kind mod level name value w hok hm hn k0 k1
      rw [isEmpty_toList] at this
      rw [okStm_one k0 k1, vPkg, isEmpty_toList]
      exact this
    · have k1 := (Bool.not_eq_true _).mp h1
      by_cases h2 : (kind == 2) = true
      · have k2 := h2
        have := iStmt2 kind mod level name value w hok hm hn k0 k1 k2
        simpa only [okStm, k0, k1, k2, Bool.false_eq_true, ↓reduceIte] using this
      · have k2 := (Bool.not_eq_true _).mp h2
        by_cases h3 : (kind == 3) = true
        · have k3 := h3
          have := iStmt3 kind mod level name value w hok hm hn k0 k1 k2 k3
          simpa only [okStm, k0, k1, k2, k3, Bool.false_eq_true, ↓reduceIte] using this
        · have k3 := (Bool.not_eq_true _).mp h3
          by_cases h4 : (kind == 4) = true
          · have k4 := h4
            have := iStmt4 kind mod level name value w hok hm hn k0 k1 k2 k3 k4
            simpa only [okStm, k0, k1, k2, k3, k4, Bool.false_eq_true, ↓reduceIte] using this
          · have k4 := (Bool.not_eq_true _).mp h4
            by_cases h5 : (kind == 5) = true
            · have k5 := h5
              have := iStmt5 kind mod level name value w hok hm hn k0 k1 k2 k3 k4 k5
              simpa only [okStm, k0, k1, k2, k3, k4, k5, Bool.false_eq_true, ↓reduceIte] using this
            · have k5 := (Bool.not_eq_true _).mp h5
              have e : okStm ⟨kind, mod, level, name, value⟩ = false := by simp only [okStm, k0, k1, k2, k3, k4, k5, Bool.false_eq_true, ↓reduceIte]
              rw [e]
              exact iStmtX kind mod level name value w hok hm hn k0 k1 k2 k3 k4 k5
theorem svalidBody_any {lo hi : Nat} (v : Value) (L : List Stm) (w : World) (hv : SlR w lo hi 5 eSt v L) (hhi : hi ≤ w.heap.size) (hsm : ∀ s ∈ L, szSt s ≤ 16777216) (hok : OkW w) :
    Calls Tryd.prog 56 #[v] w fun e w' => e = .returned (.bool (okBody L)) ∧ Gr w w' := by
  obtain ⟨a, c, rfl, h1, h2, h3⟩ := hv
  unfold maxLen at h2
  obtain ⟨R, hR⟩ : ∃ R, R = okBody L := ⟨_, rfl⟩
  rw [← hR]
  have HR := Lib.hid hR
  have HM := Lib.hid hsm
  clear hsm hR
  go_enter Tryd.func56, Tryd.ntmps56
  go_wp2
  go_loopw [3] (fun i wr => ∃ k : Nat, k ≤ L.length ∧ i = .int .i64 k ∧ (L.take k).all okStm = true ∧ Gr w wr) (fun i _ => L.length - (intOf i).toNat)
  case atStart => exact ⟨0, Nat.zero_le _, rfl, by simp, Gr.rfl' _⟩
  case round =>
    obtain ⟨k, hk, rfl, hall, hgr⟩ := hrel
    have H := Lib.hid hall
    have hokr := hok.gr hgr
    clear hall
    by_cases hlt : k < L.length
    · obtain ⟨b, o, rfl, hbb, hc⟩ := h3 k hlt
      obtain ⟨x, hx⟩ : ∃ x, x = L[k] := ⟨_, rfl⟩
      obtain ⟨c0, c1, c2, c3, c4⟩ := cells_stm (w := wr) (b := b) (o := o) (k := k) (x := x) (fun j u hu => (hgr.cell (p := ⟨b, o + k * 5 + j, none⟩) (Nat.lt_of_lt_of_le hbb.2 hhi)).trans (hc j u (by rw [← hx]; exact hu)))
      have hpl := HM.out L[k] (List.getElem_mem hlt)
      rw [← hx, szSt] at hpl
      have hat := all_take_succ okStm L k hlt
      rw [← hx] at hat
      have HX := Lib.hid hx
      have HA := Lib.hid hat
      have hst := svalidStmt_any x wr hokr (by omega) (by omega)
      clear hc h3 hat hx
      by_cases hv : okStm x = true
      · rw [hv] at hst
        go_wp2_with (go_at_call 82; refine hst.mono ?_; rintro e w2 ⟨rfl, hb2⟩)
        go_roundw
        case rel => exact ⟨k + 1, by omega, by go_num, by rw [HA.out, H.out, hv]; rfl, hgr.tr hb2⟩
        case measure => simp [intOf]; omega
      · have hv' : okStm x = false := (Bool.not_eq_true _).mp hv
        rw [hv'] at hst
        go_wp2_with (go_at_call 82; refine hst.mono ?_; rintro e w2 ⟨rfl, hb2⟩)
        go_ret
        exact ⟨ret_bool (by rw [HR.out, okBody, all_false_at _ _ k hlt (by rw [← HX.out]; exact hv')]; rfl), hgr.tr hb2⟩
    · have hall : L.all okStm = true := by rw [← List.take_of_length_le (show L.length ≤ k by omega)]; exact H.out
      have hfin : R = decide ((L.length : Int) ≤ 8) := by rw [HR.out, okBody, hall, Bool.true_and]
      have HF := Lib.hid hfin
      clear hall hfin
      go_wp2
      go_ret
      exact ⟨ret_bool (by rw [HF.out]), hgr⟩
theorem iValidBody_any {lo hi : Nat} (v : Value) (L : List Stm) (w : World) (hv : SlR w lo hi 5 eSt v L) (hhi : hi ≤ w.heap.size) (hsm : ∀ s ∈ L, szSt s ≤ 16777216) (hok : OkW w) :
    Calls Tryd.prog 68 #[v] w fun e w' => e = .returned (.bool (okBody L)) ∧ Gr w w' := by
  obtain ⟨a, c, rfl, h1, h2, h3⟩ := hv
  unfold maxLen at h2
  obtain ⟨R, hR⟩ : ∃ R, R = okBody L := ⟨_, rfl⟩
  rw [← hR]
  have HR := Lib.hid hR
  have HM := Lib.hid hsm
  clear hsm hR
  go_enter Tryd.func68, Tryd.ntmps68
  go_wp2
  go_loopw [7] (fun i wr => ∃ k : Nat, k ≤ L.length ∧ i = .int .i64 k ∧ (L.take k).all okStm = true ∧ Gr w wr) (fun i _ => L.length - (intOf i).toNat)
  case atStart => exact ⟨0, Nat.zero_le _, rfl, by simp, Gr.rfl' _⟩
  case round =>
    obtain ⟨k, hk, rfl, hall, hgr⟩ := hrel
    have H := Lib.hid hall
    have hokr := hok.gr hgr
    clear hall
    by_cases hlt : k < L.length
    · obtain ⟨b, o, rfl, hbb, hc⟩ := h3 k hlt
      obtain ⟨x, hx⟩ : ∃ x, x = L[k] := ⟨_, rfl⟩
      obtain ⟨c0, c1, c2, c3, c4⟩ := cells_stm (w := wr) (b := b) (o := o) (k := k) (x := x) (fun j u hu => (hgr.cell (p := ⟨b, o + k * 5 + j, none⟩) (Nat.lt_of_lt_of_le hbb.2 hhi)).trans (hc j u (by rw [← hx]; exact hu)))
      have hpl := HM.out L[k] (List.getElem_mem hlt)
      rw [← hx, szSt] at hpl
      have hat := all_take_succ okStm L k hlt
      rw [← hx] at hat
      have HX := Lib.hid hx
      have HA := Lib.hid hat
      have hst := fun W h => istmtOk_any x W h (by omega) (by omega)
      have hgs := hgr.size
      clear hc h3 hat hx
      by_cases hv : okStm x = true
      · rw [hv] at hst
        go_wp2_with (go_at_call 93; refine (hst _ (hokr.al _)).mono ?_; rintro e w2 ⟨rfl, hb2⟩)
        go_roundw
        case rel => exact ⟨k + 1, by omega, by go_num, by rw [HA.out, H.out, hv]; rfl, Gr.tr (hgr.alloc hgs _) hb2⟩
        case measure => simp [intOf]; omega
      · have hv' : okStm x = false := (Bool.not_eq_true _).mp hv
        rw [hv'] at hst
        go_wp2_with (go_at_call 93; refine (hst _ (hokr.al _)).mono ?_; rintro e w2 ⟨rfl, hb2⟩)
        go_ret
        exact ⟨ret_bool (by rw [HR.out, okBody, all_false_at _ _ k hlt (by rw [← HX.out]; exact hv')]; rfl), Gr.tr (hgr.alloc hgs _) hb2⟩
    · have hall : L.all okStm = true := by rw [← List.take_of_length_le (show L.length ≤ k by omega)]; exact H.out
      have hfin : R = decide ((L.length : Int) ≤ 8) := by rw [HR.out, okBody, hall, Bool.true_and]
      have HF := Lib.hid hfin
      clear hall hfin
      go_wp2
      go_ret
      exact ⟨ret_bool (by rw [HF.out]), hgr⟩
end Go.Proofs.YtomndnlpogikdaaDoor
