/-
  Walks on names, further: names resolved, relative names, names above, the package in common.
-/
import Derived.Test.YtajbamcfkgkhpaaDoorNamesC
namespace Imp
open Go
theorem relP_nil (n lev : Nat) (s : List UInt8) : relP n lev [] s = (0, []) := by cases n <;> rfl
theorem relP_step {n lev : Nat} {p s : List UInt8} (h : p.isEmpty = false) : relP (n + 1) lev p s = if underP s p then (lev, (s.drop p.length).drop 1) else relP n (lev + 1) (parentP p) s := by
  rw [relP, h]; rfl
/-- How far a relative name's walk has come: the package at hand and what is left to look at. -/
def RelAt (p s x : List UInt8) (n lev : Nat) : Prop := (x = [] ∨ (vName x = true ∧ (spl x).length ≤ n)) ∧ relP n lev x s = relP 3 1 p s ∧ lev + n = 4
theorem RelAt.start {p s : List UInt8} (h : vName p = true) : RelAt p s p 3 1 := ⟨.inr ⟨h, (vName_parts h).1⟩, rfl, rfl⟩
theorem RelAt.step {p s x : List UInt8} {n lev : Nat} (h : RelAt p s x n lev) (hx : x.isEmpty = false) (hu : underP s x = false) : ∃ m, n = m + 1 ∧ RelAt p s (parentP x) m (lev + 1) := by
  obtain ⟨h1, h2, h3⟩ := h
  rcases h1 with h1 | ⟨h1, h4⟩
  · subst h1; cases hx
  · have hp := spl_pos x
    obtain ⟨m, rfl⟩ : ∃ m, n = m + 1 := ⟨n - 1, by omega⟩
    refine ⟨m, rfl, ?_, ?_, by omega⟩
    · rcases vName_cases h1 with ⟨_, e, _⟩ | ⟨e1, _, _, e4⟩
      · exact .inl e
      · exact .inr ⟨e1, by omega⟩
    · rw [← h2, relP_step hx, hu]; rfl
theorem RelAt.found {p s x : List UInt8} {n lev : Nat} (h : RelAt p s x n lev) (hx : x.isEmpty = false) (hu : underP s x = true) : relP 3 1 p s = (lev, (s.drop x.length).drop 1) := by
  obtain ⟨h1, h2, h3⟩ := h
  rcases h1 with h1 | ⟨h1, h4⟩
  · subst h1; cases hx
  · have hp := spl_pos x
    obtain ⟨m, rfl⟩ : ∃ m, n = m + 1 := ⟨n - 1, by omega⟩
    rw [← h2, relP_step hx, hu]; rfl
theorem RelAt.done {p s x : List UInt8} {n lev : Nat} (h : RelAt p s x n lev) (hx : x.isEmpty = true) : relP 3 1 p s = (0, []) := by
  have := h.2.1
  rw [List.isEmpty_iff.1 hx, relP_nil] at this
  exact this.symm
theorem RelAt.pkg {p s x : List UInt8} {n lev : Nat} (h : RelAt p s x n lev) : vPkg x = true := by
  rcases h.1 with h1 | ⟨h1, _⟩
  · subst h1; rfl
  · unfold vPkg; rw [h1, Bool.or_true]
def fRelV (p s : List UInt8) : Nat × List UInt8 := if vName p && vName s then relP 3 1 p s else (0, [])
end Imp
namespace Go.Proofs.YtajbamcfkgkhpaaDoor
open Go Go.RowKit Imp
set_option linter.unusedVariables false

theorem iResolveName_any (p : ByteArray) (level : Int) (s : ByteArray) (w : World) (hp : p.size ≤ 4194304) (hs : s.size ≤ 4194304) (hok : OkW w) :
    Calls Tryd.prog 26 #[.string p, .int .i64 level, .string s] w fun e w' => e = .returned (.string (mk (fRes (bs p) level (bs s)))) ∧ Gr w w' := by
  by_cases h1 : vPkg (bs p) = true
  · by_cases h2 : vPkg (bs s) = true
    · by_cases h3 : (decide (0 ≤ level) && decide (level ≤ 4)) = true
      · have hl : 0 ≤ level ∧ level ≤ 4 := by simpa using h3
        obtain ⟨n, rfl⟩ : ∃ n : Nat, level = n := ⟨level.toNat, by omega⟩
        have hf : fRes (bs p) n (bs s) = if vName (resP (bs p) n (bs s)) then resP (bs p) n (bs s) else [] := by
          rw [fRes, okRes, h1, h2, h3]; rfl
        obtain ⟨R, hR⟩ : ∃ R, R = mk (fRes (bs p) n (bs s)) := ⟨_, rfl⟩
        rw [← hR]
        have hff := hR.trans (congrArg mk hf)
        clear hf hR
        have hss : s.size ≤ 11 := by have := vPkg_length h2; rw [bs_length] at this; exact this
        by_cases h0 : n = 0
        · have hRs : R = s := by
            rw [hff, h0]
            rcases vPkg_cases h2 with h | h
            · rw [show resP (bs p) 0 (bs s) = bs s from rfl, h]
              exact (eq_mk h).symm
            · rw [show resP (bs p) 0 (bs s) = bs s from rfl, h, if_pos rfl, mk_bs]
          subst h0
          have HR := Lib.hid hRs
          clear hff hRs
          go_enter Tryd.func26, Tryd.ntmps26
          go_wp2_with fail
          refine (ipackageOk_any _ _ (by omega) hok).mono ?_
          rintro e w1 ⟨rfl, hb1⟩
          go_wp2_with fail
          refine (ipackageOk_any _ _ (by omega) (hok.gr hb1)).mono ?_
          rintro e w2 ⟨rfl, hb2⟩
          go_wp2_with fail
          refine (within_any _ _ _ _).mono ?_
          rintro e w3 ⟨rfl, rfl⟩
          go_wp2
          go_ret
          exact ⟨ret_str HR.out.symm, hb1.tr hb2⟩
        · have h0' : ((n : Int) == 0) = false := by rw [beq_eq_false_iff_ne]; omega
          have hres : resP (bs p) n (bs s) = if (upP (n - 1) (bs p)).isEmpty then [] else resP.childD (upP (n - 1) (bs p)) (bs s) := by rw [resP, if_neg h0]
          rw [hres] at hff
          have HF := Lib.hid hff
          have hes := isEmpty_toList s
          have hes2 : s.data.isEmpty = s.toList.isEmpty := by rw [isEmpty_toList]; simp [bs]
          clear hff hres
          go_enter Tryd.func26, Tryd.ntmps26
          go_wp2_with fail
          refine (ipackageOk_any _ _ (by omega) hok).mono ?_
          rintro e w1 ⟨rfl, hb1⟩
          go_wp2_with fail
          refine (ipackageOk_any _ _ (by omega) (hok.gr hb1)).mono ?_
          rintro e w2 ⟨rfl, hb2⟩
          go_wp2_with fail
          refine (within_any _ _ _ _).mono ?_
          rintro e w3 ⟨rfl, rfl⟩
          go_wp2
          have hb2' := hb1.tr hb2
          go_loopw [0, 1] (fun x i wr => ∃ j : Nat, ∃ y : ByteArray, 1 ≤ j ∧ j ≤ n ∧ i = .int .i64 j ∧ x = .string y ∧ vPkg (bs y) = true ∧ upP (j - 1) (bs y) = upP (n - 1) (bs p) ∧ Gr w wr) (fun _ i _ => (intOf i).toNat)
          case atStart => exact ⟨n, p, by omega, Nat.le_refl _, rfl, rfl, h1, rfl, hb2'⟩
          case round =>
            obtain ⟨j, y, hj1, hj, rfl, rfl, hy, hup, hgr⟩ := hrel
            have HU := Lib.hid hup
            have hys : y.size ≤ 11 := by have := vPkg_length hy; rw [bs_length] at this; exact this
            have hey := isEmpty_toList y
            clear hup
            have hokr := hok.gr hgr
            by_cases he : (bs y).isEmpty = true
            · rw [he] at hey
              have hy0 : bs y = [] := List.isEmpty_iff.1 he
              have hRn : R = ⟨#[]⟩ := by rw [HF.out, ← HU.out, hy0, upP_nil]; rfl
              have HRN := Lib.hid hRn
              clear hRn hy0 he
              by_cases hlt : 1 < (j : Int)
              · go_wp2
                go_ret
                exact ⟨ret_str HRN.out.symm, hgr⟩
              · go_wp2
                go_ret
                exact ⟨ret_str HRN.out.symm, hgr⟩
            · have he' : (bs y).isEmpty = false := (Bool.not_eq_true _).mp he
              rw [he'] at hey
              have hyn : vName (bs y) = true := by
                rcases vPkg_cases hy with h | h
                · rw [h] at he'; cases he'
                · exact h
              by_cases hlt : 1 < (j : Int)
              · go_wp2_with fail
                refine (iParentOf_any y _ (by omega) hokr).mono ?_
                rintro e w4 ⟨rfl, hb4⟩
                go_wp2
                go_roundw
                case rel =>
                  refine ⟨j - 1, mk (fParent (bs y)), by omega, by omega, by go_num, rfl, ?_, ?_, hgr.tr hb4⟩
                  · rw [bs_mk, fParent, hyn, if_pos rfl]; exact parent_pkg hyn
                  · rw [bs_mk, fParent, hyn, if_pos rfl, ← HU.out]
                    conv => rhs; rw [show j - 1 = (j - 1 - 1) + 1 by omega]
                    rfl
                case measure => simp [intOf]; omega
              · have hj1' : j = 1 := by omega
                subst hj1'
                have hRy : R = mk (if vName (resP.childD (bs y) (bs s)) then resP.childD (bs y) (bs s) else []) := by
                  rw [HF.out, ← HU.out, show upP (1 - 1) (bs y) = bs y from rfl, he']; rfl
                by_cases hse : (bs s).isEmpty = true
                · have hRy2 : R = y := by rw [hRy, resP.childD, hse, if_pos rfl, hyn, if_pos rfl, mk_bs]
                  have HRY := Lib.hid hRy2
                  rw [hse] at hes
                  clear hRy hRy2 hse
                  go_wp2_with fail
                  refine (iValidName_any y _ (by omega) hokr).mono ?_
                  rintro e w4 ⟨rfl, hb4⟩
                  go_wp2
                  go_ret
                  exact ⟨ret_str HRY.out.symm, hgr.tr hb4⟩
                · have hse' : (bs s).isEmpty = false := (Bool.not_eq_true _).mp hse
                  rw [hse'] at hes
                  obtain ⟨z, hz⟩ : ∃ z, z = y ++ (⟨#[46]⟩ ++ s) := ⟨_, rfl⟩
                  have hzb : bs z = bs y ++ 46 :: bs s := by rw [hz, bs_append, bs_append]; rfl
                  have hzs : z.size ≤ 16777216 := by rw [hz, ByteArray.size_append, ByteArray.size_append]; have e : (⟨#[46]⟩ : ByteArray).size = 1 := rfl; omega
                  have hRz : R = mk (if vName (bs z) then bs z else []) := by rw [hRy, resP.childD, hse', hzb]; rfl
                  have HRZ := Lib.hid hRz
                  have HZ := Lib.hid hz
                  clear hRy hRz hz hzb hse hse'
                  by_cases hn : vName (bs z) = true
                  · go_wp2_with fail
                    rw [← HZ.out]
                    refine (iValidName_any z _ hzs hokr).mono ?_
                    rintro e w4 ⟨rfl, hb4⟩
                    go_wp2
                    go_ret
                    exact ⟨ret_str (by rw [HRZ.out, hn, if_pos rfl, mk_bs]), hgr.tr hb4⟩
                  · have hn' : vName (bs z) = false := (Bool.not_eq_true _).mp hn
                    go_wp2_with fail
                    rw [← HZ.out]
                    refine (iValidName_any z _ hzs hokr).mono ?_
                    rintro e w4 ⟨rfl, hb4⟩
                    go_wp2
                    go_ret
                    exact ⟨ret_str (by rw [HRZ.out, hn']; rfl), hgr.tr hb4⟩
      · have h3' : (decide (0 ≤ level) && decide (level ≤ 4)) = false := (Bool.not_eq_true _).mp h3
        rw [okRes_bad3 h3']
        go_enter Tryd.func26, Tryd.ntmps26
        go_wp2_with fail
        refine (ipackageOk_any _ _ (by omega) hok).mono ?_
        rintro e w1 ⟨rfl, hb1⟩
        go_wp2_with fail
        refine (ipackageOk_any _ _ (by omega) (hok.gr hb1)).mono ?_
        rintro e w2 ⟨rfl, hb2⟩
        go_wp2_with fail
        refine (within_any _ _ _ _).mono ?_
        rintro e w3 ⟨rfl, rfl⟩
        rw [h3']
        go_wp2
        go_ret
        exact ⟨rfl, hb1.tr hb2⟩
    · have h2' : vPkg (bs s) = false := (Bool.not_eq_true _).mp h2
      rw [okRes_bad2 h2']
      go_enter Tryd.func26, Tryd.ntmps26
      go_wp2_with fail
      refine (ipackageOk_any _ _ (by omega) hok).mono ?_
      rintro e w1 ⟨rfl, hb1⟩
      go_wp2_with fail
      refine (ipackageOk_any _ _ (by omega) (hok.gr hb1)).mono ?_
      rintro e w2 ⟨rfl, hb2⟩
      go_wp2
      go_ret
      exact ⟨rfl, hb1.tr hb2⟩
  · have h1' : vPkg (bs p) = false := (Bool.not_eq_true _).mp h1
    rw [okRes_bad1 h1']
    go_enter Tryd.func26, Tryd.ntmps26
    go_wp2_with fail
    refine (ipackageOk_any _ _ (by omega) hok).mono ?_
    rintro e w1 ⟨rfl, hb1⟩
    go_wp2
    go_ret
    exact ⟨rfl, hb1⟩
end Go.Proofs.YtajbamcfkgkhpaaDoor
