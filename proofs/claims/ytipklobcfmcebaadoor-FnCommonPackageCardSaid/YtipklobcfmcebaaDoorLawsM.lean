/-
  Walks of the law on what two names have in common.
-/
import Derived.Test.YtipklobcfmcebaaDoorLawsJ
namespace Go.Proofs.YtipklobcfmcebaaDoor
open Go Go.RowKit Imp
set_option linter.unusedVariables false

theorem DrawCommonPackage_any {lo hi : Nat} (v : Value) (L : List UInt8) (w : World) (hv : SlR w lo hi 1 eB v L) (hhi : hi ≤ w.heap.size) (hl : L.length ≤ 1048576) :
    Calls Tryd.prog 15 #[v] w (DrawnSS w 7) := by
  have h := DrawRelativeName_any v L w hv hhi hl
  go_enter Tryd.func15, Tryd.ntmps15
  go_wp2_with fail
  refine h.mono ?_
  rintro e w1 ⟨s, t, rfl, hs, ht, hb⟩
  go_wp2
  go_ret2
  exact ⟨s, t, rfl, hs, ht, hb⟩
theorem walk_FnCommonPackage (w : World) (hok : OkW w) (v : Value) (L : List UInt8) (hv : SlR w 0 w.heap.size 1 eB v L) :
    Calls Tryd.prog 3 #[v] w fun e w' => e = .returned (.bool true) ∧ Below w.heap.size w w' := by
  have hlen := hv.len_le
  have hv0 := hv
  obtain ⟨a, c, rfl, _, _⟩ := hv.form
  unfold maxLen at hlen
  by_cases hbig : L.length ≤ 1048576
  · have hd : decide ((1048576 : Int) < (L.length : Int)) = false := decide_eq_false (by omega)
    go_enter Tryd.func3, Tryd.ntmps3
    go_wp2_with fail
    refine (DrawCommonPackage_any _ L _ hv0 (Nat.le_refl _) hbig).mono ?_
    rintro e w1 ⟨x, y, rfl, hx, hy, hb1⟩
    have hok := hok.gr hb1
    have hgr := hb1
    have h1 := fun w => sCommonPackage_any x y w (by omega) (by omega)
    have h2 := fun w h => iCommonPackage_any x y w (by omega) (by omega) h
    have h3 := fun w h => iCommonPackage_any y x w (by omega) (by omega) h
    have h4 := fun w h => iValidName_any x w (by omega) h
    have h5 := fun w h => iValidName_any y w (by omega) h
    obtain ⟨R, hR⟩ : ∃ R, R = mk (fCommon (bs x) (bs y)) := ⟨_, rfl⟩
    rw [← hR] at h1 h2
    have q1 := beq_same R
    have q2 := bne_same R
    by_cases hn : vName (bs x) = true
    · rw [hn] at h4
      by_cases hm : vName (bs y) = true
      · rw [hm] at h5
        rw [common_sym hn hm, ← hR] at h3
        have hRb : bs R = fCommon (bs x) (bs y) := by rw [hR]
        obtain ⟨u1, u2, u3⟩ := common_under hn hm
        have hRs : R.size ≤ 11 := by have := vPkg_length u3; rw [← hRb, bs_length] at this; exact this
        rw [← hRb] at u1 u2
        have h6 := fun w h => iIsUnder_any x R w (by omega) (by omega) h
        have h7 := fun w h => iIsUnder_any y R w (by omega) (by omega) h
        rw [u1] at h6
        rw [u2] at h7
        have h8 := fun w h => iNamesAbove_any x w (by omega) h
        obtain ⟨hl3, hA⟩ := fAbove_small (bs x)
        have hlong : ∀ n ∈ fAbove (bs x), fUnder (bs y) n = true → n.length ≤ R.size := by
          intro n hnm hu
          have := common_longest hn hnm hu
          rw [← hRb, bs_length] at this; exact this
        generalize fAbove (bs x) = A at h8 hl3 hA hlong
        have HA := Lib.hid hA
        have HLo := Lib.hid hlong
        clear hR hRb u1 u2 u3 hA hlong hn hm
        go_wp2_with fail
        refine (h2 _ hok).mono ?_
        rintro e w2 ⟨rfl, hb2⟩
        have hok := hok.gr hb2
        have hgr := hgr.tr hb2
        go_wp2_with fail
        refine (h1 _).mono ?_
        rintro e w3 ⟨rfl, hb3⟩
        have hok := hok.gr hb3
        have hgr := hgr.tr hb3
        go_wp2_with fail
        refine (h4 _ hok).mono ?_
        rintro e w4 ⟨rfl, hb4⟩
        have hok := hok.gr hb4
        have hgr := hgr.tr hb4
        go_wp2_with fail
        refine (h5 _ hok).mono ?_
        rintro e w5 ⟨rfl, hb5⟩
        have hok := hok.gr hb5
        have hgr := hgr.tr hb5
        go_wp2_with fail
        refine (h8 _ hok).mono ?_
        rintro e w6 ⟨v6, rfl, o6, hb6⟩
        have hok := hok.gr hb6
        have hgr := hgr.tr hb6
        have r6 := o6.reads (fun _ _ => rfl)
        obtain ⟨a6, c6, rfl, _, _⟩ := o6.form
        have R6 := Lib.hid r6
        clear o6 r6
        go_wp2
        go_loopw [7] (fun i wr => ∃ k : Nat, k ≤ A.length ∧ i = .int .i64 k ∧ Gr w6 wr ∧ OkW wr) (fun i _ => A.length - (intOf i).toNat)
        case atStart => exact ⟨0, Nat.zero_le _, rfl, Gr.rfl' _, hok⟩
        case round =>
          obtain ⟨k, hk, rfl, hg7, hok7⟩ := hrel
          by_cases hlt : k < A.length
          · have hki : (k : Int) < (A.length : Int) := by omega
            obtain ⟨b, o, rfl, hbb, c0⟩ := slr_cell (R6.out.below hg7 (Nat.le_refl _)) hlt
            have hgs := hg7.size
            have hcell := fun W (h : Gr wr W) => gr_cell h (Nat.lt_of_lt_of_le hbb hgs) c0
            have hmem := List.getElem_mem hlt
            obtain ⟨hl11, hnn⟩ := HA.out _ hmem
            have hlo := HLo.out _ hmem
            obtain ⟨z, hz⟩ : ∃ z, z = mk A[k] := ⟨_, rfl⟩
            have hzb : bs z = A[k] := by rw [hz]
            rw [← hz] at c0 hcell
            rw [← hzb, bs_length] at hlo hl11
            have hu := fun w h => iIsUnder_any y z w (by omega) (by omega) h
            have HC := Lib.hid hcell
            have HLo2 := Lib.hid hlo
            clear hcell hmem hnn hz hzb hlo
            by_cases hun : fUnder (bs y) (bs z) = true
            · rw [hun] at hu
              have hle := HLo2.out hun
              have hle2 : ¬ (R.size : Int) < (z.size : Int) := by omega
              clear hun HLo2
              go_wp2_with fail
              refine (hu _ hok7).mono ?_
              rintro e w8 ⟨rfl, hb8⟩
              have c1 := HC.out _ hb8
              go_wp2
              go_roundw
              case rel => exact ⟨k + 1, by omega, by go_num, hg7.tr hb8, hok7.gr hb8⟩
              case measure => simp [intOf]; omega
            · rw [(Bool.not_eq_true _).mp hun] at hu
              clear hun HLo2
              go_wp2_with fail
              refine (hu _ hok7).mono ?_
              rintro e w8 ⟨rfl, hb8⟩
              go_wp2
              go_roundw
              case rel => exact ⟨k + 1, by omega, by go_num, hg7.tr hb8, hok7.gr hb8⟩
              case measure => simp [intOf]; omega
          · have hgr := hgr.tr hg7
            have hok := hok7
            go_wp2_with fail
            refine (h3 _ hok).mono ?_
            rintro e w10 ⟨rfl, hb10⟩
            have hok := hok.gr hb10
            have hgr := hgr.tr hb10
            go_wp2_with fail
            refine (h6 _ hok).mono ?_
            rintro e w11 ⟨rfl, hb11⟩
            have hok := hok.gr hb11
            have hgr := hgr.tr hb11
            go_wp2_with fail
            refine (h7 _ hok).mono ?_
            rintro e w12 ⟨rfl, hb12⟩
            have hok := hok.gr hb12
            have hgr := hgr.tr hb12
            go_wp2
            go_ret
            exact ⟨rfl, hgr⟩
      · rw [(Bool.not_eq_true _).mp hm] at h5
        clear hR hn hm
        go_wp2_with fail
        refine (h2 _ hok).mono ?_
        rintro e w2 ⟨rfl, hb2⟩
        have hok := hok.gr hb2
        have hgr := hgr.tr hb2
        go_wp2_with fail
        refine (h1 _).mono ?_
        rintro e w3 ⟨rfl, hb3⟩
        have hok := hok.gr hb3
        have hgr := hgr.tr hb3
        go_wp2_with fail
        refine (h4 _ hok).mono ?_
        rintro e w4 ⟨rfl, hb4⟩
        have hok := hok.gr hb4
        have hgr := hgr.tr hb4
        go_wp2_with fail
        refine (h5 _ hok).mono ?_
        rintro e w5 ⟨rfl, hb5⟩
        have hok := hok.gr hb5
        have hgr := hgr.tr hb5
        go_wp2_with fail
        refine (h1 _).mono ?_
        rintro e w6 ⟨rfl, hb6⟩
        have hok := hok.gr hb6
        have hgr := hgr.tr hb6
        go_wp2
        go_ret
        exact ⟨rfl, hgr⟩
    · rw [(Bool.not_eq_true _).mp hn] at h4
      clear hR hn
      go_wp2_with fail
      refine (h2 _ hok).mono ?_
      rintro e w2 ⟨rfl, hb2⟩
      have hok := hok.gr hb2
      have hgr := hgr.tr hb2
      go_wp2_with fail
      refine (h1 _).mono ?_
      rintro e w3 ⟨rfl, hb3⟩
      have hok := hok.gr hb3
      have hgr := hgr.tr hb3
      go_wp2_with fail
      refine (h4 _ hok).mono ?_
      rintro e w4 ⟨rfl, hb4⟩
      have hok := hok.gr hb4
      have hgr := hgr.tr hb4
      go_wp2_with fail
      refine (h1 _).mono ?_
      rintro e w5 ⟨rfl, hb5⟩
      have hok := hok.gr hb5
      have hgr := hgr.tr hb5
      go_wp2
      go_ret
      exact ⟨rfl, hgr⟩
  · go_enter Tryd.func3, Tryd.ntmps3
    go_wp2
    go_ret
    exact ⟨rfl, Below.refl _ _⟩
end Go.Proofs.YtipklobcfmcebaaDoor
