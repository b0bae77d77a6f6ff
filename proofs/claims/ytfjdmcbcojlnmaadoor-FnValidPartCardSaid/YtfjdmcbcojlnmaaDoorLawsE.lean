/-
  Walks of the laws on drawn parts and names.
-/
import Derived.Test.YtfjdmcbcojlnmaaDoorDraw
import Derived.Test.YtfjdmcbcojlnmaaDoorLawsD
namespace Imp
open Go
theorem spl_part {l : List UInt8} (h : vPart l = true) : spl l = [l] := spl_nodot (vPart_noDot h)
theorem vName_part {l : List UInt8} (h : vPart l = true) : vName l = true := by
  unfold vName; rw [spl_part h]; simp [h]
theorem fParts_part {l : List UInt8} (h : vPart l = true) : fParts l = [l] := by
  unfold fParts; rw [vName_part h, spl_part h]; rfl
theorem vPart_dot (l : List UInt8) : vPart (l ++ [46]) = false := by
  cases h : vPart (l ++ [46])
  · rfl
  · exact absurd (by simp) (vPart_noDot h)
end Imp
namespace Go.Proofs.YtfjdmcbcojlnmaaDoor
open Go Go.RowKit Imp
set_option linter.unusedVariables false

theorem sValidPart2_any (s : ByteArray) (w : World) (hs : s.size ≤ maxLen) :
    Calls Tryd.prog 20 #[.string s] w fun e w' => e = .returned (.bool (vPart (bs s))) ∧ w = w' := by
  go_enter Tryd.func20, Tryd.ntmps20
  go_wp2_with (go_at_call 50; refine (svalidPart_any _ _ hs).mono ?_; rintro e w' ⟨rfl, rfl⟩)
  go_ret
  exact ⟨rfl, rfl⟩
theorem walk_FnValidPart (w : World) (hok : OkW w) (v : Value) (L : List UInt8) (hv : SlR w 0 w.heap.size 1 eB v L) :
    Calls Tryd.prog 6 #[v] w fun e w' => e = .returned (.bool true) ∧ Below w.heap.size w w' := by
  have hlen := hv.len_le
  have hv0 := hv
  obtain ⟨a, c, rfl, _, _⟩ := hv.form
  unfold maxLen at hlen
  by_cases hbig : L.length ≤ 1048576
  · have hd : decide ((1048576 : Int) < (L.length : Int)) = false := decide_eq_false (by omega)
    go_enter Tryd.func6, Tryd.ntmps6
    go_wp2_with fail
    refine (DrawValidPart_any _ L _ hv0 (Nat.le_refl _) hbig).mono ?_
    rintro e w1 ⟨s, rfl, hs, hb1⟩
    have hok := hok.gr hb1
    have hsm : s.size ≤ maxLen := by unfold maxLen; omega
    go_wp2_with fail
    refine (iValidPart_any s _ hsm).mono ?_
    rintro e w2 ⟨rfl, rfl⟩
    by_cases hp : vPart (bs s) = true
    · go_wp2_with fail
      refine (sValidPart2_any s _ hsm).mono ?_
      rintro e w2 ⟨rfl, rfl⟩
      go_wp2_with fail
      refine (iValidName_any s _ (by omega) hok).mono ?_
      rintro e w3 ⟨rfl, hb3⟩
      have hok := hok.gr hb3
      have hn := vName_part hp
      have hd := vPart_dot (bs s)
      have e46 : bs s ++ [46] = bs (s ++ ⟨#[46]⟩) := (bs_append s ⟨#[46]⟩).symm
      rw [e46] at hd
      obtain ⟨t, ht⟩ : ∃ t, t = s ++ ⟨#[46]⟩ := ⟨_, rfl⟩
      have hts : t.size ≤ maxLen := by rw [ht, ByteArray.size_append]; have e : (⟨#[46]⟩ : ByteArray).size = 1 := rfl; unfold maxLen; omega
      rw [← ht] at hd
      have HT := Lib.hid ht
      clear ht e46
      go_wp2_with fail
      rw [← HT.out]
      refine (iValidPart_any t _ hts).mono ?_
      rintro e w4 ⟨rfl, rfl⟩
      go_wp2_with fail
      refine (iPartsOf_any s _ (by omega) hok).mono ?_
      rintro e w5 ⟨v5, rfl, o5, hb5⟩
      rw [fParts_part hp] at o5
      obtain ⟨a5, c5, rfl, _, _⟩ := o5.form
      go_wp2
      go_ret
      exact ⟨rfl, (hb1.tr hb3).tr hb5⟩
    · have hp' : vPart (bs s) = false := (Bool.not_eq_true _).mp hp
      go_wp2_with fail
      refine (sValidPart2_any s _ hsm).mono ?_
      rintro e w2 ⟨rfl, rfl⟩
      go_wp2_with fail
      refine (sValidPart2_any s _ hsm).mono ?_
      rintro e w2 ⟨rfl, rfl⟩
      go_wp2
      go_ret
      exact ⟨rfl, hb1⟩
  · go_enter Tryd.func6, Tryd.ntmps6
    go_wp2
    go_ret
    exact ⟨rfl, Below.refl _ _⟩
end Go.Proofs.YtfjdmcbcojlnmaaDoor
