/-
  Walks: what is compiled of a file, in both packages, and compiled files compared. Printed by compc.py.
-/
import Derived.Test.YtbknhodjcgnfnaaDoorCompZ
namespace Imp
open Go Go.RowKit
theorem fSize_at {L : List Stm} (h : okBody L = true) : fSize L = ((3 * L.length + totB L : Nat) : Int) := by unfold fSize; rw [if_pos h]
theorem fHash_at {L : List Stm} (h : okBody L = true) : fHash L = hashP L := by unfold fHash; rw [if_pos h]
theorem fCompile_ok {f : Fil} {mode : Int} (h : okFil f = true) (h1 : 0 ≤ mode) (h2 : mode ≤ 2) : fCompile f mode = cmpOf f mode := by
  unfold fCompile; rw [h, decide_eq_true h1, decide_eq_true h2]; rfl
theorem fCompile_bad {f : Fil} {mode : Int} (h : okFil f = false) : fCompile f mode = noCmp := by
  unfold fCompile; rw [h]; rfl
theorem fCompile_mode {f : Fil} {mode : Int} (h : ¬ (0 ≤ mode ∧ mode ≤ 2)) : fCompile f mode = noCmp := by
  unfold fCompile
  rw [if_neg]
  simp only [Bool.and_eq_true, decide_eq_true_eq]
  exact fun hh => h hh.2
theorem fCompile_len (f : Fil) (mode : Int) : (fCompile f mode).body.length ≤ f.body.length := by
  unfold fCompile
  split
  · exact Nat.le_refl _
  · exact Nat.zero_le _
end Imp
namespace Go.Proofs.YtbknhodjcgnfnaaDoor
open Go Go.RowKit Imp
set_option linter.unusedVariables false
set_option linter.unusedSimpArgs false
theorem imodeOk_any (mode : Int) (w : World) :
    Calls Tryd.prog 18 #[.int .i64 mode] w fun e w' => e = .returned (.bool (decide (0 ≤ mode) && decide (mode ≤ 2))) ∧ w = w' := by
  go_enter Tryd.func18, Tryd.ntmps18
  go_wp2_with fail
  refine (within_any _ _ _ _).mono ?_
  rintro e w' ⟨rfl, rfl⟩
  go_wp2
  go_ret
  exact ⟨rfl, rfl⟩
end Go.Proofs.YtbknhodjcgnfnaaDoor
