/-
  Walks of the laws on names that take strings alone.
-/
import Derived.Test.YtfjdmcbcojlnmaaDoorNamesB
namespace Go.Proofs.YtfjdmcbcojlnmaaDoor
open Go Go.RowKit Imp
set_option linter.unusedVariables false

theorem toList_refl (y : ByteArray) : (y.toList == y.toList) = true := beq_self_eq_true _

theorem walk_FnExactValidName (w : World) (hok : OkW w) (s : ByteArray) (hs : s.size ≤ maxLen) :
    Calls Tryd.prog 3 #[.string s] w fun e w' => e = .returned (.bool true) ∧ Below w.heap.size w w' := by
  unfold maxLen at hs
  by_cases hbig : s.size ≤ 1048576
  · go_enter Tryd.func3, Tryd.ntmps3
    go_wp2_with fail
    refine (sValidName_any _ _ (by omega)).mono ?_
    rintro e w1 ⟨rfl, hb1⟩
    go_wp2_with fail
    refine (iValidName_any _ _ (by omega) (hok.gr hb1)).mono ?_
    rintro e w2 ⟨rfl, hb2⟩
    go_wp2
    go_ret
    exact ⟨rfl, hb1.tr hb2⟩
  · go_enter Tryd.func3, Tryd.ntmps3
    go_wp2
    go_ret
    exact ⟨rfl, Below.refl _ _⟩
theorem walk_FnExactIsUnder (w : World) (hok : OkW w) (s : ByteArray) (hs : s.size ≤ maxLen) (p : ByteArray) (hp : p.size ≤ maxLen) :
    Calls Tryd.prog 4 #[.string s, .string p] w fun e w' => e = .returned (.bool true) ∧ Below w.heap.size w w' := by
  unfold maxLen at hs hp
  by_cases hbig : s.size ≤ 1048576
  · by_cases hbig2 : p.size ≤ 1048576
    · go_enter Tryd.func4, Tryd.ntmps4
      go_wp2_with fail
      refine (sIsUnder_any _ _ _ (by omega) (by omega)).mono ?_
      rintro e w1 ⟨rfl, hb1⟩
      go_wp2_with fail
      refine (iIsUnder_any _ _ _ (by omega) (by omega) (hok.gr hb1)).mono ?_
      rintro e w2 ⟨rfl, hb2⟩
      go_wp2
      go_ret
      exact ⟨rfl, hb1.tr hb2⟩
    · go_enter Tryd.func4, Tryd.ntmps4
      go_wp2
      go_ret
      exact ⟨rfl, Below.refl _ _⟩
  · go_enter Tryd.func4, Tryd.ntmps4
    go_wp2
    go_ret
    exact ⟨rfl, Below.refl _ _⟩
theorem walk_FnExactLastOf (w : World) (hok : OkW w) (s : ByteArray) (hs : s.size ≤ maxLen) :
    Calls Tryd.prog 7 #[.string s] w fun e w' => e = .returned (.bool true) ∧ Below w.heap.size w w' := by
  unfold maxLen at hs
  by_cases hbig : s.size ≤ 1048576
  · have h1 := fun w => sLastOf_any s w (by omega)
    have h2 := fun w h => iLastOf_any s w (by omega) h
    generalize mk (fLast (bs s)) = y at h1 h2
    have ht := toList_refl y
    go_enter Tryd.func7, Tryd.ntmps7
    go_wp2_with fail
    refine (h1 _).mono ?_
    rintro e w1 ⟨rfl, hb1⟩
    go_wp2_with fail
    refine (h2 _ (hok.gr hb1)).mono ?_
    rintro e w2 ⟨rfl, hb2⟩
    go_wp2
    go_ret
    exact ⟨rfl, hb1.tr hb2⟩
  · go_enter Tryd.func7, Tryd.ntmps7
    go_wp2
    go_ret
    exact ⟨rfl, Below.refl _ _⟩
theorem walk_FnExactParentOf (w : World) (hok : OkW w) (s : ByteArray) (hs : s.size ≤ maxLen) :
    Calls Tryd.prog 9 #[.string s] w fun e w' => e = .returned (.bool true) ∧ Below w.heap.size w w' := by
  unfold maxLen at hs
  by_cases hbig : s.size ≤ 1048576
  · have h1 := fun w => sParentOf_any s w (by omega)
    have h2 := fun w h => iParentOf_any s w (by omega) h
    generalize mk (fParent (bs s)) = y at h1 h2
    have ht := toList_refl y
    go_enter Tryd.func9, Tryd.ntmps9
    go_wp2_with fail
    refine (h1 _).mono ?_
    rintro e w1 ⟨rfl, hb1⟩
    go_wp2_with fail
    refine (h2 _ (hok.gr hb1)).mono ?_
    rintro e w2 ⟨rfl, hb2⟩
    go_wp2
    go_ret
    exact ⟨rfl, hb1.tr hb2⟩
  · go_enter Tryd.func9, Tryd.ntmps9
    go_wp2
    go_ret
    exact ⟨rfl, Below.refl _ _⟩
theorem walk_FnExactChildOf (w : World) (hok : OkW w) (p : ByteArray) (hp : p.size ≤ maxLen) (s : ByteArray) (hs : s.size ≤ maxLen) :
    Calls Tryd.prog 8 #[.string p, .string s] w fun e w' => e = .returned (.bool true) ∧ Below w.heap.size w w' := by
  unfold maxLen at hs hp
  by_cases hbig : p.size ≤ 1048576
  · by_cases hbig2 : s.size ≤ 1048576
    · have h1 := fun w => sChildOf_any p s w (by omega) (by omega)
      have h2 := fun w h => iChildOf_any p s w (by omega) (by omega) h
      generalize mk (fChild (bs p) (bs s)) = y at h1 h2
      have ht := toList_refl y
      go_enter Tryd.func8, Tryd.ntmps8
      go_wp2_with fail
      refine (h1 _).mono ?_
      rintro e w1 ⟨rfl, hb1⟩
      go_wp2_with fail
      refine (h2 _ (hok.gr hb1)).mono ?_
      rintro e w2 ⟨rfl, hb2⟩
      go_wp2
      go_ret
      exact ⟨rfl, hb1.tr hb2⟩
    · go_enter Tryd.func8, Tryd.ntmps8
      go_wp2
      go_ret
      exact ⟨rfl, Below.refl _ _⟩
  · go_enter Tryd.func8, Tryd.ntmps8
    go_wp2
    go_ret
    exact ⟨rfl, Below.refl _ _⟩
end Go.Proofs.YtfjdmcbcojlnmaaDoor
