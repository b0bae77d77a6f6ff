/-
  Walks of the laws that take strings alone, over a seat without package variables.
-/
import Derived.Test.YtfjdmcbcojlnmaaPathA
namespace Go.Proofs.Ytfjdmcbcojlnmaa
open Go Go.RowKit Imp

theorem sValidPart_any (s : ByteArray) (w : World) (hs : s.size ≤ maxLen) :
    Calls Try.prog 7 #[.string s] w fun e w' => e = .returned (.bool (vPart (bs s))) ∧ w = w' := by
  go_enter Try.func7, Try.ntmps7
  go_wp2_with (go_at_call 14; refine (svalidPart_any _ _ hs).mono ?_; rintro e w' ⟨rfl, rfl⟩)
  go_ret
  exact ⟨rfl, rfl⟩
theorem walk_FnExactConstants (w : World) :
    Calls Try.prog 3 #[] w fun e w' => e = .returned (.bool true) ∧ Below w.heap.size w w' := by
  go_enter Try.func3, Try.ntmps3
  go_wp2
  go_ret
  exact ⟨rfl, Below.refl _ _⟩
theorem walk_FnExactValidPart (w : World) (s : ByteArray) (hs : s.size ≤ maxLen) :
    Calls Try.prog 4 #[.string s] w fun e w' => e = .returned (.bool true) ∧ Below w.heap.size w w' := by
  have hs' := hs
  unfold maxLen at hs
  by_cases hbig : s.size ≤ 1048576
  · go_enter Try.func4, Try.ntmps4
    go_wp2_with (first
      | (go_at_call 7; refine (sValidPart_any _ _ hs').mono ?_; rintro e w' ⟨rfl, rfl⟩)
      | (go_at_call 8; refine (iValidPart_any _ _ hs').mono ?_; rintro e w' ⟨rfl, rfl⟩))
    go_ret
    exact ⟨rfl, Below.refl _ _⟩
  · go_enter Try.func4, Try.ntmps4
    go_wp2
    go_ret
    exact ⟨rfl, Below.refl _ _⟩
theorem walk_FnExactValidPath (w : World) (v : Value) (L : List Int) (hv : SlR w 0 w.heap.size 1 eI v L) :
    Calls Try.prog 5 #[v] w fun e w' => e = .returned (.bool true) ∧ Below w.heap.size w w' := by
  have hlen := hv.len_le
  have hv0 := hv
  obtain ⟨a, c, rfl, _, _, _⟩ := hv
  unfold maxLen at hlen
  by_cases hbig : L.length ≤ 1048576
  · go_enter Try.func5, Try.ntmps5
    go_wp2_with fail
    refine (toIntS_any _ L _ hv0 (Nat.le_refl _) hbig).mono ?_
    rintro e w1 ⟨u1, rfl, hu1, hb1⟩
    go_wp2_with fail
    refine (sValidPath_any _ L _ hu1).mono ?_
    rintro e w2 ⟨rfl, n2, rfl⟩
    have hb2 := below_drewN hb1 n2
    go_wp2_with fail
    refine (toIntS_any _ L _ (hv0.below hb2 (Nat.le_refl _)) hb2.size hbig).mono ?_
    rintro e w3 ⟨u3, rfl, hu3, hb3⟩
    have hb3' := hb2.trans (hb3.mono hb2.size)
    clear hb2
    go_wp2_with fail
    refine (iValidPath_any _ L _ hu3).mono ?_
    rintro e w4 ⟨rfl, rfl⟩
    go_wp2_with fail
    refine (toIntS_any _ L _ (hv0.below hb3' (Nat.le_refl _)) hb3'.size hbig).mono ?_
    rintro e w5 ⟨u5, rfl, hu5, hb5⟩
    go_wp2_with fail
    refine (eqIntS_any _ _ L L _ (hu3.below hb5 (Nat.le_refl _)) hu5).mono ?_
    rintro e w6 ⟨rfl, n6, rfl⟩
    go_wp2
    go_ret
    exact ⟨rfl, below_drewN (hb3'.trans (hb5.mono hb3'.size)) _⟩
  · go_enter Try.func5, Try.ntmps5
    go_wp2
    go_ret
    exact ⟨rfl, Below.refl _ _⟩
end Go.Proofs.Ytfjdmcbcojlnmaa
