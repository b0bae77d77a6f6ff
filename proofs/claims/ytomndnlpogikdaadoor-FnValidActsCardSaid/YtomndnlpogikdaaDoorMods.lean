/-
  Walks: modules of files; the law that the two packages tell the same of them.
-/
import Derived.Test.YtomndnlpogikdaaDoorOpen
import Derived.Test.YtomndnlpogikdaaDoorTreeD
import Derived.Test.YtomndnlpogikdaaDoorTreeB
import Derived.Deep.RegionHeld3
namespace Imp
open Go
def nameP (f : Fil) : List UInt8 := if f.init then bs f.pkg else childP (bs f.pkg) (bs f.name)
def fMod (f : Fil) : List UInt8 := if okFil f then nameP f else []
theorem fMod_ok {f : Fil} (h : okFil f = true) : fMod f = nameP f := by unfold fMod; rw [if_pos h]
theorem fMod_bad {f : Fil} (h : okFil f = false) : fMod f = [] := by unfold fMod; rw [h]; rfl
theorem child_of_ok {f : Fil} (h : okFil f = true) (hi : f.init = false) : fChild (bs f.pkg) (bs f.name) = childP (bs f.pkg) (bs f.name) := by
  unfold okFil at h
  rw [hi] at h
  simp only [Bool.and_eq_true, Bool.false_eq_true, ↓reduceIte] at h
  unfold fChild
  rw [h.1.1.1.2, h.2.1, h.2.2]; rfl
end Imp
namespace Go.Proofs.YtomndnlpogikdaaDoor
open Go Go.RowKit Imp
set_option linter.unusedVariables false
set_option linter.unusedSimpArgs false

theorem smoduleName_any (r : FR) (w : World) (hp : r.1.pkg.size ≤ 4194304) (hn : r.1.name.size ≤ 4194304) :
    Calls Tryd.prog 85 #[vF r] w fun e w' => e = .returned (.string (mk (nameP r.1))) ∧ Gr w w' := by
  obtain ⟨⟨root, pkg, name, init, stamp, body⟩, bv⟩ := r
  simp only [nameP] at *
  cases init
  · go_enter Tryd.func85, Tryd.ntmps85
    go_wp2_with (go_at_call 97; refine (schild_any _ _ _ hp hn).mono ?_; rintro e w3 ⟨rfl, rfl⟩)
    go_ret
    exact ⟨rfl, gr_al _ _⟩
  · go_enter Tryd.func85, Tryd.ntmps85
    go_wp2
    go_ret
    exact ⟨ret_str (by simp), gr_al _ _⟩
end Go.Proofs.YtomndnlpogikdaaDoor
