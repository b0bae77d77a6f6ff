/-
  Walks: modules of files; the law that the two packages tell the same of them.
-/
import Derived.Test.YteccopgnlbphbaaDoorOpen
import Derived.Test.YteccopgnlbphbaaDoorTreeD
import Derived.Test.YteccopgnlbphbaaDoorTreeB
import Derived.Deep.RegionHeld3
namespace Imp
open Go
def nameP (f : Fil) : List UInt8 := if f.init then bs f.pkg else childP (bs f.pkg) (bs f.name)
def fMod (f : Fil) : List UInt8 := if okFil f then nameP f else []
theorem fMod_ok {f : Fil} (h : okFil f = true) : fMod f = nameP f := by unfold fMod; rw [if_pos h]
theorem fMod_bad {f : Fil} (h : okFil f = false) : fMod f = [] := by unfold fMod; rw [h]; rfl
theorem child_of_ok {f : Fil} (h : okFil f = true) (hi : f.init = false) : fChild (bs f.pkg) (bs f.name) = childP (bs f.pkg) (bs f.name) := by
  unfold okFil at h
  rw [hi] at h
  simp only [Bool.and_eq_true, Bool.false_eq_true, ↓reduceIte] at h
  unfold fChild
  rw [h.1.1.1.2, h.2.1, h.2.2]; rfl
end Imp
namespace Go.Proofs.YteccopgnlbphbaaDoor
open Go Go.RowKit Imp
set_option linter.unusedVariables false
set_option linter.unusedSimpArgs false

theorem smoduleName_any (r : FR) (w : World) (hp : r.1.pkg.size ≤ 4194304) (hn : r.1.name.size ≤ 4194304) :
    Calls Tryd.prog 56 #[vF r] w fun e w' => e = .returned (.string (mk (nameP r.1))) ∧ Gr w w' := by
  obtain ⟨⟨root, pkg, name, init, stamp, body⟩, bv⟩ := r
  simp only [nameP] at *
  cases init
  · go_enter Tryd.func56, Tryd.ntmps56
    go_wp2_with (go_at_call 95; refine (schild_any _ _ _ hp hn).mono ?_; rintro e w3 ⟨rfl, rfl⟩)
    go_ret
    exact ⟨rfl, gr_al _ _⟩
  · go_enter Tryd.func56, Tryd.ntmps56
    go_wp2
    go_ret
    exact ⟨ret_str (by simp), gr_al _ _⟩
theorem iModuleOf_any {lo hi : Nat} (r : FR) (w : World) (hok : OkW w) (hb : BodyR w lo hi r) (hhi : hi ≤ w.heap.size) (hp : r.1.pkg.size ≤ 4194304) (hn : r.1.name.size ≤ 4194304) (hsm : ∀ s ∈ r.1.body, szSt s ≤ 16777216) :
    Calls Tryd.prog 31 #[vF r] w fun e w' => e = .returned (.string (mk (fMod r.1))) ∧ Gr w w' := by
  obtain ⟨⟨root, pkg, name, init, stamp, body⟩, bv⟩ := r
  have hA := heap_alloc_new w (.cells #[.int .i64 root, .string pkg, .string name, .bool init, .int .i64 stamp, bv] 57)
  have h1 := fun o => ifileOk_any (⟨root, pkg, name, init, stamp, body⟩, bv) (w.alloc o) (hok.al o) (SlR.below hb (gr_al w o) hhi) (by simp; omega) hp hn hsm
  have h2 := fun W h => iChildOf_any pkg name W hp hn h
  have hch : okFil ⟨root, pkg, name, init, stamp, body⟩ = true → init = false → fChild (bs pkg) (bs name) = childP (bs pkg) (bs name) := fun h k => child_of_ok h k
  obtain ⟨F, hF⟩ : ∃ F, F = okFil ⟨root, pkg, name, init, stamp, body⟩ := ⟨_, rfl⟩
  simp only at h1 hp hn
  rw [← hF] at h1 hch
  have hmod : fMod ⟨root, pkg, name, init, stamp, body⟩ = if F then nameP ⟨root, pkg, name, init, stamp, body⟩ else [] := by unfold fMod; rw [hF]
  have H1 := Lib.hid h1
  have HM := Lib.hid hmod
  have HC := Lib.hid hch
  have H2 := Lib.hid h2
  clear h1 hmod hch h2 hF hb hsm
  obtain ⟨R, hR⟩ : ∃ R, R = mk (fMod ⟨root, pkg, name, init, stamp, body⟩) := ⟨_, rfl⟩
  simp only
  rw [← hR]
  have HR := Lib.hid hR
  clear hR
  cases F
  · go_enter Tryd.func31, Tryd.ntmps31
    go_wp2_with fail
    refine (H1.out _).mono ?_
    rintro e w1 ⟨rfl, hb1⟩
    go_wp2
    go_ret
    exact ⟨ret_str (by rw [HR.out, HM.out]; rfl), Gr.tr (gr_al _ _) hb1⟩
  · cases init
    · have h2 := H2.out
      rw [HC.out rfl rfl] at h2
      have hN : R = mk (childP (bs pkg) (bs name)) := by rw [HR.out, HM.out]; rfl
      rw [← hN] at h2
      have H3 := Lib.hid h2
      clear h2 hN
      go_enter Tryd.func31, Tryd.ntmps31
      go_wp2_with fail
      refine (H1.out _).mono ?_
      rintro e w1 ⟨rfl, hb1⟩
      obtain ⟨c0, c1, c2, c3, c4, c5⟩ := cells6 hA hb1
      have hok1 := (hok.al _).gr hb1
      go_wp2_with fail
      refine (H3.out _ hok1).mono ?_
      rintro e w2 ⟨rfl, hb2⟩
      go_wp2
      go_ret
      exact ⟨rfl, (Gr.tr (gr_al _ _) hb1).tr hb2⟩
    · have hN : pkg = R := by rw [HR.out, HM.out]; exact (mk_bs pkg).symm
      have HN := Lib.hid hN
      clear hN
      go_enter Tryd.func31, Tryd.ntmps31
      go_wp2_with fail
      refine (H1.out _).mono ?_
      rintro e w1 ⟨rfl, hb1⟩
      obtain ⟨c0, c1, c2, c3, c4, c5⟩ := cells6 hA hb1
      go_wp2
      go_ret
      exact ⟨ret_str HN.out, Gr.tr (gr_al _ _) hb1⟩
end Go.Proofs.YteccopgnlbphbaaDoor
