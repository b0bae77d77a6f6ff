/-
  Walks over files and trees: valid files, files at one place. Printed by treed.py.
-/
import Derived.Test.YtomndnlpogikdaaDoorTreeC
namespace Imp
open Go Go.RowKit
def okFil (f : Fil) : Bool := (decide (0 ≤ f.root) && decide (f.root ≤ 2)) && vPkg (bs f.pkg) && (decide (0 ≤ f.stamp) && decide (f.stamp ≤ 99)) && okBody f.body &&
  (if f.init then !f.pkg.toList.isEmpty && f.name.toList.isEmpty else vPart (bs f.name) && vName (childP (bs f.pkg) (bs f.name)))
def sameP (f g : Fil) : Bool := f.root == g.root && (f.pkg.toList == g.pkg.toList) && (f.init == g.init) && (f.name.toList == g.name.toList)
end Imp
namespace Go.Proofs.YtomndnlpogikdaaDoor
open Go Go.RowKit Imp
set_option linter.unusedVariables false

theorem ssame_any (f g : FR) (w : World) : Calls Tryd.prog 98 #[vF f, vF g] w fun e w' => e = .returned (.bool (sameP f.1 g.1)) ∧ Gr w w' := by
  obtain ⟨⟨root, pkg, name, init, stamp, body⟩, bv⟩ := f
  obtain ⟨⟨root2, pkg2, name2, init2, stamp2, body2⟩, bv2⟩ := g
  obtain ⟨R, hR⟩ : ∃ R, R = (root == root2 && (pkg.toList == pkg2.toList) && (init == init2) && (name.toList == name2.toList)) := ⟨_, rfl⟩
  simp only [sameP]
  rw [← hR]
  have HR := Lib.hid hR
  clear hR
  go_enter Tryd.func98, Tryd.ntmps98
  go_wp2
  all_goals go_ret
  all_goals refine ⟨ret_bool ?_, by first | exact gr_al2 _ _ _ | exact Below.drew (gr_al2 _ _ _)⟩
  all_goals rw [HR.out]
  all_goals try simp [*]
theorem isame_any (f g : FR) (w : World) : Calls Tryd.prog 71 #[vF f, vF g] w fun e w' => e = .returned (.bool (sameP f.1 g.1)) ∧ Gr w w' := by
  obtain ⟨⟨root, pkg, name, init, stamp, body⟩, bv⟩ := f
  obtain ⟨⟨root2, pkg2, name2, init2, stamp2, body2⟩, bv2⟩ := g
  obtain ⟨R, hR⟩ : ∃ R, R = (root == root2 && (pkg.toList == pkg2.toList) && (init == init2) && (name.toList == name2.toList)) := ⟨_, rfl⟩
  simp only [sameP]
  rw [← hR]
  have HR := Lib.hid hR
  clear hR
  go_enter Tryd.func71, Tryd.ntmps71
  go_wp2
  all_goals go_ret
  all_goals refine ⟨ret_bool ?_, by first | exact gr_al2 _ _ _ | exact Below.drew (gr_al2 _ _ _)⟩
  all_goals rw [HR.out]
  all_goals try simp [*]
theorem svalidFile_any {lo hi : Nat} (r : FR) (w : World) (hok : OkW w) (hb0 : BodyR w lo hi r) (hhi : hi ≤ w.heap.size) (hp : r.1.pkg.size ≤ 4194304) (hn : r.1.name.size ≤ 4194304) (hsm : ∀ s ∈ r.1.body, szSt s ≤ 16777216) :
    Calls Tryd.prog 79 #[vF r] w fun e w' => e = .returned (.bool (okFil r.1)) ∧ Gr w w' := by
  obtain ⟨⟨root, pkg, name, init, stamp, body⟩, bv⟩ := r
  simp only [BodyR] at hb0 hp hn hsm
  have hn2 : name.size ≤ maxLen := by unfold maxLen; omega
  have hbod := fun W (h : Gr w W) => svalidBody_any bv body W (SlR.below hb0 h hhi) (Nat.le_trans hhi h.size) hsm (hok.gr h)
  have hcs := child_size pkg name hp hn
  obtain ⟨R, hR⟩ : ∃ R, R = okFil ⟨root, pkg, name, init, stamp, body⟩ := ⟨_, rfl⟩
  rw [← hR]
  simp only [okFil] at hR
  generalize okBody body = BV at hR hbod
  have HR := Lib.hid hR
  have HB := Lib.hid hbod
  clear hR hbod hb0 hsm
  cases init <;> cases BV
  all_goals go_enter Tryd.func79, Tryd.ntmps79
  all_goals go_wp2_with (first
    | (go_at_call 55; refine (inRange_any _ _ _ _).mono ?_; rintro e w2 ⟨rfl, rfl⟩)
    | (go_at_call 96; refine (svalidPart_any _ _ hn2).mono ?_; rintro e w3 ⟨rfl, rfl⟩)
    | (go_at_call 95; refine (svalidPackage_any _ _ (by omega)).mono ?_; rintro e w1 ⟨rfl, hb⟩; have hs0 := hb.size; (try simp at hs0); have e0 := hb.cell (p := ⟨w.heap.size, 0, none⟩) (by simp <;> omega); have e1 := hb.cell (p := ⟨w.heap.size, 1, none⟩) (by simp <;> omega); have e2 := hb.cell (p := ⟨w.heap.size, 2, none⟩) (by simp <;> omega); have e3 := hb.cell (p := ⟨w.heap.size, 3, none⟩) (by simp <;> omega); have e4 := hb.cell (p := ⟨w.heap.size, 4, none⟩) (by simp <;> omega); have e5 := hb.cell (p := ⟨w.heap.size, 5, none⟩) (by simp <;> omega); first | (have hg := Gr.tr hg hb) | (have hg := Gr.tr (gr_al w _) hb))
    | (go_at_call 56; refine (HB.out _ (by first | exact hg | exact gr_al _ _)).mono ?_; rintro e w1 ⟨rfl, hb⟩; have hs0 := hb.size; (try simp at hs0); have e0 := hb.cell (p := ⟨w.heap.size, 0, none⟩) (by simp <;> omega); have e1 := hb.cell (p := ⟨w.heap.size, 1, none⟩) (by simp <;> omega); have e2 := hb.cell (p := ⟨w.heap.size, 2, none⟩) (by simp <;> omega); have e3 := hb.cell (p := ⟨w.heap.size, 3, none⟩) (by simp <;> omega); have e4 := hb.cell (p := ⟨w.heap.size, 4, none⟩) (by simp <;> omega); have e5 := hb.cell (p := ⟨w.heap.size, 5, none⟩) (by simp <;> omega); first | (have hg := Gr.tr hg hb) | (have hg := Gr.tr (gr_al w _) hb))
    | (go_at_call 97; refine (schild_any _ _ _ hp hn).mono ?_; rintro e w3 ⟨rfl, rfl⟩)
    | (go_at_call 88; refine (svalidName_any _ _ hcs).mono ?_; rintro e w1 ⟨rfl, hb⟩; have hs0 := hb.size; (try simp at hs0); have e0 := hb.cell (p := ⟨w.heap.size, 0, none⟩) (by simp <;> omega); have e1 := hb.cell (p := ⟨w.heap.size, 1, none⟩) (by simp <;> omega); have e2 := hb.cell (p := ⟨w.heap.size, 2, none⟩) (by simp <;> omega); have e3 := hb.cell (p := ⟨w.heap.size, 3, none⟩) (by simp <;> omega); have e4 := hb.cell (p := ⟨w.heap.size, 4, none⟩) (by simp <;> omega); have e5 := hb.cell (p := ⟨w.heap.size, 5, none⟩) (by simp <;> omega); first | (have hg := Gr.tr hg hb) | (have hg := Gr.tr (gr_al w _) hb)))
  all_goals go_ret
  all_goals refine ⟨ret_bool ?_, by first | assumption | exact gr_al _ _⟩
  all_goals rw [HR.out]
  all_goals try simp [*, bs_mk]
theorem child_some (p s : List UInt8) : (fChild p s).isEmpty = !(vPkg p && vPart s && vName (childP p s)) := by
  unfold fChild
  split
  · rename_i h
    rw [h]
    rw [Bool.and_eq_true] at h
    cases e : childP p s with
    | nil => rw [e] at h; exact absurd rfl (vName_ne h.2)
    | cons => rfl
  · rename_i h
    rw [(Bool.not_eq_true _).mp h]; rfl
set_option maxHeartbeats 1600000 in
theorem ifileOk_any {lo hi : Nat} (r : FR) (w : World) (hok : OkW w) (hb0 : BodyR w lo hi r) (hhi : hi ≤ w.heap.size) (hp : r.1.pkg.size ≤ 4194304) (hn : r.1.name.size ≤ 4194304) (hsm : ∀ s ∈ r.1.body, szSt s ≤ 16777216) :
    Calls Tryd.prog 67 #[vF r] w fun e w' => e = .returned (.bool (okFil r.1)) ∧ Gr w w' := by
  obtain ⟨⟨root, pkg, name, init, stamp, body⟩, bv⟩ := r
  simp only [BodyR] at hb0 hp hn hsm
  have hn2 : name.size ≤ maxLen := by unfold maxLen; omega
  have hbod := fun W (h : Gr w W) => iValidBody_any bv body W (SlR.below hb0 h hhi) (Nat.le_trans hhi h.size) hsm (hok.gr h)
  have hch := fun W (h : Gr w W) => iChildOf_any pkg name W hp hn (hok.gr h)
  obtain ⟨y, hy⟩ : ∃ y, y = mk (fChild (bs pkg) (bs name)) := ⟨_, rfl⟩
  rw [← hy] at hch
  have hye : y.toList.isEmpty = !(vPkg (bs pkg) && vPart (bs name) && vName (childP (bs pkg) (bs name))) := by rw [isEmpty_toList, hy, bs_mk, child_some]
  obtain ⟨R, hR⟩ : ∃ R, R = okFil ⟨root, pkg, name, init, stamp, body⟩ := ⟨_, rfl⟩
  rw [← hR]
  simp only [okFil] at hR
  generalize okBody body = BV at hR hbod
  generalize vName (childP (bs pkg) (bs name)) = CV at hR hye
  have HR := Lib.hid hR
  have HB := Lib.hid hbod
  have HC := Lib.hid hch
  clear hR hbod hb0 hsm hch hy
  cases init <;> cases BV <;> cases CV
  all_goals go_enter Tryd.func67, Tryd.ntmps67
  all_goals go_wp2_with (first
    | (go_at_call 58; refine (within_any _ _ _ _).mono ?_; rintro e w2 ⟨rfl, rfl⟩)
    | (go_at_call 87; refine (iValidPart_any _ _ hn2).mono ?_; rintro e w3 ⟨rfl, rfl⟩)
    | (go_at_call 91; refine (ipackageOk_any _ _ (by omega) (hok.al _)).mono ?_; rintro e w1 ⟨rfl, hb⟩; have hs0 := hb.size; (try simp at hs0); have e0 := hb.cell (p := ⟨w.heap.size, 0, none⟩) (by simp <;> omega); have e1 := hb.cell (p := ⟨w.heap.size, 1, none⟩) (by simp <;> omega); have e2 := hb.cell (p := ⟨w.heap.size, 2, none⟩) (by simp <;> omega); have e3 := hb.cell (p := ⟨w.heap.size, 3, none⟩) (by simp <;> omega); have e4 := hb.cell (p := ⟨w.heap.size, 4, none⟩) (by simp <;> omega); have e5 := hb.cell (p := ⟨w.heap.size, 5, none⟩) (by simp <;> omega); first | (have hg := Gr.tr hg hb) | (have hg := Gr.tr (gr_al w _) hb))
    | (go_at_call 68; refine (HB.out _ (by first | exact hg | exact gr_al _ _)).mono ?_; rintro e w1 ⟨rfl, hb⟩; have hs0 := hb.size; (try simp at hs0); have e0 := hb.cell (p := ⟨w.heap.size, 0, none⟩) (by simp <;> omega); have e1 := hb.cell (p := ⟨w.heap.size, 1, none⟩) (by simp <;> omega); have e2 := hb.cell (p := ⟨w.heap.size, 2, none⟩) (by simp <;> omega); have e3 := hb.cell (p := ⟨w.heap.size, 3, none⟩) (by simp <;> omega); have e4 := hb.cell (p := ⟨w.heap.size, 4, none⟩) (by simp <;> omega); have e5 := hb.cell (p := ⟨w.heap.size, 5, none⟩) (by simp <;> omega); first | (have hg := Gr.tr hg hb) | (have hg := Gr.tr (gr_al w _) hb))
    | (go_at_call 92; refine (HC.out _ (by first | exact hg | exact gr_al _ _)).mono ?_; rintro e w1 ⟨rfl, hb⟩; have hs0 := hb.size; (try simp at hs0); have e0 := hb.cell (p := ⟨w.heap.size, 0, none⟩) (by simp <;> omega); have e1 := hb.cell (p := ⟨w.heap.size, 1, none⟩) (by simp <;> omega); have e2 := hb.cell (p := ⟨w.heap.size, 2, none⟩) (by simp <;> omega); have e3 := hb.cell (p := ⟨w.heap.size, 3, none⟩) (by simp <;> omega); have e4 := hb.cell (p := ⟨w.heap.size, 4, none⟩) (by simp <;> omega); have e5 := hb.cell (p := ⟨w.heap.size, 5, none⟩) (by simp <;> omega); first | (have hg := Gr.tr hg hb) | (have hg := Gr.tr (gr_al w _) hb)))
  all_goals go_ret
  all_goals refine ⟨ret_bool ?_, by first | assumption | exact gr_al _ _⟩
  all_goals rw [HR.out]
  all_goals try simp [*]
end Go.Proofs.YtomndnlpogikdaaDoor
