/-
  Walks: valid statements and bodies, of both packages. Printed by bodyb.py.
-/
import Derived.Test.YtepljjaienpepaaDoorZ3
namespace Imp
open Go Go.RowKit
def okStm (s : Stm) : Bool :=
  if s.kind == 0 then vName (bs s.mod) && (s.level == 0) && s.name.toList.isEmpty && (s.value == 0)
  else if s.kind == 1 then vPkg (bs s.mod) && (decide (0 ≤ s.level) && decide (s.level ≤ 3)) && (!s.mod.toList.isEmpty || decide (0 < s.level)) && vPart (bs s.name) && (s.value == 0)
  else if s.kind == 2 then vName (bs s.mod) && (s.level == 0) && s.name.toList.isEmpty && (s.value == 0)
  else if s.kind == 3 then s.mod.toList.isEmpty && (s.level == 0) && vPart (bs s.name) && (decide (0 ≤ s.value) && decide (s.value ≤ 99))
  else if s.kind == 4 then s.mod.toList.isEmpty && (s.level == 0) && vPart (bs s.name) && (s.value == 0)
  else if s.kind == 5 then s.mod.toList.isEmpty && (s.level == 0) && s.name.toList.isEmpty && (s.value == 0)
  else false
def okBody (b : List Stm) : Bool := b.all okStm && decide ((b.length : Int) ≤ 8)
end Imp
namespace Go.Proofs.YtepljjaienpepaaDoor
open Go Go.RowKit Imp
set_option linter.unusedVariables false
theorem vName_toList (m : ByteArray) (h : vName (bs m) = true) : ¬ m.toList = [] := by
  intro e
  have := isEmpty_toList m
  rw [e] at this
  exact vName_ne h (List.isEmpty_iff.1 this.symm)
theorem OkW.al {w : World} (h : OkW w) (o : Obj) : OkW (w.alloc o) := h.gr ((Below.refl _ w).alloc (Nat.le_refl _) _)
theorem gr_al (w : World) (o : Obj) : Gr w (w.alloc o) := (Below.refl _ w).alloc (Nat.le_refl _) _
theorem gr_al2 (w : World) (o o' : Obj) : Gr w ((w.alloc o).alloc o') := (gr_al w o).tr (gr_al _ o')

theorem sStmt0 (kind : Int) (mod : ByteArray) (level : Int) (name : ByteArray) (value : Int) (w : World) (hok : OkW w) (hm : mod.size ≤ 16777216) (hn : name.size ≤ 16777216) (k0 : (kind == 0) = true) :
    Calls Tryd.prog 69 #[vSt ⟨kind, mod, level, name, value⟩] w fun e w' => e = .returned (.bool (vName (bs mod) && (level == 0) && name.toList.isEmpty && (value == 0))) ∧ Gr w w' := by
  have hn2 : name.size ≤ maxLen := by unfold maxLen; omega
  obtain ⟨R, hR⟩ : ∃ R, R = (vName (bs mod) && (level == 0) && name.toList.isEmpty && (value == 0)) := ⟨_, rfl⟩
  rw [← hR]
  have HR := Lib.hid hR
  clear hR
  go_enter Tryd.func69, Tryd.ntmps69
  go_wp2_with (first
    | (go_at_call 31; refine (svalidName_any _ _ hm).mono ?_; rintro e w1 ⟨rfl, hb1⟩; have e0 := hb1.cell (p := ⟨w.heap.size, 0, none⟩) (by simp <;> omega); have e1 := hb1.cell (p := ⟨w.heap.size, 1, none⟩) (by simp <;> omega); have e2 := hb1.cell (p := ⟨w.heap.size, 2, none⟩) (by simp <;> omega); have e3 := hb1.cell (p := ⟨w.heap.size, 3, none⟩) (by simp <;> omega); have e4 := hb1.cell (p := ⟨w.heap.size, 4, none⟩) (by simp <;> omega); have hg1 := Gr.tr (gr_al w _) hb1)
    | (go_at_call 20; refine (svalidPackage_any _ _ hm).mono ?_; rintro e w1 ⟨rfl, hb1⟩; have e0 := hb1.cell (p := ⟨w.heap.size, 0, none⟩) (by simp <;> omega); have e1 := hb1.cell (p := ⟨w.heap.size, 1, none⟩) (by simp <;> omega); have e2 := hb1.cell (p := ⟨w.heap.size, 2, none⟩) (by simp <;> omega); have e3 := hb1.cell (p := ⟨w.heap.size, 3, none⟩) (by simp <;> omega); have e4 := hb1.cell (p := ⟨w.heap.size, 4, none⟩) (by simp <;> omega); have hg1 := Gr.tr (gr_al w _) hb1)
    | (go_at_call 19; refine (inRange_any _ _ _ _).mono ?_; rintro e w2 ⟨rfl, rfl⟩)
    | (go_at_call 48; refine (svalidPart_any _ _ hn2).mono ?_; rintro e w3 ⟨rfl, rfl⟩))
  all_goals go_ret
  all_goals refine ⟨ret_bool ?_, by first | assumption | exact gr_al2 _ _ _ | exact gr_al _ _ | exact Below.drew (gr_al2 _ _ _)⟩
  all_goals rw [HR.out]
  all_goals try simp [*]
  all_goals try (intros; omega)
theorem sStmt1 (kind : Int) (mod : ByteArray) (level : Int) (name : ByteArray) (value : Int) (w : World) (hok : OkW w) (hm : mod.size ≤ 16777216) (hn : name.size ≤ 16777216) (k0 : (kind == 0) = false) (k1 : (kind == 1) = true) :
    Calls Tryd.prog 69 #[vSt ⟨kind, mod, level, name, value⟩] w fun e w' => e = .returned (.bool (vPkg (bs mod) && (decide (0 ≤ level) && decide (level ≤ 3)) && (!mod.toList.isEmpty || decide (0 < level)) && vPart (bs name) && (value == 0))) ∧ Gr w w' := by
  have hn2 : name.size ≤ maxLen := by unfold maxLen; omega
  obtain ⟨R, hR⟩ : ∃ R, R = (vPkg (bs mod) && (decide (0 ≤ level) && decide (level ≤ 3)) && (!mod.toList.isEmpty || decide (0 < level)) && vPart (bs name) && (value == 0)) := ⟨_, rfl⟩
  rw [← hR]
  have HR := Lib.hid hR
  clear hR
  go_enter Tryd.func69, Tryd.ntmps69
  go_wp2_with (first
    | (go_at_call 31; refine (svalidName_any _ _ hm).mono ?_; rintro e w1 ⟨rfl, hb1⟩; have e0 := hb1.cell (p := ⟨w.heap.size, 0, none⟩) (by simp <;> omega); have e1 := hb1.cell (p := ⟨w.heap.size, 1, none⟩) (by simp <;> omega); have e2 := hb1.cell (p := ⟨w.heap.size, 2, none⟩) (by simp <;> omega); have e3 := hb1.cell (p := ⟨w.heap.size, 3, none⟩) (by simp <;> omega); have e4 := hb1.cell (p := ⟨w.heap.size, 4, none⟩) (by simp <;> omega); have hg1 := Gr.tr (gr_al w _) hb1)
    | (go_at_call 20; refine (svalidPackage_any _ _ hm).mono ?_; rintro e w1 ⟨rfl, hb1⟩; have e0 := hb1.cell (p := ⟨w.heap.size, 0, none⟩) (by simp <;> omega); have e1 := hb1.cell (p := ⟨w.heap.size, 1, none⟩) (by simp <;> omega); have e2 := hb1.cell (p := ⟨w.heap.size, 2, none⟩) (by simp <;> omega); have e3 := hb1.cell (p := ⟨w.heap.size, 3, none⟩) (by simp <;> omega); have e4 := hb1.cell (p := ⟨w.heap.size, 4, none⟩) (by simp <;> omega); have hg1 := Gr.tr (gr_al w _) hb1)
    | (go_at_call 19; refine (inRange_any _ _ _ _).mono ?_; rintro e w2 ⟨rfl, rfl⟩)
    | (go_at_call 48; refine (svalidPart_any _ _ hn2).mono ?_; rintro e w3 ⟨rfl, rfl⟩))
  all_goals go_ret
  all_goals refine ⟨ret_bool ?_, by first | assumption | exact gr_al2 _ _ _ | exact gr_al _ _ | exact Below.drew (gr_al2 _ _ _)⟩
  all_goals rw [HR.out]
  all_goals try simp [*]
  all_goals try (intros; omega)
theorem sStmt2 (kind : Int) (mod : ByteArray) (level : Int) (name : ByteArray) (value : Int) (w : World) (hok : OkW w) (hm : mod.size ≤ 16777216) (hn : name.size ≤ 16777216) (k0 : (kind == 0) = false) (k1 : (kind == 1) = false) (k2 : (kind == 2) = true) :
    Calls Tryd.prog 69 #[vSt ⟨kind, mod, level, name, value⟩] w fun e w' => e = .returned (.bool (vName (bs mod) && (level == 0) && name.toList.isEmpty && (value == 0))) ∧ Gr w w' := by
  have hn2 : name.size ≤ maxLen := by unfold maxLen; omega
  obtain ⟨R, hR⟩ : ∃ R, R = (vName (bs mod) && (level == 0) && name.toList.isEmpty && (value == 0)) := ⟨_, rfl⟩
  rw [← hR]
  have HR := Lib.hid hR
  clear hR
  go_enter Tryd.func69, Tryd.ntmps69
  go_wp2_with (first
    | (go_at_call 31; refine (svalidName_any _ _ hm).mono ?_; rintro e w1 ⟨rfl, hb1⟩; have e0 := hb1.cell (p := ⟨w.heap.size, 0, none⟩) (by simp <;> omega); have e1 := hb1.cell (p := ⟨w.heap.size, 1, none⟩) (by simp <;> omega); have e2 := hb1.cell (p := ⟨w.heap.size, 2, none⟩) (by simp <;> omega); have e3 := hb1.cell (p := ⟨w.heap.size, 3, none⟩) (by simp <;> omega); have e4 := hb1.cell (p := ⟨w.heap.size, 4, none⟩) (by simp <;> omega); have hg1 := Gr.tr (gr_al w _) hb1)
    | (go_at_call 20; refine (svalidPackage_any _ _ hm).mono ?_; rintro e w1 ⟨rfl, hb1⟩; have e0 := hb1.cell (p := ⟨w.heap.size, 0, none⟩) (by simp <;> omega); have e1 := hb1.cell (p := ⟨w.heap.size, 1, none⟩) (by simp <;> omega); have e2 := hb1.cell (p := ⟨w.heap.size, 2, none⟩) (by simp <;> omega); have e3 := hb1.cell (p := ⟨w.heap.size, 3, none⟩) (by simp <;> omega); have e4 := hb1.cell (p := ⟨w.heap.size, 4, none⟩) (by simp <;> omega); have hg1 := Gr.tr (gr_al w _) hb1)
    | (go_at_call 19; refine (inRange_any _ _ _ _).mono ?_; rintro e w2 ⟨rfl, rfl⟩)
    | (go_at_call 48; refine (svalidPart_any _ _ hn2).mono ?_; rintro e w3 ⟨rfl, rfl⟩))
  all_goals go_ret
  all_goals refine ⟨ret_bool ?_, by first | assumption | exact gr_al2 _ _ _ | exact gr_al _ _ | exact Below.drew (gr_al2 _ _ _)⟩
  all_goals rw [HR.out]
  all_goals try simp [*]
  all_goals try (intros; omega)
theorem sStmt3 (kind : Int) (mod : ByteArray) (level : Int) (name : ByteArray) (value : Int) (w : World) (hok : OkW w) (hm : mod.size ≤ 16777216) (hn : name.size ≤ 16777216) (k0 : (kind == 0) = false) (k1 : (kind == 1) = false) (k2 : (kind == 2) = false) (k3 : (kind == 3) = true) :
    Calls Tryd.prog 69 #[vSt ⟨kind, mod, level, name, value⟩] w fun e w' => e = .returned (.bool (mod.toList.isEmpty && (level == 0) && vPart (bs name) && (decide (0 ≤ value) && decide (value ≤ 99)))) ∧ Gr w w' := by
  have hn2 : name.size ≤ maxLen := by unfold maxLen; omega
  obtain ⟨R, hR⟩ : ∃ R, R = (mod.toList.isEmpty && (level == 0) && vPart (bs name) && (decide (0 ≤ value) && decide (value ≤ 99))) := ⟨_, rfl⟩
  rw [← hR]
  have HR := Lib.hid hR
  clear hR
  go_enter Tryd.func69, Tryd.ntmps69
  go_wp2_with (first
    | (go_at_call 31; refine (svalidName_any _ _ hm).mono ?_; rintro e w1 ⟨rfl, hb1⟩; have e0 := hb1.cell (p := ⟨w.heap.size, 0, none⟩) (by simp <;> omega); have e1 := hb1.cell (p := ⟨w.heap.size, 1, none⟩) (by simp <;> omega); have e2 := hb1.cell (p := ⟨w.heap.size, 2, none⟩) (by simp <;> omega); have e3 := hb1.cell (p := ⟨w.heap.size, 3, none⟩) (by simp <;> omega); have e4 := hb1.cell (p := ⟨w.heap.size, 4, none⟩) (by simp <;> omega); have hg1 := Gr.tr (gr_al w _) hb1)
    | (go_at_call 20; refine (svalidPackage_any _ _ hm).mono ?_; rintro e w1 ⟨rfl, hb1⟩; have e0 := hb1.cell (p := ⟨w.heap.size, 0, none⟩) (by simp <;> omega); have e1 := hb1.cell (p := ⟨w.heap.size, 1, none⟩) (by simp <;> omega); have e2 := hb1.cell (p := ⟨w.heap.size, 2, none⟩) (by simp <;> omega); have e3 := hb1.cell (p := ⟨w.heap.size, 3, none⟩) (by simp <;> omega); have e4 := hb1.cell (p := ⟨w.heap.size, 4, none⟩) (by simp <;> omega); have hg1 := Gr.tr (gr_al w _) hb1)
    | (go_at_call 19; refine (inRange_any _ _ _ _).mono ?_; rintro e w2 ⟨rfl, rfl⟩)
    | (go_at_call 48; refine (svalidPart_any _ _ hn2).mono ?_; rintro e w3 ⟨rfl, rfl⟩))
  all_goals go_ret
  all_goals refine ⟨ret_bool ?_, by first | assumption | exact gr_al2 _ _ _ | exact gr_al _ _ | exact Below.drew (gr_al2 _ _ _)⟩
  all_goals rw [HR.out]
  all_goals try simp [*]
  all_goals try (intros; omega)
theorem sStmt4 (kind : Int) (mod : ByteArray) (level : Int) (name : ByteArray) (value : Int) (w : World) (hok : OkW w) (hm : mod.size ≤ 16777216) (hn : name.size ≤ 16777216) (k0 : (kind == 0) = false) (k1 : (kind == 1) = false) (k2 : (kind == 2) = false) (k3 : (kind == 3) = false) (k4 : (kind == 4) = true) :
    Calls Tryd.prog 69 #[vSt ⟨kind, mod, level, name, value⟩] w fun e w' => e = .returned (.bool (mod.toList.isEmpty && (level == 0) && vPart (bs name) && (value == 0))) ∧ Gr w w' := by
  have hn2 : name.size ≤ maxLen := by unfold maxLen; omega
  obtain ⟨R, hR⟩ : ∃ R, R = (mod.toList.isEmpty && (level == 0) && vPart (bs name) && (value == 0)) := ⟨_, rfl⟩
  rw [← hR]
  have HR := Lib.hid hR
  clear hR
  go_enter Tryd.func69, Tryd.ntmps69
  go_wp2_with (first
    | (go_at_call 31; refine (svalidName_any _ _ hm).mono ?_; rintro e w1 ⟨rfl, hb1⟩; have e0 := hb1.cell (p := ⟨w.heap.size, 0, none⟩) (by simp <;> omega); have e1 := hb1.cell (p := ⟨w.heap.size, 1, none⟩) (by simp <;> omega); have e2 := hb1.cell (p := ⟨w.heap.size, 2, none⟩) (by simp <;> omega); have e3 := hb1.cell (p := ⟨w.heap.size, 3, none⟩) (by simp <;> omega); have e4 := hb1.cell (p := ⟨w.heap.size, 4, none⟩) (by simp <;> omega); have hg1 := Gr.tr (gr_al w _) hb1)
    | (go_at_call 20; refine (svalidPackage_any _ _ hm).mono ?_; rintro e w1 ⟨rfl, hb1⟩; have e0 := hb1.cell (p := ⟨w.heap.size, 0, none⟩) (by simp <;> omega); have e1 := hb1.cell (p := ⟨w.heap.size, 1, none⟩) (by simp <;> omega); have e2 := hb1.cell (p := ⟨w.heap.size, 2, none⟩) (by simp <;> omega); have e3 := hb1.cell (p := ⟨w.heap.size, 3, none⟩) (by simp <;> omega); have e4 := hb1.cell (p := ⟨w.heap.size, 4, none⟩) (by simp <;> omega); have hg1 := Gr.tr (gr_al w _) hb1)
    | (go_at_call 19; refine (inRange_any _ _ _ _).mono ?_; rintro e w2 ⟨rfl, rfl⟩)
    | (go_at_call 48; refine (svalidPart_any _ _ hn2).mono ?_; rintro e w3 ⟨rfl, rfl⟩))
  all_goals go_ret
  all_goals refine ⟨ret_bool ?_, by first | assumption | exact gr_al2 _ _ _ | exact gr_al _ _ | exact Below.drew (gr_al2 _ _ _)⟩
  all_goals rw [HR.out]
  all_goals try simp [*]
  all_goals try (intros; omega)
theorem sStmt5 (kind : Int) (mod : ByteArray) (level : Int) (name : ByteArray) (value : Int) (w : World) (hok : OkW w) (hm : mod.size ≤ 16777216) (hn : name.size ≤ 16777216) (k0 : (kind == 0) = false) (k1 : (kind == 1) = false) (k2 : (kind == 2) = false) (k3 : (kind == 3) = false) (k4 : (kind == 4) = false) (k5 : (kind == 5) = true) :
    Calls Tryd.prog 69 #[vSt ⟨kind, mod, level, name, value⟩] w fun e w' => e = .returned (.bool (mod.toList.isEmpty && (level == 0) && name.toList.isEmpty && (value == 0))) ∧ Gr w w' := by
  have hn2 : name.size ≤ maxLen := by unfold maxLen; omega
  obtain ⟨R, hR⟩ : ∃ R, R = (mod.toList.isEmpty && (level == 0) && name.toList.isEmpty && (value == 0)) := ⟨_, rfl⟩
  rw [← hR]
  have HR := Lib.hid hR
  clear hR
  go_enter Tryd.func69, Tryd.ntmps69
  go_wp2_with (first
    | (go_at_call 31; refine (svalidName_any _ _ hm).mono ?_; rintro e w1 ⟨rfl, hb1⟩; have e0 := hb1.cell (p := ⟨w.heap.size, 0, none⟩) (by simp <;> omega); have e1 := hb1.cell (p := ⟨w.heap.size, 1, none⟩) (by simp <;> omega); have e2 := hb1.cell (p := ⟨w.heap.size, 2, none⟩) (by simp <;> omega); have e3 := hb1.cell (p := ⟨w.heap.size, 3, none⟩) (by simp <;> omega); have e4 := hb1.cell (p := ⟨w.heap.size, 4, none⟩) (by simp <;> omega); have hg1 := Gr.tr (gr_al w _) hb1)
    | (go_at_call 20; refine (svalidPackage_any _ _ hm).mono ?_; rintro e w1 ⟨rfl, hb1⟩; have e0 := hb1.cell (p := ⟨w.heap.size, 0, none⟩) (by simp <;> omega); have e1 := hb1.cell (p := ⟨w.heap.size, 1, none⟩) (by simp <;> omega); have e2 := hb1.cell (p := ⟨w.heap.size, 2, none⟩) (by simp <;> omega); have e3 := hb1.cell (p := ⟨w.heap.size, 3, none⟩) (by simp <;> omega); have e4 := hb1.cell (p := ⟨w.heap.size, 4, none⟩) (by simp <;> omega); have hg1 := Gr.tr (gr_al w _) hb1)
    | (go_at_call 19; refine (inRange_any _ _ _ _).mono ?_; rintro e w2 ⟨rfl, rfl⟩)
    | (go_at_call 48; refine (svalidPart_any _ _ hn2).mono ?_; rintro e w3 ⟨rfl, rfl⟩))
  all_goals go_ret
  all_goals refine ⟨ret_bool ?_, by first | assumption | exact gr_al2 _ _ _ | exact gr_al _ _ | exact Below.drew (gr_al2 _ _ _)⟩
  all_goals rw [HR.out]
  all_goals try simp [*]
  all_goals try (intros; omega)
theorem sStmtX (kind : Int) (mod : ByteArray) (level : Int) (name : ByteArray) (value : Int) (w : World) (hok : OkW w) (hm : mod.size ≤ 16777216) (hn : name.size ≤ 16777216) (k0 : (kind == 0) = false) (k1 : (kind == 1) = false) (k2 : (kind == 2) = false) (k3 : (kind == 3) = false) (k4 : (kind == 4) = false) (k5 : (kind == 5) = false) :
    Calls Tryd.prog 69 #[vSt ⟨kind, mod, level, name, value⟩] w fun e w' => e = .returned (.bool (false)) ∧ Gr w w' := by
  have hn2 : name.size ≤ maxLen := by unfold maxLen; omega
  obtain ⟨R, hR⟩ : ∃ R, R = (false) := ⟨_, rfl⟩
  rw [← hR]
  have HR := Lib.hid hR
  clear hR
  go_enter Tryd.func69, Tryd.ntmps69
  go_wp2_with (first
    | (go_at_call 31; refine (svalidName_any _ _ hm).mono ?_; rintro e w1 ⟨rfl, hb1⟩; have e0 := hb1.cell (p := ⟨w.heap.size, 0, none⟩) (by simp <;> omega); have e1 := hb1.cell (p := ⟨w.heap.size, 1, none⟩) (by simp <;> omega); have e2 := hb1.cell (p := ⟨w.heap.size, 2, none⟩) (by simp <;> omega); have e3 := hb1.cell (p := ⟨w.heap.size, 3, none⟩) (by simp <;> omega); have e4 := hb1.cell (p := ⟨w.heap.size, 4, none⟩) (by simp <;> omega); have hg1 := Gr.tr (gr_al w _) hb1)
    | (go_at_call 20; refine (svalidPackage_any _ _ hm).mono ?_; rintro e w1 ⟨rfl, hb1⟩; have e0 := hb1.cell (p := ⟨w.heap.size, 0, none⟩) (by simp <;> omega); have e1 := hb1.cell (p := ⟨w.heap.size, 1, none⟩) (by simp <;> omega); have e2 := hb1.cell (p := ⟨w.heap.size, 2, none⟩) (by simp <;> omega); have e3 := hb1.cell (p := ⟨w.heap.size, 3, none⟩) (by simp <;> omega); have e4 := hb1.cell (p := ⟨w.heap.size, 4, none⟩) (by simp <;> omega); have hg1 := Gr.tr (gr_al w _) hb1)
    | (go_at_call 19; refine (inRange_any _ _ _ _).mono ?_; rintro e w2 ⟨rfl, rfl⟩)
    | (go_at_call 48; refine (svalidPart_any _ _ hn2).mono ?_; rintro e w3 ⟨rfl, rfl⟩))
  all_goals go_ret
  all_goals refine ⟨ret_bool ?_, by first | assumption | exact gr_al2 _ _ _ | exact gr_al _ _ | exact Below.drew (gr_al2 _ _ _)⟩
  all_goals rw [HR.out]
  all_goals try simp [*]
  all_goals try (intros; omega)
theorem iStmt0 (kind : Int) (mod : ByteArray) (level : Int) (name : ByteArray) (value : Int) (w : World) (hok : OkW w) (hm : mod.size ≤ 16777216) (hn : name.size ≤ 16777216) (k0 : (kind == 0) = true) :
    Calls Tryd.prog 60 #[vSt ⟨kind, mod, level, name, value⟩] w fun e w' => e = .returned (.bool (vName (bs mod) && (level == 0) && name.toList.isEmpty && (value == 0))) ∧ Gr w w' := by
  have hn2 : name.size ≤ maxLen := by unfold maxLen; omega
  obtain ⟨R, hR⟩ : ∃ R, R = (vName (bs mod) && (level == 0) && name.toList.isEmpty && (value == 0)) := ⟨_, rfl⟩
  rw [← hR]
  have HR := Lib.hid hR
  clear hR
  go_enter Tryd.func60, Tryd.ntmps60
  go_wp2_with (first
    | (go_at_call 27; refine (iValidName_any _ _ hm ((hok.al _).al _)).mono ?_; rintro e w1 ⟨rfl, hb1⟩; have e0 := hb1.cell (p := ⟨w.heap.size, 0, none⟩) (by simp <;> omega); have e1 := hb1.cell (p := ⟨w.heap.size, 1, none⟩) (by simp <;> omega); have e2 := hb1.cell (p := ⟨w.heap.size, 2, none⟩) (by simp <;> omega); have e3 := hb1.cell (p := ⟨w.heap.size, 3, none⟩) (by simp <;> omega); have e4 := hb1.cell (p := ⟨w.heap.size, 4, none⟩) (by simp <;> omega); have d0 := hb1.cell (p := ⟨w.heap.size + 1, 0, none⟩) (by simp <;> omega); have d1 := hb1.cell (p := ⟨w.heap.size + 1, 1, none⟩) (by simp <;> omega); have d2 := hb1.cell (p := ⟨w.heap.size + 1, 2, none⟩) (by simp <;> omega); have d3 := hb1.cell (p := ⟨w.heap.size + 1, 3, none⟩) (by simp <;> omega); have d4 := hb1.cell (p := ⟨w.heap.size + 1, 4, none⟩) (by simp <;> omega); have hg1 := Gr.tr (gr_al2 w _ _) hb1)
    | (go_at_call 15; refine (within_any _ _ _ _).mono ?_; rintro e w2 ⟨rfl, rfl⟩)
    | (go_at_call 42; refine (iValidPart_any _ _ hn2).mono ?_; rintro e w3 ⟨rfl, rfl⟩))
  all_goals go_ret
  all_goals refine ⟨ret_bool ?_, by first | assumption | exact gr_al2 _ _ _ | exact gr_al _ _ | exact Below.drew (gr_al2 _ _ _)⟩
  all_goals rw [HR.out]
  all_goals try simp [*]
  all_goals try (intros; omega)
theorem iStmt1 (kind : Int) (mod : ByteArray) (level : Int) (name : ByteArray) (value : Int) (w : World) (hok : OkW w) (hm : mod.size ≤ 16777216) (hn : name.size ≤ 16777216) (k0 : (kind == 0) = false) (k1 : (kind == 1) = true) :
    Calls Tryd.prog 60 #[vSt ⟨kind, mod, level, name, value⟩] w fun e w' => e = .returned (.bool ((mod.toList.isEmpty || vName (bs mod)) && (decide (0 ≤ level) && decide (level ≤ 3)) && (!mod.toList.isEmpty || decide (0 < level)) && vPart (bs name) && (value == 0))) ∧ Gr w w' := by
  have hn2 : name.size ≤ maxLen := by unfold maxLen; omega
  obtain ⟨R, hR⟩ : ∃ R, R = ((mod.toList.isEmpty || vName (bs mod)) && (decide (0 ≤ level) && decide (level ≤ 3)) && (!mod.toList.isEmpty || decide (0 < level)) && vPart (bs name) && (value == 0)) := ⟨_, rfl⟩
  rw [← hR]
  have HR := Lib.hid hR
  clear hR
  go_enter Tryd.func60, Tryd.ntmps60
  go_wp2_with (first
    | (go_at_call 27; refine (iValidName_any _ _ hm ((hok.al _).al _)).mono ?_; rintro e w1 ⟨rfl, hb1⟩; have e0 := hb1.cell (p := ⟨w.heap.size, 0, none⟩) (by simp <;> omega); have e1 := hb1.cell (p := ⟨w.heap.size, 1, none⟩) (by simp <;> omega); have e2 := hb1.cell (p := ⟨w.heap.size, 2, none⟩) (by simp <;> omega); have e3 := hb1.cell (p := ⟨w.heap.size, 3, none⟩) (by simp <;> omega); have e4 := hb1.cell (p := ⟨w.heap.size, 4, none⟩) (by simp <;> omega); have d0 := hb1.cell (p := ⟨w.heap.size + 1, 0, none⟩) (by simp <;> omega); have d1 := hb1.cell (p := ⟨w.heap.size + 1, 1, none⟩) (by simp <;> omega); have d2 := hb1.cell (p := ⟨w.heap.size + 1, 2, none⟩) (by simp <;> omega); have d3 := hb1.cell (p := ⟨w.heap.size + 1, 3, none⟩) (by simp <;> omega); have d4 := hb1.cell (p := ⟨w.heap.size + 1, 4, none⟩) (by simp <;> omega); have hg1 := Gr.tr (gr_al2 w _ _) hb1)
    | (go_at_call 15; refine (within_any _ _ _ _).mono ?_; rintro e w2 ⟨rfl, rfl⟩)
    | (go_at_call 42; refine (iValidPart_any _ _ hn2).mono ?_; rintro e w3 ⟨rfl, rfl⟩))
  all_goals go_ret
  all_goals refine ⟨ret_bool ?_, by first | assumption | exact gr_al2 _ _ _ | exact gr_al _ _ | exact Below.drew (gr_al2 _ _ _)⟩
  all_goals rw [HR.out]
  all_goals have hne := vName_toList mod
  all_goals try simp [*]
  all_goals try (intros; omega)
theorem iStmt2 (kind : Int) (mod : ByteArray) (level : Int) (name : ByteArray) (value : Int) (w : World) (hok : OkW w) (hm : mod.size ≤ 16777216) (hn : name.size ≤ 16777216) (k0 : (kind == 0) = false) (k1 : (kind == 1) = false) (k2 : (kind == 2) = true) :
    Calls Tryd.prog 60 #[vSt ⟨kind, mod, level, name, value⟩] w fun e w' => e = .returned (.bool (vName (bs mod) && (level == 0) && name.toList.isEmpty && (value == 0))) ∧ Gr w w' := by
  have hn2 : name.size ≤ maxLen := by unfold maxLen; omega
  obtain ⟨R, hR⟩ : ∃ R, R = (vName (bs mod) && (level == 0) && name.toList.isEmpty && (value == 0)) := ⟨_, rfl⟩
  rw [← hR]
  have HR := Lib.hid hR
  clear hR
  go_enter Tryd.func60, Tryd.ntmps60
  go_wp2_with (first
    | (go_at_call 27; refine (iValidName_any _ _ hm ((hok.al _).al _)).mono ?_; rintro e w1 ⟨rfl, hb1⟩; have e0 := hb1.cell (p := ⟨w.heap.size, 0, none⟩) (by simp <;> omega); have e1 := hb1.cell (p := ⟨w.heap.size, 1, none⟩) (by simp <;> omega); have e2 := hb1.cell (p := ⟨w.heap.size, 2, none⟩) (by simp <;> omega); have e3 := hb1.cell (p := ⟨w.heap.size, 3, none⟩) (by simp <;> omega); have e4 := hb1.cell (p := ⟨w.heap.size, 4, none⟩) (by simp <;> omega); have d0 := hb1.cell (p := ⟨w.heap.size + 1, 0, none⟩) (by simp <;> omega); have d1 := hb1.cell (p := ⟨w.heap.size + 1, 1, none⟩) (by simp <;> omega); have d2 := hb1.cell (p := ⟨w.heap.size + 1, 2, none⟩) (by simp <;> omega); have d3 := hb1.cell (p := ⟨w.heap.size + 1, 3, none⟩) (by simp <;> omega); have d4 := hb1.cell (p := ⟨w.heap.size + 1, 4, none⟩) (by simp <;> omega); have hg1 := Gr.tr (gr_al2 w _ _) hb1)
    | (go_at_call 15; refine (within_any _ _ _ _).mono ?_; rintro e w2 ⟨rfl, rfl⟩)
    | (go_at_call 42; refine (iValidPart_any _ _ hn2).mono ?_; rintro e w3 ⟨rfl, rfl⟩))
  all_goals go_ret
  all_goals refine ⟨ret_bool ?_, by first | assumption | exact gr_al2 _ _ _ | exact gr_al _ _ | exact Below.drew (gr_al2 _ _ _)⟩
  all_goals rw [HR.out]
  all_goals try simp [*]
  all_goals try (intros; omega)
theorem iStmt3 (kind : Int) (mod : ByteArray) (level : Int) (name : ByteArray) (value : Int) (w : World) (hok : OkW w) (hm : mod.size ≤ 16777216) (hn : name.size ≤ 16777216) (k0 : (kind == 0) = false) (k1 : (kind == 1) = false) (k2 : (kind == 2) = false) (k3 : (kind == 3) = true) :
    Calls Tryd.prog 60 #[vSt ⟨kind, mod, level, name, value⟩] w fun e w' => e = .returned (.bool (mod.toList.isEmpty && (level == 0) && vPart (bs name) && (decide (0 ≤ value) && decide (value ≤ 99)))) ∧ Gr w w' := by
  have hn2 : name.size ≤ maxLen := by unfold maxLen; omega
  obtain ⟨R, hR⟩ : ∃ R, R = (mod.toList.isEmpty && (level == 0) && vPart (bs name) && (decide (0 ≤ value) && decide (value ≤ 99))) := ⟨_, rfl⟩
  rw [← hR]
  have HR := Lib.hid hR
  clear hR
  go_enter Tryd.func60, Tryd.ntmps60
  go_wp2
  go_region
  all_goals go_wp2_with (first
    | (go_at_call 27; refine (iValidName_any _ _ hm ((hok.al _).al _)).mono ?_; rintro e w1 ⟨rfl, hb1⟩; have e0 := hb1.cell (p := ⟨w.heap.size, 0, none⟩) (by simp <;> omega); have e1 := hb1.cell (p := ⟨w.heap.size, 1, none⟩) (by simp <;> omega); have e2 := hb1.cell (p := ⟨w.heap.size, 2, none⟩) (by simp <;> omega); have e3 := hb1.cell (p := ⟨w.heap.size, 3, none⟩) (by simp <;> omega); have e4 := hb1.cell (p := ⟨w.heap.size, 4, none⟩) (by simp <;> omega); have d0 := hb1.cell (p := ⟨w.heap.size + 1, 0, none⟩) (by simp <;> omega); have d1 := hb1.cell (p := ⟨w.heap.size + 1, 1, none⟩) (by simp <;> omega); have d2 := hb1.cell (p := ⟨w.heap.size + 1, 2, none⟩) (by simp <;> omega); have d3 := hb1.cell (p := ⟨w.heap.size + 1, 3, none⟩) (by simp <;> omega); have d4 := hb1.cell (p := ⟨w.heap.size + 1, 4, none⟩) (by simp <;> omega); have hg1 := Gr.tr (gr_al2 w _ _) hb1)
    | (go_at_call 15; refine (within_any _ _ _ _).mono ?_; rintro e w2 ⟨rfl, rfl⟩)
    | (go_at_call 42; refine (iValidPart_any _ _ hn2).mono ?_; rintro e w3 ⟨rfl, rfl⟩))
  all_goals go_ret
  all_goals refine ⟨ret_bool ?_, by first | assumption | exact gr_al2 _ _ _ | exact gr_al _ _ | exact Below.drew (gr_al2 _ _ _)⟩
  all_goals rw [HR.out]
  all_goals try simp [*]
  all_goals try (intros; omega)
theorem iStmt4 (kind : Int) (mod : ByteArray) (level : Int) (name : ByteArray) (value : Int) (w : World) (hok : OkW w) (hm : mod.size ≤ 16777216) (hn : name.size ≤ 16777216) (k0 : (kind == 0) = false) (k1 : (kind == 1) = false) (k2 : (kind == 2) = false) (k3 : (kind == 3) = false) (k4 : (kind == 4) = true) :
    Calls Tryd.prog 60 #[vSt ⟨kind, mod, level, name, value⟩] w fun e w' => e = .returned (.bool (mod.toList.isEmpty && (level == 0) && vPart (bs name) && (value == 0))) ∧ Gr w w' := by
  have hn2 : name.size ≤ maxLen := by unfold maxLen; omega
  obtain ⟨R, hR⟩ : ∃ R, R = (mod.toList.isEmpty && (level == 0) && vPart (bs name) && (value == 0)) := ⟨_, rfl⟩
  rw [← hR]
  have HR := Lib.hid hR
  clear hR
  go_enter Tryd.func60, Tryd.ntmps60
  go_wp2_with (first
    | (go_at_call 27; refine (iValidName_any _ _ hm ((hok.al _).al _)).mono ?_; rintro e w1 ⟨rfl, hb1⟩; have e0 := hb1.cell (p := ⟨w.heap.size, 0, none⟩) (by simp <;> omega); have e1 := hb1.cell (p := ⟨w.heap.size, 1, none⟩) (by simp <;> omega); have e2 := hb1.cell (p := ⟨w.heap.size, 2, none⟩) (by simp <;> omega); have e3 := hb1.cell (p := ⟨w.heap.size, 3, none⟩) (by simp <;> omega); have e4 := hb1.cell (p := ⟨w.heap.size, 4, none⟩) (by simp <;> omega); have d0 := hb1.cell (p := ⟨w.heap.size + 1, 0, none⟩) (by simp <;> omega); have d1 := hb1.cell (p := ⟨w.heap.size + 1, 1, none⟩) (by simp <;> omega); have d2 := hb1.cell (p := ⟨w.heap.size + 1, 2, none⟩) (by simp <;> omega); have d3 := hb1.cell (p := ⟨w.heap.size + 1, 3, none⟩) (by simp <;> omega); have d4 := hb1.cell (p := ⟨w.heap.size + 1, 4, none⟩) (by simp <;> omega); have hg1 := Gr.tr (gr_al2 w _ _) hb1)
    | (go_at_call 15; refine (within_any _ _ _ _).mono ?_; rintro e w2 ⟨rfl, rfl⟩)
    | (go_at_call 42; refine (iValidPart_any _ _ hn2).mono ?_; rintro e w3 ⟨rfl, rfl⟩))
  all_goals go_ret
  all_goals refine ⟨ret_bool ?_, by first | assumption | exact gr_al2 _ _ _ | exact gr_al _ _ | exact Below.drew (gr_al2 _ _ _)⟩
  all_goals rw [HR.out]
  all_goals try simp [*]
  all_goals try (intros; omega)
theorem iStmt5 (kind : Int) (mod : ByteArray) (level : Int) (name : ByteArray) (value : Int) (w : World) (hok : OkW w) (hm : mod.size ≤ 16777216) (hn : name.size ≤ 16777216) (k0 : (kind == 0) = false) (k1 : (kind == 1) = false) (k2 : (kind == 2) = false) (k3 : (kind == 3) = false) (k4 : (kind == 4) = false) (k5 : (kind == 5) = true) :
    Calls Tryd.prog 60 #[vSt ⟨kind, mod, level, name, value⟩] w fun e w' => e = .returned (.bool (mod.toList.isEmpty && (level == 0) && name.toList.isEmpty && (value == 0))) ∧ Gr w w' := by
  have hn2 : name.size ≤ maxLen := by unfold maxLen; omega
  obtain ⟨R, hR⟩ : ∃ R, R = (mod.toList.isEmpty && (level == 0) && name.toList.isEmpty && (value == 0)) := ⟨_, rfl⟩
  rw [← hR]
  have HR := Lib.hid hR
  clear hR
  go_enter Tryd.func60, Tryd.ntmps60
  go_wp2_with (first
    | (go_at_call 27; refine (iValidName_any _ _ hm ((hok.al _).al _)).mono ?_; rintro e w1 ⟨rfl, hb1⟩; have e0 := hb1.cell (p := ⟨w.heap.size, 0, none⟩) (by simp <;> omega); have e1 := hb1.cell (p := ⟨w.heap.size, 1, none⟩) (by simp <;> omega); have e2 := hb1.cell (p := ⟨w.heap.size, 2, none⟩) (by simp <;> omega); have e3 := hb1.cell (p := ⟨w.heap.size, 3, none⟩) (by simp <;> omega); have e4 := hb1.cell (p := ⟨w.heap.size, 4, none⟩) (by simp <;> omega); have d0 := hb1.cell (p := ⟨w.heap.size + 1, 0, none⟩) (by simp <;> omega); have d1 := hb1.cell (p := ⟨w.heap.size + 1, 1, none⟩) (by simp <;> omega); have d2 := hb1.cell (p := ⟨w.heap.size + 1, 2, none⟩) (by simp <;> omega); have d3 := hb1.cell (p := ⟨w.heap.size + 1, 3, none⟩) (by simp <;> omega); have d4 := hb1.cell (p := ⟨w.heap.size + 1, 4, none⟩) (by simp <;> omega); have hg1 := Gr.tr (gr_al2 w _ _) hb1)
    | (go_at_call 15; refine (within_any _ _ _ _).mono ?_; rintro e w2 ⟨rfl, rfl⟩)
    | (go_at_call 42; refine (iValidPart_any _ _ hn2).mono ?_; rintro e w3 ⟨rfl, rfl⟩))
  all_goals go_ret
  all_goals refine ⟨ret_bool ?_, by first | assumption | exact gr_al2 _ _ _ | exact gr_al _ _ | exact Below.drew (gr_al2 _ _ _)⟩
  all_goals rw [HR.out]
  all_goals try simp [*]
  all_goals try (intros; omega)
theorem iStmtX (kind : Int) (mod : ByteArray) (level : Int) (name : ByteArray) (value : Int) (w : World) (hok : OkW w) (hm : mod.size ≤ 16777216) (hn : name.size ≤ 16777216) (k0 : (kind == 0) = false) (k1 : (kind == 1) = false) (k2 : (kind == 2) = false) (k3 : (kind == 3) = false) (k4 : (kind == 4) = false) (k5 : (kind == 5) = false) :
    Calls Tryd.prog 60 #[vSt ⟨kind, mod, level, name, value⟩] w fun e w' => e = .returned (.bool (false)) ∧ Gr w w' := by
  have hn2 : name.size ≤ maxLen := by unfold maxLen; omega
  obtain ⟨R, hR⟩ : ∃ R, R = (false) := ⟨_, rfl⟩
  rw [← hR]
  have HR := Lib.hid hR
  clear hR
  go_enter Tryd.func60, Tryd.ntmps60
  go_wp2_with (first
    | (go_at_call 27; refine (iValidName_any _ _ hm ((hok.al _).al _)).mono ?_; rintro e w1 ⟨rfl, hb1⟩; have e0 := hb1.cell (p := ⟨w.heap.size, 0, none⟩) (by simp <;> omega); have e1 := hb1.cell (p := ⟨w.heap.size, 1, none⟩) (by simp <;> omega); have e2 := hb1.cell (p := ⟨w.heap.size, 2, none⟩) (by simp <;> omega); have e3 := hb1.cell (p := ⟨w.heap.size, 3, none⟩) (by simp <;> omega); have e4 := hb1.cell (p := ⟨w.heap.size, 4, none⟩) (by simp <;> omega); have d0 := hb1.cell (p := ⟨w.heap.size + 1, 0, none⟩) (by simp <;> omega); have d1 := hb1.cell (p := ⟨w.heap.size + 1, 1, none⟩) (by simp <;> omega); have d2 := hb1.cell (p := ⟨w.heap.size + 1, 2, none⟩) (by simp <;> omega); have d3 := hb1.cell (p := ⟨w.heap.size + 1, 3, none⟩) (by simp <;> omega); have d4 := hb1.cell (p := ⟨w.heap.size + 1, 4, none⟩) (by simp <;> omega); have hg1 := Gr.tr (gr_al2 w _ _) hb1)
    | (go_at_call 15; refine (within_any _ _ _ _).mono ?_; rintro e w2 ⟨rfl, rfl⟩)
    | (go_at_call 42; refine (iValidPart_any _ _ hn2).mono ?_; rintro e w3 ⟨rfl, rfl⟩))
  all_goals go_ret
  all_goals refine ⟨ret_bool ?_, by first | assumption | exact gr_al2 _ _ _ | exact gr_al _ _ | exact Below.drew (gr_al2 _ _ _)⟩
  all_goals rw [HR.out]
  all_goals try simp [*]
  all_goals try (intros; omega)
end Go.Proofs.YtepljjaienpepaaDoor
