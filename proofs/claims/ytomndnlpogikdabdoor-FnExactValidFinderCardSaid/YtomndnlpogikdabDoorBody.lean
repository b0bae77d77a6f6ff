/-
  Walks over statements: their size, copy, comparison, validity.
-/
import Derived.Test.YtomndnlpogikdabDoorRows2
import Derived.Test.YtomndnlpogikdabDoorStrs
namespace Imp
open Go Go.RowKit
abbrev vSt (s : Stm) : Value := .agg #[.int .i64 s.kind, .string s.mod, .int .i64 s.level, .string s.name, .int .i64 s.value]
def szSt (s : Stm) : Nat := s.mod.size + s.name.size
def totB : List Stm → Nat
  | [] => 0
  | s :: r => szSt s + totB r
theorem totB_snoc : ∀ (l : List Stm) (s : Stm), totB (l ++ [s]) = totB l + szSt s
  | [], s => by simp [totB]
  | x :: l, s => by rw [List.cons_append, totB, totB_snoc l s, totB]; omega
theorem totB_take {l : List Stm} {k : Nat} (h : k < l.length) : totB (l.take (k + 1)) = totB (l.take k) + szSt l[k] := by
  rw [List.take_succ_eq_append_getElem h, totB_snoc]
theorem totB_mem : ∀ {l : List Stm} {s : Stm}, s ∈ l → szSt s ≤ totB l
  | x :: l, s, h => by
    rw [List.mem_cons] at h
    rw [totB]
    rcases h with rfl | h
    · omega
    · have := totB_mem h; omega
/-- The five cells of a row. -/
theorem cells_stm {w : World} {b o k : Nat} {x : Stm} (h : ∀ j u, (eSt x)[j]? = some u → w.cell? ⟨b, o + k * 5 + j, none⟩ = some u) :
    w.cell? ⟨b, o + k * 5, none⟩ = some (.int .i64 x.kind) ∧ w.cell? ⟨b, o + k * 5 + 1, none⟩ = some (.string x.mod) ∧ w.cell? ⟨b, o + k * 5 + 2, none⟩ = some (.int .i64 x.level) ∧
    w.cell? ⟨b, o + k * 5 + 3, none⟩ = some (.string x.name) ∧ w.cell? ⟨b, o + k * 5 + 4, none⟩ = some (.int .i64 x.value) :=
  ⟨h 0 _ rfl, h 1 _ rfl, h 2 _ rfl, h 3 _ rfl, h 4 _ rfl⟩
end Imp
namespace Go.Proofs.YtomndnlpogikdabDoor
open Go Go.RowKit Imp
set_option linter.unusedVariables false

theorem heap_alloc3_mid (w : World) (A B C : Obj) : (((w.alloc A).alloc B).alloc C).heap[w.heap.size + 1]? = some B := by
  rw [Below.heap_alloc _ _ _ (by simp)]; exact heap_alloc2_new w A B
theorem gr_alloc3 (w : World) (A B C : Obj) : Gr w (((w.alloc A).alloc B).alloc C) :=
  (((Below.refl _ w).alloc (Nat.le_refl _) _).alloc (by simp) _).alloc (by simp; omega) _
end Go.Proofs.YtomndnlpogikdabDoor
