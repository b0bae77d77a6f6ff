/-
  Walks over files and trees: their size, copy, comparison.
-/
import Derived.Test.YtomndnlpogikdabDoorBodyC
namespace Imp
open Go Go.RowKit
structure Fil where
  root : Int
  pkg : ByteArray
  name : ByteArray
  init : Bool
  stamp : Int
  body : List Stm
/-- A file and the slice value that its body is. -/
abbrev FR := Fil × Value
def eF (r : FR) : List Value := [.int .i64 r.1.root, .string r.1.pkg, .string r.1.name, .bool r.1.init, .int .i64 r.1.stamp, r.2]
abbrev vF (r : FR) : Value := .agg #[.int .i64 r.1.root, .string r.1.pkg, .string r.1.name, .bool r.1.init, .int .i64 r.1.stamp, r.2]
abbrev BodyR (w : World) (lo hi : Nat) (r : FR) : Prop := SlR w lo hi 5 eSt r.2 r.1.body
/-- A slice of files reads as the list, its bodies too. -/
def FlR (w : World) (lo hi : Nat) (v : Value) (L : List FR) : Prop := SlR w lo hi 6 eF v L ∧ ∀ r ∈ L, BodyR w lo hi r
def okF (f : Fil) : Prop := okI f.root ∧ f.pkg.size ≤ maxLen ∧ f.name.size ≤ maxLen ∧ okI f.stamp ∧ ∀ s ∈ f.body, okSt s
def szF (f : Fil) : Nat := f.pkg.size + f.name.size + (f.body.length + totB f.body)
def totF : List FR → Nat
  | [] => 0
  | s :: r => szF s.1 + totF r
theorem totF_snoc : ∀ (l : List FR) (s : FR), totF (l ++ [s]) = totF l + szF s.1
  | [], s => by simp [totF]
  | x :: l, s => by rw [List.cons_append, totF, totF_snoc l s, totF]; omega
theorem totF_take {l : List FR} {k : Nat} (h : k < l.length) : totF (l.take (k + 1)) = totF (l.take k) + szF l[k].1 := by
  rw [List.take_succ_eq_append_getElem h, totF_snoc]
theorem totF_mem : ∀ {l : List FR} {s : FR}, s ∈ l → szF s.1 ≤ totF l
  | x :: l, s, h => by
    rw [List.mem_cons] at h
    rw [totF]
    rcases h with rfl | h
    · omega
    · have := totF_mem h; omega
theorem cells_fil {w : World} {b o k : Nat} {x : FR} (h : ∀ j u, (eF x)[j]? = some u → w.cell? ⟨b, o + k * 6 + j, none⟩ = some u) :
    w.cell? ⟨b, o + k * 6, none⟩ = some (.int .i64 x.1.root) ∧ w.cell? ⟨b, o + k * 6 + 1, none⟩ = some (.string x.1.pkg) ∧ w.cell? ⟨b, o + k * 6 + 2, none⟩ = some (.string x.1.name) ∧
    w.cell? ⟨b, o + k * 6 + 3, none⟩ = some (.bool x.1.init) ∧ w.cell? ⟨b, o + k * 6 + 4, none⟩ = some (.int .i64 x.1.stamp) ∧ w.cell? ⟨b, o + k * 6 + 5, none⟩ = some x.2 :=
  ⟨h 0 _ rfl, h 1 _ rfl, h 2 _ rfl, h 3 _ rfl, h 4 _ rfl, h 5 _ rfl⟩
theorem FlR.below {w w' : World} {lo hi B : Nat} {v : Value} {L : List FR} (h : FlR w lo hi v L) (hb : Below B w w') (hB : hi ≤ B) : FlR w' lo hi v L :=
  ⟨h.1.below hb hB, fun r hr => SlR.below (h.2 r hr) hb hB⟩
end Imp
namespace Go.Proofs.YtomndnlpogikdabDoor
open Go Go.RowKit Imp
set_option linter.unusedVariables false

end Go.Proofs.YtomndnlpogikdabDoor
