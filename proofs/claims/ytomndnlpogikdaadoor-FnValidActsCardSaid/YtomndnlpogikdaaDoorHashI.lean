/-
  Walks: the hash of a body by closures; the laws on sizes and hashes of given bodies.
-/
import Derived.Test.YtomndnlpogikdaaDoorHash
import Derived.Laws.EntriesVeiled
namespace Imp
open Go Go.RowKit
theorem grown_drew' {w wr : World} {b : Nat} (h : w.grownBy wr (some b)) : w.grownBy wr.drew (some b) := ⟨h.os, h.tape, h.output, h.size, h.block⟩
theorem grown_tr {a b c : World} {g : Option Nat} (h : a.grownBy b g) (k : b.grownBy c g) : a.grownBy c g :=
  ⟨k.os.trans h.os, k.tape.trans h.tape, k.output.trans h.output, Nat.le_trans h.size k.size, fun i hi hne => (k.block i (Nat.lt_of_lt_of_le hi h.size) hne).trans (h.block i hi hne)⟩
theorem grown_set (w : World) (b o : Nat) (v : Value) : w.grownBy (w.setCell ⟨b, o, none⟩ v) (some b) :=
  ⟨rfl, rfl, rfl, by simp [World.setCell], fun i _ hi => Below.heap_setCell w _ _ i (by intro e; subst e; exact hi rfl)⟩
end Imp
namespace Go.Proofs.YtomndnlpogikdaaDoor
open Go Go.RowKit Imp
set_option linter.unusedVariables false

end Go.Proofs.YtomndnlpogikdaaDoor
