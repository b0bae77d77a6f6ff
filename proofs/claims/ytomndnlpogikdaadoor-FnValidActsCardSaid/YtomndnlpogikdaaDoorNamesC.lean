/-
  Walks on names, further: names resolved, relative names, names above, the package in common.
-/
import Derived.Test.YtomndnlpogikdaaDoorNamesB
import Derived.Test.YtomndnlpogikdaaDoorPlainD
namespace Imp
open Go
theorem underP_nil_r (s : List UInt8) : underP s [] = true := rfl
theorem vPkg_cases {l : List UInt8} (h : vPkg l = true) : l = [] ∨ vName l = true := by
  unfold vPkg at h
  rw [Bool.or_eq_true, List.isEmpty_iff] at h
  exact h
def resP (p : List UInt8) (level : Nat) (s : List UInt8) : List UInt8 :=
  if level = 0 then s else if (upP (level - 1) p).isEmpty then [] else childD (upP (level - 1) p) s
where childD (b s : List UInt8) : List UInt8 := if s.isEmpty then b else b ++ 46 :: s
def okRes (p : List UInt8) (level : Int) (s : List UInt8) : Bool := vPkg p && vPkg s && (decide (0 ≤ level) && decide (level ≤ 4))
def fRes (p : List UInt8) (level : Int) (s : List UInt8) : List UInt8 :=
  if okRes p level s then (if vName (resP p level.toNat s) then resP p level.toNat s else []) else []
end Imp
namespace Go.Proofs.YtomndnlpogikdaaDoor
open Go Go.RowKit Imp
set_option linter.unusedVariables false

theorem ret_ss {a b c d : Value} (h : a = c) (k : b = d) : Ending.returned (.tuple #[a, b]) = .returned (.tuple #[c, d]) := by rw [h, k]

end Go.Proofs.YtomndnlpogikdaaDoor
