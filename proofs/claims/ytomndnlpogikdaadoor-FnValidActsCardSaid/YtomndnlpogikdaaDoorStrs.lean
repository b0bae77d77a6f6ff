/-
  Walks over slices of strings: their size, their copy; names joined of parts.
-/
import Derived.Test.YtomndnlpogikdaaDoorNamesF
import Derived.Test.YtomndnlpogikdaaDoorMark
namespace Imp
open Go Go.RowKit
def totS : List ByteArray → Nat
  | [] => 0
  | s :: r => s.size + totS r
theorem totS_snoc : ∀ (l : List ByteArray) (s : ByteArray), totS (l ++ [s]) = totS l + s.size
  | [], s => by simp [totS]
  | x :: l, s => by rw [List.cons_append, totS, totS_snoc l s, totS]; omega
theorem totS_take {l : List ByteArray} {k : Nat} (h : k < l.length) : totS (l.take (k + 1)) = totS (l.take k) + l[k].size := by
  rw [List.take_succ_eq_append_getElem h, totS_snoc]
theorem totS_mem : ∀ {l : List ByteArray} {s : ByteArray}, s ∈ l → s.size ≤ totS l
  | x :: l, s, h => by
    rw [List.mem_cons] at h
    rw [totS]
    rcases h with rfl | h
    · omega
    · have := totS_mem h; omega
theorem jn_tot : ∀ l : List ByteArray, (jn (l.map bs)).length ≤ l.length + totS l
  | [] => by simp [jn]
  | [x] => by simp [jn, totS]
  | x :: y :: l => by
    have ih := jn_tot (y :: l)
    rw [List.map_cons, jn_cons (by simp), List.length_append, List.length_cons, bs_length, totS, List.length_cons]
    omega
def fJoin (P : List (List UInt8)) : List UInt8 := if P.all vPart && vName (jn P) then jn P else []
end Imp
namespace Go.Proofs.YtomndnlpogikdaaDoor
open Go Go.RowKit Imp
set_option linter.unusedVariables false

theorem slr_eL {w : World} {lo hi : Nat} {v : Value} {L : List ByteArray} (h : SlR w lo hi 1 eS v L) : SlR w lo hi 1 eL v (L.map bs) := by
  obtain ⟨a, c, rfl, h1, h2, h3⟩ := h
  refine ⟨a, c, by rw [List.length_map], by rw [List.length_map]; exact h1, h2, fun i hi => ?_⟩
  rw [List.length_map] at hi
  obtain ⟨b, o, e, hb, hc⟩ := h3 i hi
  refine ⟨b, o, e, hb, fun j u hu => hc j u ?_⟩
  rw [List.getElem_map, eL, mk_bs] at hu
  exact hu

end Go.Proofs.YtomndnlpogikdaaDoor
