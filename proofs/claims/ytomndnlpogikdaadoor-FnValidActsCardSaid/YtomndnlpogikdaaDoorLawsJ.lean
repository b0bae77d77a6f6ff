/-
  Walks: parts drawn and joined.
-/
import Derived.Test.YtomndnlpogikdaaDoorLawsH
namespace Go.Proofs.YtomndnlpogikdaaDoor
open Go Go.RowKit Imp
set_option linter.unusedVariables false

theorem Rdr.grown {w w' : World} {g p : Nat} {r : Option Nat} (h : Rdr w g p) (k : w.grownBy w' r) (hne : ∀ b, r = some b → g < b) : Rdr w' g p := by
  have hlt := h.lt
  obtain ⟨bv, M, hg, hM, h1, h2⟩ := h
  refine ⟨bv, M, (k.block g hlt ?_).trans hg, hM.keep (Same.of_grown k (by omega) (fun b e => .inr (by have := hne b e; omega))), h1, h2⟩
  intro e
  have := hne g e.symm
  omega
theorem Own.keepR {α : Type} {enc : α → List Value} {w w' : World} {base e k g : Nat} {v : Value} {L : List α} (h : Own w base e k enc v L) (hg : w.grownBy w' (some g)) (hb : g < base) : Own w' base e k enc v L :=
  h.keep (fun b e => hg.block b (h.block b e).2 (by intro q; injection q with q; have := (h.block b e).1; omega))
theorem slr_cell {w : World} {lo hi n c : Nat} {a : Option Addr} {P : List (List UInt8)} (h : SlR w lo hi 1 eL (.slice a n c) P) {k : Nat} (hk : k < P.length) :
    ∃ b o, a = some ⟨b, o, none⟩ ∧ b < hi ∧ w.cell? ⟨b, o + k, none⟩ = some (.string (mk P[k])) := by
  obtain ⟨a', c', e, h1, h2, h3⟩ := h
  injection e with e1 e2 e3
  subst e1
  obtain ⟨b, o, e', hb, hc⟩ := h3 k hk
  refine ⟨b, o, e', hb.2, ?_⟩
  have := hc 0 _ rfl
  simpa using this
theorem below_drewN' {a b c : World} {n : Nat} (h : Gr a b) (k : Gr (b.drewN n) c) : Gr a c := Gr.tr (below_drewN h n) k
theorem gr_cell {w w' : World} (h : Gr w w') {b o : Nat} {x : Value} (hb : b < w.heap.size) (c : w.cell? ⟨b, o, none⟩ = some x) : w'.cell? ⟨b, o, none⟩ = some x := by
  rw [World.cell?_of_block (w := w) (a := ⟨b, o, none⟩) (h.block b hb)]
  exact c

end Go.Proofs.YtomndnlpogikdaaDoor
