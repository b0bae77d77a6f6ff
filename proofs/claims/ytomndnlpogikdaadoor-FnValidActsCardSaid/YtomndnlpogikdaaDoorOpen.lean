/-
  Files and trees as arguments.
-/
import Derived.Test.YtomndnlpogikdaaDoorTree
namespace Imp
open Go Go.RowKit Go.ChangeShapes Go.WideShapes Go.ChangeAt Go.Deep
section
variable {H : Type} {enc : TypeId × Value → H} {P : Program} {w : World} {base : Nat} {spare : Nat → Bool} {held : Bool}
theorem field_rows {α : Type} {e k : Nat} {cs : List Value} {off ft n : Nat} {o : Option (DataW H × List MemPlace)} (f : α → List Value) (Q : α → Prop) (hc : P.cellsOf ft = 1) (ht : P.underlying ft = some (.slice e)) (hk : P.cellsOf e = k) (hpos : 0 < k)
    (hrow : ∀ n cs' y, DataW.trod enc P w base spare held n e cs' = some y → ∃ z : α, cs' = f z ∧ Q z) (hs : o.isSome = true) (h : DataW.trod enc P w base spare held n ft ((cs.drop off).take (P.cellsOf ft)) = o) :
    ∃ v, cs[off]? = some v ∧ ∃ L : List α, SlR w 0 w.heap.size k f v L ∧ ∀ z ∈ L, Q z := by
  obtain ⟨y, rfl⟩ := Option.isSome_iff_exists.1 hs
  obtain ⟨v, e, L, h1, h2⟩ := open_rows f Q ht hk hpos hrow h
  rw [hc] at e
  exact ⟨v, take_one e, L, h1, h2⟩
end
theorem cells6 {w W : World} {b T : Nat} {a0 a1 a2 a3 a4 a5 : Value} (h : w.heap[b]? = some (.cells #[a0, a1, a2, a3, a4, a5] T (0, 0))) (hg : Below w.heap.size w W) :
    W.cell? ⟨b, 0, none⟩ = some a0 ∧ W.cell? ⟨b, 1, none⟩ = some a1 ∧ W.cell? ⟨b, 2, none⟩ = some a2 ∧ W.cell? ⟨b, 3, none⟩ = some a3 ∧ W.cell? ⟨b, 4, none⟩ = some a4 ∧ W.cell? ⟨b, 5, none⟩ = some a5 := by
  have h' := (hg.block b (lt_of_block h)).trans h
  exact ⟨by rw [cell_of_row W b 0 _ _ _ h']; rfl, by rw [cell_of_row W b 1 _ _ _ h']; rfl, by rw [cell_of_row W b 2 _ _ _ h']; rfl, by rw [cell_of_row W b 3 _ _ _ h']; rfl, by rw [cell_of_row W b 4 _ _ _ h']; rfl, by rw [cell_of_row W b 5 _ _ _ h']; rfl⟩
end Imp
namespace Go.Proofs.YtomndnlpogikdaaDoor
open Go Go.RowKit Go.ChangeShapes Go.WideShapes Go.ChangeAt Go.Deep Imp
set_option linter.unusedVariables false
section
variable {H : Type} {enc : TypeId × Value → H} {W : World} {base : Nat} {v : Value} {d : DataW H} {p : List MemPlace}
set_option maxRecDepth 100000 in
theorem row_file {n : Nat} {cs : List Value} {y : DataW H × List MemPlace} {base : Nat} {spare : Nat → Bool} {held : Bool} (h : DataW.trod enc Tryd.prog W base spare held n 27 cs = some y) : ∃ z : FR, cs = eF z ∧ (okF z.1 ∧ BodyR W 0 W.heap.size z) := by
  obtain ⟨xs, n', _, _, hl, hxs, hf⟩ := DataW.trod_struct Tryd.underlying27 h
  have hl6 : cs.length = 6 := hl.trans (by kernel_rfl)
  obtain ⟨a, ha, qa⟩ := field_int (by kernel_rfl) Tryd.underlying3 (some_at hxs (by decide)) (hf 0 _ rfl)
  obtain ⟨b, hb, qb⟩ := field_string (by kernel_rfl) Tryd.underlying9 (some_at hxs (by decide)) (hf 1 _ rfl)
  obtain ⟨c, hc, qc⟩ := field_string (by kernel_rfl) Tryd.underlying9 (some_at hxs (by decide)) (hf 2 _ rfl)
  obtain ⟨d, hd⟩ := field_bool (by kernel_rfl) Tryd.underlying4 (some_at hxs (by decide)) (hf 3 _ rfl)
  obtain ⟨e, he, qe⟩ := field_int (by kernel_rfl) Tryd.underlying3 (some_at hxs (by decide)) (hf 4 _ rfl)
  obtain ⟨u, hu, L, hL, qL⟩ := field_rows (k := 5) eSt okSt (by kernel_rfl) Tryd.underlying25 (by kernel_rfl) (by decide) (fun n cs' y hy => row_stmt hy) (some_at hxs (by decide)) (hf 5 _ rfl)
  refine ⟨(⟨a, b, c, d, e, L⟩, u), ?_, ⟨qa, qb, qc, qe, qL⟩, hL⟩
  match cs, hl6 with
  | [x0, x1, x2, x3, x4, x5], _ =>
    have ha : x0 = _ := Option.some.inj ha
    have hb : x1 = _ := Option.some.inj hb
    have hc : x2 = _ := Option.some.inj hc
    have hd : x3 = _ := Option.some.inj hd
    have he : x4 = _ := Option.some.inj he
    have hu : x5 = _ := Option.some.inj hu
    rw [ha, hb, hc, hd, he, hu]; rfl
set_option maxRecDepth 100000 in
theorem open_arg_file (hv : Value.okWide Tryd.prog W .any base 27 v) (h : DataW.Trod enc Tryd.prog W 0 (fun _ => true) true 27 v d p) (_hs : (DataW.weights Tryd.prog 27 d).all (fun x => decide (x ≤ reachBytes)) = true) :
    ∃ r : FR, v = vF r ∧ okF r.1 ∧ BodyR W 0 W.heap.size r := by
  obtain ⟨cs, rfl, _⟩ := okWide_struct Tryd.underlying27 hv
  obtain ⟨fuel, hf⟩ := h
  obtain ⟨z, e, h1, h2⟩ := row_file hf
  have e' : cs.toList = eF z := by simpa [Value.cells] using e
  have : cs = (eF z).toArray := by rw [← e']
  exact ⟨z, by rw [this]; rfl, h1, h2⟩
set_option maxRecDepth 100000 in
theorem open_arg_tree (hv : Value.okWide Tryd.prog W .any base 24 v) (h : DataW.Trod enc Tryd.prog W 0 (fun _ => true) true 24 v d p) (_hs : (DataW.weights Tryd.prog 24 d).all (fun x => decide (x ≤ reachBytes)) = true) :
    ∃ L : List FR, ∃ u, v = .agg #[u] ∧ FlR W 0 W.heap.size u L ∧ ∀ r ∈ L, okF r.1 := by
  obtain ⟨cs, rfl, _⟩ := okWide_struct Tryd.underlying24 hv
  obtain ⟨fuel, hf⟩ := h
  obtain ⟨xs, n', _, _, hl, hxs, hf⟩ := DataW.trod_struct Tryd.underlying24 hf
  have hl1 : (Value.cells (.agg cs)).toList.length = 1 := hl.trans (by kernel_rfl)
  obtain ⟨u, hu, L, hL, qL⟩ := field_rows (k := 6) eF (fun z : FR => okF z.1 ∧ BodyR W 0 W.heap.size z) (by kernel_rfl) Tryd.underlying22 (by kernel_rfl) (by decide) (fun n cs' y hy => row_file hy) (some_at hxs (by decide)) (hf 0 _ rfl)
  have hu' : cs.toList[0]? = some u := by simpa [Value.cells] using hu
  have hl1' : cs.toList.length = 1 := by simpa [Value.cells] using hl1
  have e' : cs.toList = [u] := by
    match hcs : cs.toList, hl1' with
    | [x0], _ => rw [hcs] at hu'; have : x0 = u := Option.some.inj hu'; rw [this]
  have : cs = #[u] := by
    have := congrArg List.toArray e'
    simpa using this
  exact ⟨L, u, by rw [this], ⟨hL, fun r hr => (qL r hr).2⟩, fun r hr => (qL r hr).1⟩
end
end Go.Proofs.YtomndnlpogikdaaDoor
