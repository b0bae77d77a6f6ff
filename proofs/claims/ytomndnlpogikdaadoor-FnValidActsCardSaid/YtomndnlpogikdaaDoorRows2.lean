/-
  Slices of structs: what their rows are, and how an argument of that kind is opened.
-/
import Derived.Test.YtomndnlpogikdaaDoorShut
namespace Imp
open Go Go.RowKit Go.ChangeShapes Go.WideShapes Go.ChangeAt Go.Deep

structure Stm where
  kind : Int
  mod : ByteArray
  level : Int
  name : ByteArray
  value : Int
def eSt (s : Stm) : List Value := [.int .i64 s.kind, .string s.mod, .int .i64 s.level, .string s.name, .int .i64 s.value]
def okI (n : Int) : Prop := -9223372036854775808 ≤ n ∧ n ≤ 9223372036854775807
def okSt (s : Stm) : Prop := okI s.kind ∧ s.mod.size ≤ maxLen ∧ okI s.level ∧ s.name.size ≤ maxLen ∧ okI s.value
structure Cmd where
  kind : Int
  name : ByteArray
def eCm (s : Cmd) : List Value := [.int .i64 s.kind, .string s.name]
def okCm (s : Cmd) : Prop := okI s.kind ∧ s.name.size ≤ maxLen

section
variable {H : Type} {enc : TypeId × Value → H} {P : Program} {w : World} {base : Nat} {spare : Nat → Bool} {held : Bool}

theorem okI_of {n : Int} (h : (Lit.int .i64 n).wf = true) : okI n := by simpa [Lit.wf, IntKind.min, IntKind.max, IntKind.signed, IntKind.bits, okI] using h
theorem take_one {cs : List Value} {off : Nat} {v : Value} (h : (cs.drop off).take 1 = [v]) : cs[off]? = some v := by
  cases e : cs.drop off with
  | nil => rw [e] at h; cases h
  | cons x r =>
    rw [e] at h
    have hx : x = v := by injection h
    rw [← hx, ← Nat.add_zero off, ← List.getElem?_drop, e]; rfl
theorem field_int {cs : List Value} {off ft n : Nat} {o : Option (DataW H × List MemPlace)} (hc : P.cellsOf ft = 1) (ht : P.underlying ft = some (.int .i64)) (hs : o.isSome = true) (h : DataW.trod enc P w base spare held n ft ((cs.drop off).take (P.cellsOf ft)) = o) :
    ∃ z, cs[off]? = some (.int .i64 z) ∧ okI z := by
  obtain ⟨y, rfl⟩ := Option.isSome_iff_exists.1 hs
  obtain ⟨z, h1, _, h2⟩ := DataW.trod_int ht h
  rw [hc] at h1
  exact ⟨z, take_one h1, okI_of h2⟩
theorem field_string {cs : List Value} {off ft n : Nat} {o : Option (DataW H × List MemPlace)} (hc : P.cellsOf ft = 1) (ht : P.underlying ft = some .string) (hs : o.isSome = true) (h : DataW.trod enc P w base spare held n ft ((cs.drop off).take (P.cellsOf ft)) = o) :
    ∃ z : ByteArray, cs[off]? = some (.string z) ∧ z.size ≤ maxLen := by
  obtain ⟨y, rfl⟩ := Option.isSome_iff_exists.1 hs
  obtain ⟨z, h1, _, h2⟩ := DataW.trod_string ht h
  rw [hc] at h1
  exact ⟨z, take_one h1, h2⟩
theorem field_bool {cs : List Value} {off ft n : Nat} {o : Option (DataW H × List MemPlace)} (hc : P.cellsOf ft = 1) (ht : P.underlying ft = some .bool) (hs : o.isSome = true) (h : DataW.trod enc P w base spare held n ft ((cs.drop off).take (P.cellsOf ft)) = o) :
    ∃ z : Bool, cs[off]? = some (.bool z) := by
  obtain ⟨y, rfl⟩ := Option.isSome_iff_exists.1 hs
  obtain ⟨z, h1, _⟩ := DataW.trod_bool ht h
  rw [hc] at h1
  exact ⟨z, take_one h1⟩
theorem some_at {α : Type} {xs : List α} {n i : Nat} (h : xs.length = n) (hi : i < n) : (xs[i]?).isSome = true := by rw [List.getElem?_eq_getElem (by omega)]; rfl

/-- A slice whose cells lie at its address reads as the list. -/
theorem SlR_of_cells' {α : Type} {w : World} {k : Nat} {enc : α → List Value} {x : Addr} {c : Nat} (L : List α) (h1 : L.length ≤ c) (h2 : c ≤ maxLen) (hpos : ∀ y ∈ L, 0 < (enc y).length)
    (hc : ∀ i (h : i < L.length) j u, (enc L[i])[j]? = some u → w.cell? (x.add (i * k + j)) = some u) : SlR w 0 w.heap.size k enc (.slice (some x) L.length c) L := by
  refine ⟨_, c, rfl, h1, h2, fun i hi => ?_⟩
  have h0 := hpos L[0] (List.getElem_mem (by omega))
  have hx := hc 0 (by omega) 0 _ (List.getElem?_eq_getElem h0)
  have e0 : x.add (0 * k + 0) = x := by simp [Addr.add]
  rw [e0] at hx
  have hb : x.block < w.heap.size := World.block_lt_of_cell? w x hx
  obtain ⟨b, o, sp⟩ := x
  have hsp : sp = none := by
    cases sp with
    | none => rfl
    | some s => exfalso; unfold World.cell? at hx; split at hx <;> simp at hx
  subst hsp
  refine ⟨b, o, rfl, ⟨Nat.zero_le _, hb⟩, fun j u hu => ?_⟩
  have h := hc i hi j u hu
  have e : (⟨b, o, none⟩ : Addr).add (i * k + j) = ⟨b, o + i * k + j, none⟩ := by
    unfold Addr.add
    split
    · rename_i h; rw [Nat.add_assoc, h]; rfl
    · rw [Nat.add_assoc]
  rwa [e] at h


/-- A slice of rows of 'k' cells, opened. -/
theorem open_rows {α : Type} {t e k fuel : Nat} {cs : List Value} {x : DataW H × List MemPlace} (f : α → List Value) (Q : α → Prop) (ht : P.underlying t = some (.slice e)) (hk : P.cellsOf e = k) (hpos : 0 < k)
    (hrow : ∀ n cs' y, DataW.trod enc P w base spare held n e cs' = some y → ∃ z : α, cs' = f z ∧ Q z) (h : DataW.trod enc P w base spare held fuel t cs = some x) :
    ∃ v, cs = [v] ∧ ∃ L : List α, SlR w 0 w.heap.size k f v L ∧ ∀ z ∈ L, Q z := by
  rcases open_slice ht h with ⟨rfl, _⟩ | ⟨a, len, cap, m, n, D, Pl, rfl, hb, hl, hm, hmm, rfl, hx⟩
  · exact ⟨_, rfl, [], SlR.nil _ _ 0 (Nat.zero_le _) _, by simp⟩
  · refine ⟨_, rfl, ?_⟩
    have hlm : len ≤ m := by rw [hmm]; split <;> omega
    have each : ∀ i, i < len → ∃ z : α, (f z).length = k ∧ (∀ j u, (f z)[j]? = some u → w.cell? ((a.add (i * k)).add j) = some u) ∧ Q z := fun i hi => by
      obtain ⟨cs', h1, h2⟩ := hx i (by omega)
      obtain ⟨z, rfl, hq⟩ := hrow _ _ _ h2
      rw [hk] at h1
      obtain ⟨_, h4, h5⟩ := World.cells?_some h1
      refine ⟨z, h4, fun j u hu => ?_, hq⟩
      rw [h5 j (by rw [← h4]; exact (List.getElem?_eq_some_iff.1 hu).1)]; exact hu
    by_cases h0 : len = 0
    · subst h0
      exact ⟨[], SlR.nil _ _ cap (by unfold maxLen at *; omega) _, by simp⟩
    · obtain ⟨z0, _⟩ := each 0 (by omega)
      haveI : Inhabited α := ⟨z0⟩
      obtain ⟨Z, hZ⟩ := choose_lt each
      have hlen : ((List.range len).map Z).length = len := by simp
      refine ⟨(List.range len).map Z, ?_, ?_⟩
      · have := SlR_of_cells' (w := w) (k := k) (enc := f) (x := a) (c := cap) ((List.range len).map Z) (by omega) hm (fun y hy => by
          rw [List.mem_map] at hy
          obtain ⟨i, hi, rfl⟩ := hy
          rw [(hZ i (List.mem_range.1 hi)).1]; exact hpos) (fun i hi j u hu => by
          rw [hlen] at hi
          rw [← add_add]
          exact (hZ i hi).2.1 j u (by simpa using hu))
        rwa [hlen] at this
      · intro z hz
        rw [List.mem_map] at hz
        obtain ⟨i, hi, rfl⟩ := hz
        exact (hZ i (List.mem_range.1 hi)).2.2
end
end Imp
namespace Go.Proofs.YtomndnlpogikdaaDoor
open Go Go.RowKit Go.ChangeShapes Go.WideShapes Go.ChangeAt Go.Deep Imp
set_option linter.unusedVariables false
section
variable {H : Type} {enc : TypeId × Value → H} {W : World} {base : Nat} {v : Value} {d : DataW H} {p : List MemPlace}
theorem cells_slice (a : Option Addr) (l c : Nat) : (Value.slice a l c).cells.toList = [.slice a l c] := by simp [Value.cells]
set_option maxRecDepth 100000 in
theorem open_arg_strings (hv : Value.okWide Tryd.prog W .any base 114 v) (h : DataW.Trod enc Tryd.prog W 0 (fun _ => true) true 114 v d p) (_hs : (DataW.weights Tryd.prog 114 d).all (fun x => decide (x ≤ reachBytes)) = true) :
    ∃ L : List ByteArray, SlR W 0 W.heap.size 1 eS v L ∧ ∀ s ∈ L, s.size ≤ maxLen := by
  obtain ⟨a0, len0, cap0, rfl⟩ := okWide_slice Tryd.underlying114 hv
  obtain ⟨fuel, hf⟩ := h
  obtain ⟨v, e, L, h1, h2⟩ := open_rows (P := Tryd.prog) (k := 1) eS (fun s => s.size ≤ maxLen) Tryd.underlying114 (by kernel_rfl) (by decide) (fun n cs' y hy => by
    obtain ⟨s, rfl, _, hs⟩ := DataW.trod_string Tryd.underlying9 hy
    exact ⟨s, rfl, hs⟩) hf
  rw [cells_slice] at e
  injection e with e
  subst e
  exact ⟨L, h1, h2⟩
set_option maxRecDepth 100000 in
theorem row_stmt {n : Nat} {cs : List Value} {y : DataW H × List MemPlace} {base : Nat} {spare : Nat → Bool} {held : Bool} (h : DataW.trod enc Tryd.prog W base spare held n 77 cs = some y) : ∃ z : Stm, cs = eSt z ∧ okSt z := by
  obtain ⟨xs, n', _, _, hl, hxs, hf⟩ := DataW.trod_struct Tryd.underlying77 h
  have hl5 : cs.length = 5 := hl.trans (by kernel_rfl)
  obtain ⟨a, ha, qa⟩ := field_int (by kernel_rfl) Tryd.underlying3 (some_at hxs (by decide)) (hf 0 _ rfl)
  obtain ⟨b, hb, qb⟩ := field_string (by kernel_rfl) Tryd.underlying9 (some_at hxs (by decide)) (hf 1 _ rfl)
  obtain ⟨c, hc, qc⟩ := field_int (by kernel_rfl) Tryd.underlying3 (some_at hxs (by decide)) (hf 2 _ rfl)
  obtain ⟨d, hd, qd⟩ := field_string (by kernel_rfl) Tryd.underlying9 (some_at hxs (by decide)) (hf 3 _ rfl)
  obtain ⟨e, he, qe⟩ := field_int (by kernel_rfl) Tryd.underlying3 (some_at hxs (by decide)) (hf 4 _ rfl)
  refine ⟨⟨a, b, c, d, e⟩, ?_, qa, qb, qc, qd, qe⟩
  match cs, hl5 with
  | [x0, x1, x2, x3, x4], _ =>
    have ha : x0 = _ := Option.some.inj ha
    have hb : x1 = _ := Option.some.inj hb
    have hc : x2 = _ := Option.some.inj hc
    have hd : x3 = _ := Option.some.inj hd
    have he : x4 = _ := Option.some.inj he
    rw [ha, hb, hc, hd, he]; rfl
set_option maxRecDepth 100000 in
theorem open_arg_stmts (hv : Value.okWide Tryd.prog W .any base 25 v) (h : DataW.Trod enc Tryd.prog W 0 (fun _ => true) true 25 v d p) (_hs : (DataW.weights Tryd.prog 25 d).all (fun x => decide (x ≤ reachBytes)) = true) :
    ∃ L : List Stm, SlR W 0 W.heap.size 5 eSt v L ∧ ∀ s ∈ L, okSt s := by
  obtain ⟨a0, len0, cap0, rfl⟩ := okWide_slice Tryd.underlying25 hv
  obtain ⟨fuel, hf⟩ := h
  obtain ⟨v, e, L, h1, h2⟩ := open_rows (P := Tryd.prog) (k := 5) eSt okSt Tryd.underlying25 (by kernel_rfl) (by decide) (fun n cs' y hy => row_stmt hy) hf
  rw [cells_slice] at e
  injection e with e
  subst e
  exact ⟨L, h1, h2⟩
end
end Go.Proofs.YtomndnlpogikdaaDoor
