/-
  What every claim of this seat takes at its end: the way from a walk to the row.
-/
import Derived.Test.YtepljjaienpepaaDoorRows
import Derived.HandedShaped
import Derived.LaidLaws
import Derived.WalkKit
import Derived.ProofKit
import Derived.OpenShut
import Derived.Deep.Slices
import Derived.Deep.Fields
import Derived.ChangeSame
import Derived.Test.YtepljjaienpepaaDoorZ1
import Derived.Test.YtepljjaienpepaaDoorNamesBZ
import Derived.Test.YtepljjaienpepaaDoorZ2
import Derived.Laws.IdiomStrings
namespace Go.Proofs.YtepljjaienpepaaDoor
open Go Go.RowKit Go.ChangeShapes Go.WideShapes Go.ChangeAt Go.Deep Imp

theorem laidOut : laidOutB Tryd.prog = true := by kernel_rfl
theorem okW_of_shaped {w : World} (h : w.ShapedOpen Tryd.prog) : OkW w := Tryd.laysM146.s1_3 w h

/-- The wrap for a row that lists variables, handing over the reach and the world's shape. -/
theorem returnsInHanded_of_change_and_shaped {H : Type} {enc : TypeId × Value → H} {a : Assume} {C : Checked} {os : Os} {f : FuncId} {fn : Func} {s : ChangeSpec} {conds : List PathCond} {apart fresh handsOn again : Bool} {X : World → Array Value → Prop}
    (hX : ∀ (w w' : World) (args : Array Value), w.heap = w'.heap → X w args → X w' args)
    (own : ownKnob C.prog.godebug = none) (started : os.Started) (noInit : C.prog.inits.idxOf? f = none) (hfn : C.prog.funcs[f]? = some fn)
    (witness : ∃ (w : World) (tape : Tape) (i : Input), w.os = os ∧ (w.forCall tape i).Shaped C.prog ∧ i.vars = [] ∧ Input.okWide C.prog (w.forCall tape i) .any w.heap.size f i ∧
      ((s.pre enc C.prog fn conds apart (w.forCall tape i).memory i.args ∧ X (w.forCall tape i).memory i.args) ∧ sizedMet enc C.prog fn (OpenSpec.ofChange s) apart (w.forCall tape i).memory i.args) ∧ a.holds C.prog (lone (Frame.enter C.prog f i.args .normal) [] (w.forCall tape i)))
    (contract : ∀ (W : World) (base : Nat) (args : Array Value) (ds gs : List (DataW H)) (before : List MemPlace),
      (∀ (j : Nat) t v, fn.params[j]? = some t → args[j]? = some v → Value.okWide C.prog W .any base t v) →
      DataW.Whole enc C.prog fn.params.toList s.vars apart W args.toList ds gs before →
      conds.all (PathCond.test C.prog ⟨fn.params.toList, ds, s.plain.varTypes C.prog, gs⟩) = true →
      (DataW.weightsEach C.prog (fn.params.toList ++ s.plain.varTypes C.prog) (ds ++ gs)).all (· ≤ reachBytes) = true → X W args →
      W.ShapedOpen C.prog →
      a.holds C.prog (lone (Frame.enter C.prog f args .normal) [] W) →
      Calls C.prog f args W fun e W' => ∃ v, e = .returned v ∧ s.post enc C.prog fn apart fresh handsOn again W args v W') :
    ReturnsInHanded a C os f .any (fun w args => (s.pre enc C.prog fn conds apart w args ∧ X w args) ∧ sizedMet enc C.prog fn (OpenSpec.ofChange s) apart w args) (s.post enc C.prog fn apart fresh handsOn again) := by
  refine returnsInHanded_of_calls own started noInit witness ?_
  intro w tape i _ hsh _ hok hpre hholds
  obtain ⟨_, _, _, fn', hfn', _, _, _, _, hval⟩ := hok
  have e : fn' = fn := Option.some.inj (hfn'.symm.trans hfn)
  subst e
  obtain ⟨⟨⟨ds, gs, before, hw, hc⟩, hx⟩, hz⟩ := hpre
  have hw' := DataW.Whole.of_heap (w' := w.forCall tape i) (by rfl) hw
  refine (contract (w.forCall tape i) w.heap.size i.args ds gs before hval hw' hc (hz.weights hw) (hX _ _ _ (by rfl) hx) hsh hholds).mono fun e W' ⟨v, he, hp⟩ => ?_
  subst he
  exact ChangeSpec.post_blind hp

/-- A slice whose cells lie at its address reads as the list. -/
theorem SlR_of_cells {α : Type} {w : World} {k : Nat} {enc : α → List Value} {x : Addr} {c : Nat} (L : List α) (h1 : L.length ≤ c) (h2 : c ≤ maxLen) (hpos : ∀ y ∈ L, 0 < (enc y).length)
    (hc : ∀ i (h : i < L.length) j u, (enc L[i])[j]? = some u → w.cell? (x.add (i * k + j)) = some u) : SlR w 0 w.heap.size k enc (.slice (some x) L.length c) L := by
  refine ⟨_, c, rfl, h1, h2, fun i hi => ?_⟩
  have h0 := hpos L[0] (List.getElem_mem (by omega))
  have hx := hc 0 (by omega) 0 _ (List.getElem?_eq_getElem h0)
  have e0 : x.add (0 * k + 0) = x := by simp [Addr.add]
  rw [e0] at hx
  have hb : x.block < w.heap.size := World.block_lt_of_cell? w x hx
  obtain ⟨b, o, sp⟩ := x
  have hsp : sp = none := by
    cases sp with
    | none => rfl
    | some s => exfalso; unfold World.cell? at hx; split at hx <;> simp at hx
  subst hsp
  refine ⟨b, o, rfl, ⟨Nat.zero_le _, hb⟩, fun j u hu => ?_⟩
  have h := hc i hi j u hu
  have e : (⟨b, o, none⟩ : Addr).add (i * k + j) = ⟨b, o + i * k + j, none⟩ := by
    unfold Addr.add
    split
    · rename_i h; rw [Nat.add_assoc, h]; rfl
    · rw [Nat.add_assoc]
  rwa [e] at h

section
variable {H : Type} {enc : TypeId × Value → H} {W : World} {base : Nat} {v : Value} {d : DataW H} {p : List MemPlace}
set_option maxRecDepth 100000 in
theorem open_arg_ints (hv : Value.okWide Tryd.prog W .any base 42 v) (h : DataW.Trod enc Tryd.prog W 0 (fun _ => true) true 42 v d p) (_hs : (DataW.weights Tryd.prog 42 d).all (fun x => decide (x ≤ reachBytes)) = true) : ∃ L : List Int, SlR W 0 W.heap.size 1 eI v L := by
  obtain ⟨a0, len0, cap0, rfl⟩ := okWide_slice Tryd.underlying42 hv
  obtain ⟨fuel, hf⟩ := h
  rcases open_ints Tryd.underlying42 Tryd.underlying3 (by kernel_rfl) hf with ⟨hcs, _⟩ | ⟨x, l, c, zs, hcs, _, hl, hm, hz, _, hcell, hwz⟩
  · simp [Value.cells] at hcs
    obtain ⟨rfl, rfl, rfl⟩ := hcs
    exact ⟨[], SlR.nil _ _ 0 (Nat.zero_le _) _⟩
  · simp [Value.cells] at hcs
    obtain ⟨rfl, rfl, rfl⟩ := hcs
    have hz' : zs.length = cap0 := by simpa using hz
    have hlen : (zs.take len0).length = len0 := by rw [List.length_take]; omega
    refine ⟨zs.take len0, ?_⟩
    have := SlR_of_cells (w := W) (k := 1) (enc := eI) (x := x) (c := cap0) (zs.take len0) (by omega) hm (fun y _ => by simp [eI]) (fun i hi j u hu => ?_)
    · rwa [hlen] at this
    · have hj : j < 1 := (List.getElem?_eq_some_iff.1 hu).1
      obtain rfl : j = 0 := by omega
      rw [hlen] at hi
      have hc := hcell i (by omega)
      simp [eI] at hu
      subst hu
      rw [Nat.mul_one, Nat.add_zero, hc]
      simp [List.getD, List.getElem?_eq_getElem (show i < zs.length by omega)]
set_option maxRecDepth 100000 in
theorem open_arg_bytes (hv : Value.okWide Tryd.prog W .any base 22 v) (h : DataW.Trod enc Tryd.prog W 0 (fun _ => true) true 22 v d p) (_hs : (DataW.weights Tryd.prog 22 d).all (fun x => decide (x ≤ reachBytes)) = true) : ∃ L : List UInt8, SlR W 0 W.heap.size 1 eB v L := by
  obtain ⟨a0, len0, cap0, rfl⟩ := okWide_slice Tryd.underlying22 hv
  obtain ⟨fuel, hf⟩ := h
  rcases open_ints Tryd.underlying22 Tryd.underlying5 (by kernel_rfl) hf with ⟨hcs, _⟩ | ⟨x, l, c, zs, hcs, _, hl, hm, hz, _, hcell, hwz⟩
  · simp [Value.cells] at hcs
    obtain ⟨rfl, rfl, rfl⟩ := hcs
    exact ⟨[], SlR.nil _ _ 0 (Nat.zero_le _) _⟩
  · simp [Value.cells] at hcs
    obtain ⟨rfl, rfl, rfl⟩ := hcs
    have hz' : zs.length = cap0 := by simpa using hz
    have hlen : ((zs.take len0).map fun z => UInt8.ofNat z.toNat).length = len0 := by rw [List.length_map, List.length_take]; omega
    refine ⟨(zs.take len0).map fun z => UInt8.ofNat z.toNat, ?_⟩
    have := SlR_of_cells (w := W) (k := 1) (enc := eB) (x := x) (c := cap0) ((zs.take len0).map fun z => UInt8.ofNat z.toNat) (by omega) hm (fun y _ => by simp [eB]) (fun i hi j u hu => ?_)
    · rwa [hlen] at this
    · have hj : j < 1 := (List.getElem?_eq_some_iff.1 hu).1
      obtain rfl : j = 0 := by omega
      rw [hlen] at hi
      have hc := hcell i (by omega)
      have hz2 := hwz zs[i] (List.getElem_mem (by omega))
      have hr : 0 ≤ zs[i] ∧ zs[i] ≤ 255 := by simpa [Lit.wf, IntKind.min, IntKind.max, IntKind.signed, IntKind.bits] using hz2
      simp [eB] at hu
      subst hu
      rw [Nat.mul_one, Nat.add_zero, hc]
      simp [List.getD, List.getElem?_eq_getElem (show i < zs.length by omega)]
      omega
end

end Go.Proofs.YtepljjaienpepaaDoor

/-
  Slices of structs: what their rows are, and how an argument of that kind is opened.
-/
namespace Imp
open Go Go.RowKit Go.ChangeShapes Go.WideShapes Go.ChangeAt Go.Deep

structure Stm where
  kind : Int
  mod : ByteArray
  level : Int
  name : ByteArray
  value : Int
def eSt (s : Stm) : List Value := [.int .i64 s.kind, .string s.mod, .int .i64 s.level, .string s.name, .int .i64 s.value]
def okI (n : Int) : Prop := -9223372036854775808 ≤ n ∧ n ≤ 9223372036854775807
def okSt (s : Stm) : Prop := okI s.kind ∧ s.mod.size ≤ maxLen ∧ okI s.level ∧ s.name.size ≤ maxLen ∧ okI s.value
structure Cmd where
  kind : Int
  name : ByteArray
def eCm (s : Cmd) : List Value := [.int .i64 s.kind, .string s.name]
def okCm (s : Cmd) : Prop := okI s.kind ∧ s.name.size ≤ maxLen

section
variable {H : Type} {enc : TypeId × Value → H} {P : Program} {w : World} {base : Nat} {spare : Nat → Bool} {held : Bool}

theorem okI_of {n : Int} (h : (Lit.int .i64 n).wf = true) : okI n := by simpa [Lit.wf, IntKind.min, IntKind.max, IntKind.signed, IntKind.bits, okI] using h
theorem take_one {cs : List Value} {off : Nat} {v : Value} (h : (cs.drop off).take 1 = [v]) : cs[off]? = some v := by
  cases e : cs.drop off with
  | nil => rw [e] at h; cases h
  | cons x r =>
    rw [e] at h
    have hx : x = v := by injection h
    rw [← hx, ← Nat.add_zero off, ← List.getElem?_drop, e]; rfl
theorem field_int {cs : List Value} {off ft n : Nat} {o : Option (DataW H × List MemPlace)} (hc : P.cellsOf ft = 1) (ht : P.underlying ft = some (.int .i64)) (hs : o.isSome = true) (h : DataW.trod enc P w base spare held n ft ((cs.drop off).take (P.cellsOf ft)) = o) :
    ∃ z, cs[off]? = some (.int .i64 z) ∧ okI z := by
  obtain ⟨y, rfl⟩ := Option.isSome_iff_exists.1 hs
  obtain ⟨z, h1, _, h2⟩ := DataW.trod_int ht h
  rw [hc] at h1
  exact ⟨z, take_one h1, okI_of h2⟩
theorem field_string {cs : List Value} {off ft n : Nat} {o : Option (DataW H × List MemPlace)} (hc : P.cellsOf ft = 1) (ht : P.underlying ft = some .string) (hs : o.isSome = true) (h : DataW.trod enc P w base spare held n ft ((cs.drop off).take (P.cellsOf ft)) = o) :
    ∃ z : ByteArray, cs[off]? = some (.string z) ∧ z.size ≤ maxLen := by
  obtain ⟨y, rfl⟩ := Option.isSome_iff_exists.1 hs
  obtain ⟨z, h1, _, h2⟩ := DataW.trod_string ht h
  rw [hc] at h1
  exact ⟨z, take_one h1, h2⟩
theorem field_bool {cs : List Value} {off ft n : Nat} {o : Option (DataW H × List MemPlace)} (hc : P.cellsOf ft = 1) (ht : P.underlying ft = some .bool) (hs : o.isSome = true) (h : DataW.trod enc P w base spare held n ft ((cs.drop off).take (P.cellsOf ft)) = o) :
    ∃ z : Bool, cs[off]? = some (.bool z) := by
  obtain ⟨y, rfl⟩ := Option.isSome_iff_exists.1 hs
  obtain ⟨z, h1, _⟩ := DataW.trod_bool ht h
  rw [hc] at h1
  exact ⟨z, take_one h1⟩
theorem some_at {α : Type} {xs : List α} {n i : Nat} (h : xs.length = n) (hi : i < n) : (xs[i]?).isSome = true := by rw [List.getElem?_eq_getElem (by omega)]; rfl

/-- A slice whose cells lie at its address reads as the list. -/
theorem SlR_of_cells' {α : Type} {w : World} {k : Nat} {enc : α → List Value} {x : Addr} {c : Nat} (L : List α) (h1 : L.length ≤ c) (h2 : c ≤ maxLen) (hpos : ∀ y ∈ L, 0 < (enc y).length)
    (hc : ∀ i (h : i < L.length) j u, (enc L[i])[j]? = some u → w.cell? (x.add (i * k + j)) = some u) : SlR w 0 w.heap.size k enc (.slice (some x) L.length c) L := by
  refine ⟨_, c, rfl, h1, h2, fun i hi => ?_⟩
  have h0 := hpos L[0] (List.getElem_mem (by omega))
  have hx := hc 0 (by omega) 0 _ (List.getElem?_eq_getElem h0)
  have e0 : x.add (0 * k + 0) = x := by simp [Addr.add]
  rw [e0] at hx
  have hb : x.block < w.heap.size := World.block_lt_of_cell? w x hx
  obtain ⟨b, o, sp⟩ := x
  have hsp : sp = none := by
    cases sp with
    | none => rfl
    | some s => exfalso; unfold World.cell? at hx; split at hx <;> simp at hx
  subst hsp
  refine ⟨b, o, rfl, ⟨Nat.zero_le _, hb⟩, fun j u hu => ?_⟩
  have h := hc i hi j u hu
  have e : (⟨b, o, none⟩ : Addr).add (i * k + j) = ⟨b, o + i * k + j, none⟩ := by
    unfold Addr.add
    split
    · rename_i h; rw [Nat.add_assoc, h]; rfl
    · rw [Nat.add_assoc]
  rwa [e] at h


/-- A slice of rows of 'k' cells, opened. -/
theorem open_rows {α : Type} {t e k fuel : Nat} {cs : List Value} {x : DataW H × List MemPlace} (f : α → List Value) (Q : α → Prop) (ht : P.underlying t = some (.slice e)) (hk : P.cellsOf e = k) (hpos : 0 < k)
    (hrow : ∀ n cs' y, DataW.trod enc P w base spare held n e cs' = some y → ∃ z : α, cs' = f z ∧ Q z) (h : DataW.trod enc P w base spare held fuel t cs = some x) :
    ∃ v, cs = [v] ∧ ∃ L : List α, SlR w 0 w.heap.size k f v L ∧ ∀ z ∈ L, Q z := by
  rcases open_slice ht h with ⟨rfl, _⟩ | ⟨a, len, cap, m, n, D, Pl, rfl, hb, hl, hm, hmm, rfl, hx⟩
  · exact ⟨_, rfl, [], SlR.nil _ _ 0 (Nat.zero_le _) _, by simp⟩
  · refine ⟨_, rfl, ?_⟩
    have hlm : len ≤ m := by rw [hmm]; split <;> omega
    have each : ∀ i, i < len → ∃ z : α, (f z).length = k ∧ (∀ j u, (f z)[j]? = some u → w.cell? ((a.add (i * k)).add j) = some u) ∧ Q z := fun i hi => by
      obtain ⟨cs', h1, h2⟩ := hx i (by omega)
      obtain ⟨z, rfl, hq⟩ := hrow _ _ _ h2
      rw [hk] at h1
      obtain ⟨_, h4, h5⟩ := World.cells?_some h1
      refine ⟨z, h4, fun j u hu => ?_, hq⟩
      rw [h5 j (by rw [← h4]; exact (List.getElem?_eq_some_iff.1 hu).1)]; exact hu
    by_cases h0 : len = 0
    · subst h0
      exact ⟨[], SlR.nil _ _ cap (by unfold maxLen at *; omega) _, by simp⟩
    · obtain ⟨z0, _⟩ := each 0 (by omega)
      haveI : Inhabited α := ⟨z0⟩
      obtain ⟨Z, hZ⟩ := choose_lt each
      have hlen : ((List.range len).map Z).length = len := by simp
      refine ⟨(List.range len).map Z, ?_, ?_⟩
      · have := SlR_of_cells' (w := w) (k := k) (enc := f) (x := a) (c := cap) ((List.range len).map Z) (by omega) hm (fun y hy => by
          rw [List.mem_map] at hy
          obtain ⟨i, hi, rfl⟩ := hy
          rw [(hZ i (List.mem_range.1 hi)).1]; exact hpos) (fun i hi j u hu => by
          rw [hlen] at hi
          rw [← add_add]
          exact (hZ i hi).2.1 j u (by simpa using hu))
        rwa [hlen] at this
      · intro z hz
        rw [List.mem_map] at hz
        obtain ⟨i, hi, rfl⟩ := hz
        exact (hZ i (List.mem_range.1 hi)).2.2
end
end Imp
namespace Go.Proofs.YtepljjaienpepaaDoor
open Go Go.RowKit Go.ChangeShapes Go.WideShapes Go.ChangeAt Go.Deep Imp
set_option linter.unusedVariables false
section
variable {H : Type} {enc : TypeId × Value → H} {W : World} {base : Nat} {v : Value} {d : DataW H} {p : List MemPlace}
theorem cells_slice (a : Option Addr) (l c : Nat) : (Value.slice a l c).cells.toList = [.slice a l c] := by simp [Value.cells]
set_option maxRecDepth 100000 in
theorem open_arg_strings (hv : Value.okWide Tryd.prog W .any base 32 v) (h : DataW.Trod enc Tryd.prog W 0 (fun _ => true) true 32 v d p) (_hs : (DataW.weights Tryd.prog 32 d).all (fun x => decide (x ≤ reachBytes)) = true) :
    ∃ L : List ByteArray, SlR W 0 W.heap.size 1 eS v L ∧ ∀ s ∈ L, s.size ≤ maxLen := by
  obtain ⟨a0, len0, cap0, rfl⟩ := okWide_slice Tryd.underlying32 hv
  obtain ⟨fuel, hf⟩ := h
  obtain ⟨v, e, L, h1, h2⟩ := open_rows (P := Tryd.prog) (k := 1) eS (fun s => s.size ≤ maxLen) Tryd.underlying32 (by kernel_rfl) (by decide) (fun n cs' y hy => by
    obtain ⟨s, rfl, _, hs⟩ := DataW.trod_string Tryd.underlying9 hy
    exact ⟨s, rfl, hs⟩) hf
  rw [cells_slice] at e
  injection e with e
  subst e
  exact ⟨L, h1, h2⟩
end
end Go.Proofs.YtepljjaienpepaaDoor

/-
  Walks on names, further: names resolved, relative names, names above, the package in common.
-/
namespace Imp
open Go
theorem underP_nil_r (s : List UInt8) : underP s [] = true := rfl
theorem vPkg_cases {l : List UInt8} (h : vPkg l = true) : l = [] ∨ vName l = true := by
  unfold vPkg at h
  rw [Bool.or_eq_true, List.isEmpty_iff] at h
  exact h
def resP (p : List UInt8) (level : Nat) (s : List UInt8) : List UInt8 :=
  if level = 0 then s else if (upP (level - 1) p).isEmpty then [] else childD (upP (level - 1) p) s
where childD (b s : List UInt8) : List UInt8 := if s.isEmpty then b else b ++ 46 :: s
def okRes (p : List UInt8) (level : Int) (s : List UInt8) : Bool := vPkg p && vPkg s && (decide (0 ≤ level) && decide (level ≤ 4))
def fRes (p : List UInt8) (level : Int) (s : List UInt8) : List UInt8 :=
  if okRes p level s then (if vName (resP p level.toNat s) then resP p level.toNat s else []) else []
end Imp
namespace Go.Proofs.YtepljjaienpepaaDoor
open Go Go.RowKit Imp
set_option linter.unusedVariables false

theorem ret_ss {a b c d : Value} (h : a = c) (k : b = d) : Ending.returned (.tuple #[a, b]) = .returned (.tuple #[c, d]) := by rw [h, k]

end Go.Proofs.YtepljjaienpepaaDoor

/-
  Walks on names, further: names resolved, relative names, names above, the package in common.
-/
namespace Imp
open Go
theorem relP_nil (n lev : Nat) (s : List UInt8) : relP n lev [] s = (0, []) := by cases n <;> rfl
theorem relP_step {n lev : Nat} {p s : List UInt8} (h : p.isEmpty = false) : relP (n + 1) lev p s = if underP s p then (lev, (s.drop p.length).drop 1) else relP n (lev + 1) (parentP p) s := by
  rw [relP, h]; rfl
/-- How far a relative name's walk has come: the package at hand and what is left to look at. -/
def RelAt (p s x : List UInt8) (n lev : Nat) : Prop := (x = [] ∨ (vName x = true ∧ (spl x).length ≤ n)) ∧ relP n lev x s = relP 3 1 p s ∧ lev + n = 4
theorem RelAt.start {p s : List UInt8} (h : vName p = true) : RelAt p s p 3 1 := ⟨.inr ⟨h, (vName_parts h).1⟩, rfl, rfl⟩
theorem RelAt.step {p s x : List UInt8} {n lev : Nat} (h : RelAt p s x n lev) (hx : x.isEmpty = false) (hu : underP s x = false) : ∃ m, n = m + 1 ∧ RelAt p s (parentP x) m (lev + 1) := by
  obtain ⟨h1, h2, h3⟩ := h
  rcases h1 with h1 | ⟨h1, h4⟩
  · subst h1; cases hx
  · have hp := spl_pos x
    obtain ⟨m, rfl⟩ : ∃ m, n = m + 1 := ⟨n - 1, by omega⟩
    refine ⟨m, rfl, ?_, ?_, by omega⟩
    · rcases vName_cases h1 with ⟨_, e, _⟩ | ⟨e1, _, _, e4⟩
      · exact .inl e
      · exact .inr ⟨e1, by omega⟩
    · rw [← h2, relP_step hx, hu]; rfl
theorem RelAt.found {p s x : List UInt8} {n lev : Nat} (h : RelAt p s x n lev) (hx : x.isEmpty = false) (hu : underP s x = true) : relP 3 1 p s = (lev, (s.drop x.length).drop 1) := by
  obtain ⟨h1, h2, h3⟩ := h
  rcases h1 with h1 | ⟨h1, h4⟩
  · subst h1; cases hx
  · have hp := spl_pos x
    obtain ⟨m, rfl⟩ : ∃ m, n = m + 1 := ⟨n - 1, by omega⟩
    rw [← h2, relP_step hx, hu]; rfl
theorem RelAt.done {p s x : List UInt8} {n lev : Nat} (h : RelAt p s x n lev) (hx : x.isEmpty = true) : relP 3 1 p s = (0, []) := by
  have := h.2.1
  rw [List.isEmpty_iff.1 hx, relP_nil] at this
  exact this.symm
theorem RelAt.pkg {p s x : List UInt8} {n lev : Nat} (h : RelAt p s x n lev) : vPkg x = true := by
  rcases h.1 with h1 | ⟨h1, _⟩
  · subst h1; rfl
  · unfold vPkg; rw [h1, Bool.or_true]
def fRelV (p s : List UInt8) : Nat × List UInt8 := if vName p && vName s then relP 3 1 p s else (0, [])
end Imp
namespace Go.Proofs.YtepljjaienpepaaDoor
open Go Go.RowKit Imp
set_option linter.unusedVariables false

end Go.Proofs.YtepljjaienpepaaDoor

/-
  Walks on names, further: relative names.
-/
namespace Go.Proofs.YtepljjaienpepaaDoor
open Go Go.RowKit Imp
set_option linter.unusedVariables false

theorem fRelV_bad1 {p s : List UInt8} (h : vName p = false) : fRelV p s = (0, []) := by simp [fRelV, h]
theorem fRelV_bad2 {p s : List UInt8} (h : vName s = false) : fRelV p s = (0, []) := by simp [fRelV, h]
theorem fRelV_ok {p s : List UInt8} (h : vName p = true) (k : vName s = true) : fRelV p s = relP 3 1 p s := by simp [fRelV, h, k]
def relVal (p s : List UInt8) : Value := .tuple #[.int .i64 (fRelV p s).1, .string (mk (fRelV p s).2)]
theorem relVal_of {p s : List UInt8} {n : Nat} {l : List UInt8} (h : fRelV p s = (n, l)) {m : Int} {t : ByteArray} (hm : m = n) (ht : t = mk l) : Ending.returned (.tuple #[.int .i64 m, .string t]) = .returned (relVal p s) := by
  rw [relVal, h, hm, ht]

end Go.Proofs.YtepljjaienpepaaDoor

/-
  Walks on names, further: names above, the package in common.
-/
namespace Imp
open Go
def abv (P : List (List UInt8)) (k : Nat) : List (List UInt8) := (List.range k).map fun i => jn (P.take (i + 1))
theorem abv_length (P : List (List UInt8)) (k : Nat) : (abv P k).length = k := by simp [abv]
theorem abv_succ (P : List (List UInt8)) (k : Nat) : abv P (k + 1) = abv P k ++ [jn (P.take (k + 1))] := by simp [abv, List.range_succ]
theorem abv_eq {l : List UInt8} : abv (spl l) (spl l).length = aboveP l := rfl
theorem jn_small {P : List (List UInt8)} (h3 : P.length ≤ 3) (hp : ∀ p ∈ P, vPart p = true) : (jn P).length ≤ 11 := by
  by_cases h : P = []
  · subst h; simp [jn]
  · exact vName_length (vName_jn h h3 hp)
theorem filter_false {α : Type} {f : α → Bool} {l : List α} (h : ∀ x ∈ l, f x = false) : l.filter f = [] := by
  rw [List.filter_eq_nil_iff]; intro a ha; rw [h a ha]; simp
theorem getLastD_snoc {α : Type} (l : List α) (x d : α) : (l ++ [x]).getLastD d = x := by simp
/-- The last of a list that a test takes: what a walk from the end finds. -/
theorem last_found {f : List UInt8 → Bool} {A : List (List UInt8)} {k : Nat} (hk : k < A.length) (h : (A.drop (k + 1)).filter f = []) (hf : f A[k] = true) : (A.filter f).getLastD [] = A[k] := by
  conv => lhs; rw [← List.take_append_drop k A, List.drop_eq_getElem_cons hk, List.filter_append, List.filter_cons, if_pos hf, h]
  exact getLastD_snoc _ _ _
theorem last_step {f : List UInt8 → Bool} {A : List (List UInt8)} {k : Nat} (hk : k < A.length) (h : (A.drop (k + 1)).filter f = []) (hf : f A[k] = false) : (A.drop k).filter f = [] := by
  rw [List.drop_eq_getElem_cons hk, List.filter_cons, hf, h]; rfl
theorem last_next {f : List UInt8 → Bool} {A : List (List UInt8)} {k : Nat} (hk : k < A.length) : ((A.take (k + 1)).filter f).getLastD [] = if f A[k] then A[k] else ((A.take k).filter f).getLastD [] := by
  rw [List.take_succ_eq_append_getElem hk, List.filter_append, List.filter_cons]
  split
  · exact getLastD_snoc _ _ _
  · simp
theorem fUnder_name {b n : List UInt8} (hb : vName b = true) (hn : vName n = true) : fUnder b n = underP b n := by
  have : vPkg n = true := by unfold vPkg; rw [hn, Bool.or_true]
  rw [fUnder, hb, this]; rfl
end Imp
namespace Go.Proofs.YtepljjaienpepaaDoor
open Go Go.RowKit Imp
set_option linter.unusedVariables false

theorem hid_mk {α : Prop} (h : α) : Hid α := h

theorem sabove_any (s : ByteArray) (w : World) (hn : vName (bs s) = true) :
    Calls Tryd.prog 70 #[.string s] w fun e w' => ∃ v, e = .returned v ∧ Own w' w.heap.size 9 1 eL v (aboveP (bs s)) ∧ Gr w w' := by
  have hsz : s.size ≤ 11 := by have := vName_length hn; rw [bs_length] at this; exact this
  obtain ⟨h3, hpp⟩ := vName_parts hn
  obtain ⟨P, hP⟩ : ∃ P, P = spl (bs s) := ⟨_, rfl⟩
  have hA : aboveP (bs s) = abv P P.length := by rw [hP]; rfl
  rw [hA]
  have hsp := splitAt_s s w (by omega)
  rw [← hP] at hsp h3 hpp
  have hsm : ∀ k, (jn (P.take k)).length ≤ 11 := fun k => jn_small (by rw [List.length_take]; omega) (fun p hm => hpp p (List.mem_of_mem_take hm))
  have HSM := Lib.hid hsm
  have HSP := Lib.hid hsp
  clear hP hA hsp hsm hpp
  go_enter Tryd.func70, Tryd.ntmps70
  go_wp2_with fail
  refine HSP.out.mono ?_
  rintro e w1 ⟨v, rfl, hown, hb1⟩
  have hr := hown.reads (fun _ _ => rfl)
  obtain ⟨a, c, rfl, h1, h2⟩ := hr.form
  have hw1 := hb1.size
  go_wp2
  go_loopw [4, 5] (fun o i wr => ∃ k : Nat, k ≤ P.length ∧ i = .int .i64 (k + 1 : Nat) ∧ Own wr w.heap.size 9 1 eL o (abv P k) ∧ Gr w wr ∧ Same w.heap.size w1.heap.size w1 wr ∧ w1.heap.size ≤ wr.heap.size ∧ (∀ b, o.ownBlock = some b → w1.heap.size ≤ b)) (fun _ i _ => P.length + 2 - (intOf i).toNat)
  case atStart => exact ⟨0, Nat.zero_le _, rfl, Own.empty w1 w.heap.size _ _ _ hw1, hb1.alloc hw1 _, Same.alloc _ _ (Nat.le_refl _), by simp, by intro b hb; simp [Value.ownBlock] at hb; omega⟩
  case round =>
    obtain ⟨k, hk, rfl, hown2, hgr, hsame, hsz2, hob⟩ := hrel
    by_cases hlt : k < P.length
    · have ht := (hr.keep hsame).take (k + 1) (by omega)
      have hkc : k + 1 ≤ c := by omega
      have hj := fun W h => sjoin_any (lo := w.heap.size) (hi := w1.heap.size) (.slice a (k + 1) c) (P.take (k + 1)) W h (by have := HSM.out (k + 1); omega)
      obtain ⟨x, hx⟩ : ∃ x, x = jn (P.take (k + 1)) := ⟨_, rfl⟩
      rw [← hx] at hj
      have HX := Lib.hid hx
      clear hx
      have hgs := hgr.size
      go_wp2_with (first
        | (go_at_call 75; refine (hj _ ht).mono ?_; rintro e w' ⟨rfl, rfl⟩)
        | (at_builtin
           refine wpList_app _ rfl (.tmp 15) (.tmp 20) ti_strs rfl rfl (hown2.alloc _) rfl (SlR.one wr wr.heap.size x 9 (Nat.le_refl _) rfl) (fun _ _ => rfl) (by simp [eL, Value.oneCell']) (by unfold maxLen; rw [abv_length]; simp; omega) (by rw [abv_length]; simp; omega) (by simp; omega) ?_
           intro v2 w2 hown3 hg2 hat2))
      go_roundw
      case rel =>
        refine ⟨k + 1, by omega, by go_num, by rw [abv_succ, ← HX.out]; exact hown3, (hgr.alloc hgs _).grown hg2 (by simp; omega) (fun b hb => (hown2.block b hb).1), ?_, ?_, ?_⟩
        · exact (hsame.trans (Same.alloc wr _ hsz2)).trans (Same.of_grown hg2 (by simp; omega) (fun b e => .inr (hob b e)))
        · have := hg2.size; simp at this; omega
        · intro b hb
          rcases hat2 with e | e
          · rw [e] at hb; exact hob b hb
          · rw [e] at hb; simp at hb; omega
      case measure => simp [intOf]; omega
    · go_wp2
      go_ret
      have hkl : k = P.length := by omega
      subst hkl
      exact ⟨_, rfl, hown2, hgr⟩
end Go.Proofs.YtepljjaienpepaaDoor

/-
  Marks: the text that a number gives, and walks that write and read marks in a slice of strings; slices of strings compared.
-/
namespace Imp
open Go
/-- The decimal digits of a number, none for zero. -/
def dig (k : Nat) : List UInt8 := if _h : k = 0 then [] else dig (k / 10) ++ [UInt8.ofNat (48 + k % 10)]
termination_by k
decreasing_by omega
theorem dig_zero : dig 0 = [] := by rw [dig]; simp
theorem dig_pos {k : Nat} (h : 0 < k) : dig k = dig (k / 10) ++ [UInt8.ofNat (48 + k % 10)] := by
  rw [dig, dif_neg (by omega)]
def mText (k : Nat) : ByteArray := mk (109 :: dig k)
theorem digit_toNat (k : Nat) : (((UInt8.ofNat (48 + k % 10)).toNat : Nat) : Int) = 48 + (k : Int) % 10 := by
  rw [UInt8.toNat_ofNat']
  omega
end Imp
namespace Go.Proofs.YtepljjaienpepaaDoor
open Go Go.RowKit Imp
set_option linter.unusedVariables false


theorem slr_eS {w : World} {lo hi : Nat} {v : Value} {L : List (List UInt8)} (h : SlR w lo hi 1 eL v L) : SlR w lo hi 1 eS v (L.map mk) := by
  obtain ⟨a, c, rfl, h1, h2, h3⟩ := h
  refine ⟨a, c, by rw [List.length_map], by rw [List.length_map]; exact h1, h2, fun i hi => ?_⟩
  obtain ⟨b, o, e, hb, hc⟩ := h3 i (by rw [List.length_map] at hi; exact hi)
  exact ⟨b, o, e, hb, fun j u hu => hc j u (by rw [List.getElem_map] at hu; exact hu)⟩
theorem own_eS {w : World} {base : Nat} {v : Value} {L : List (List UInt8)} {e : TypeId} (h : Own w base e 1 eL v L) : Own w base e 1 eS v (L.map mk) := by
  unfold Own at h ⊢
  rw [List.length_map, List.flatMap_map]; exact h


def marksS (k n : Nat) : List ByteArray := (List.range n).map fun i => mText (k + i)
theorem marksS_length (k n : Nat) : (marksS k n).length = n := by simp [marksS]
theorem marksS_get (k n i : Nat) (h : i < (marksS k n).length) : (marksS k n)[i] = mText (k + i) := by simp [marksS]

/-- A slice that the call made, as a row by its index: what a store into it needs. -/
theorem own_row {α : Type} {enc : α → List Value} {w : World} {base e : Nat} {a : Option Addr} {n c : Nat} {L : List α} (h : Own w base e 1 enc (.slice a n c) L) (hn : 0 < n) :
    ∃ g, ∃ cur : Nat → Value, a = some ⟨g, 0, none⟩ ∧ base ≤ g ∧ n ≤ c ∧ c ≤ maxLen ∧ n = L.length ∧ w.rowIs g e c (fun j => cur j) := by
  have h0 := h
  rcases h.2 with ⟨hv, h0⟩ | ⟨g, cap, cur, hv, hb, hg, h1, h2, h3, h4⟩
  · injection hv with _ e2 _
    omega
  · injection hv with e1 e2 e3
    subst e1; subst e3
    exact ⟨g, fun j => (cur[j]?).getD (.bool false), rfl, hb, by omega, h2, e2, ⟨cur, hg, by simpa using h3, fun i hi => by simp only []; rw [Array.getElem?_eq_getElem (show i < cur.size by omega), Option.getD_some]⟩⟩
theorem own_of_rowIs {α : Type} {enc : α → List Value} {w : World} {base e g n c : Nat} {L : List α} {f : Nat → Value} (h : w.rowIs g e c f) (hb : base ≤ g) (h1 : n ≤ c) (h2 : c ≤ maxLen) (hn : n = L.length) (hk : ∀ x ∈ L, (enc x).length = 1)
    (hf : ∀ i (h : i < L.length), enc L[i] = [f i]) : Own w base e 1 enc (.slice (some ⟨g, 0, none⟩) n c) L := by
  obtain ⟨cur, hg, hs, hc⟩ := h
  subst hn
  have hlen := flatMap_len (enc := enc) (k := 1) L hk
  refine ⟨by rw [hlen], .inr ⟨g, c, cur, rfl, hb, hg, h1, h2, by omega, ?_⟩⟩
  rw [Nat.mul_one]
  apply List.ext_getElem
  · rw [List.length_take, hlen]; simp; omega
  · intro i hi1 hi2
    have hi : i < L.length := by rw [hlen] at hi2; omega
    have hx := flatMap_get (enc := enc) (k := 1) hk hi (j := 0) (u := f i) (by rw [hf i hi]; rfl)
    rw [Nat.mul_one, Nat.add_zero, List.getElem?_eq_getElem hi2] at hx
    have hy := hc i (by omega)
    rw [List.getElem_take, Option.some.inj hx]
    obtain ⟨h', e'⟩ := Array.getElem?_eq_some_iff.1 hy
    rw [← e']; simp

theorem grown_mark {w wr w2 : World} {g : Nat} (h : w.grownBy wr (some g)) (k : Gr wr w2) (o : Nat) (u : Value) : w.grownBy (w2.setCell ⟨g, o, none⟩ u) (some g) :=
  ⟨k.os.trans h.os, k.tape.trans h.tape, k.output.trans h.output, by rw [show (w2.setCell ⟨g, o, none⟩ u).heap.size = w2.heap.size by simp [World.setCell]]; exact Nat.le_trans h.size k.size,
    fun b hb hne => by rw [Below.heap_setCell w2 _ _ b (by intro e; apply hne; rw [e]), k.block b (Nat.lt_of_lt_of_le hb h.size)]; exact h.block b hb hne⟩
end Go.Proofs.YtepljjaienpepaaDoor

/-
  Walks over slices of strings: their size, their copy; names joined of parts.
-/
namespace Imp
open Go Go.RowKit
def totS : List ByteArray → Nat
  | [] => 0
  | s :: r => s.size + totS r
theorem totS_snoc : ∀ (l : List ByteArray) (s : ByteArray), totS (l ++ [s]) = totS l + s.size
  | [], s => by simp [totS]
  | x :: l, s => by rw [List.cons_append, totS, totS_snoc l s, totS]; omega
theorem totS_take {l : List ByteArray} {k : Nat} (h : k < l.length) : totS (l.take (k + 1)) = totS (l.take k) + l[k].size := by
  rw [List.take_succ_eq_append_getElem h, totS_snoc]
theorem totS_mem : ∀ {l : List ByteArray} {s : ByteArray}, s ∈ l → s.size ≤ totS l
  | x :: l, s, h => by
    rw [List.mem_cons] at h
    rw [totS]
    rcases h with rfl | h
    · omega
    · have := totS_mem h; omega
theorem jn_tot : ∀ l : List ByteArray, (jn (l.map bs)).length ≤ l.length + totS l
  | [] => by simp [jn]
  | [x] => by simp [jn, totS]
  | x :: y :: l => by
    have ih := jn_tot (y :: l)
    rw [List.map_cons, jn_cons (by simp), List.length_append, List.length_cons, bs_length, totS, List.length_cons]
    omega
def fJoin (P : List (List UInt8)) : List UInt8 := if P.all vPart && vName (jn P) then jn P else []
end Imp
namespace Go.Proofs.YtepljjaienpepaaDoor
open Go Go.RowKit Imp
set_option linter.unusedVariables false

theorem slr_eL {w : World} {lo hi : Nat} {v : Value} {L : List ByteArray} (h : SlR w lo hi 1 eS v L) : SlR w lo hi 1 eL v (L.map bs) := by
  obtain ⟨a, c, rfl, h1, h2, h3⟩ := h
  refine ⟨a, c, by rw [List.length_map], by rw [List.length_map]; exact h1, h2, fun i hi => ?_⟩
  rw [List.length_map] at hi
  obtain ⟨b, o, e, hb, hc⟩ := h3 i hi
  refine ⟨b, o, e, hb, fun j u hu => hc j u ?_⟩
  rw [List.getElem_map, eL, mk_bs] at hu
  exact hu

end Go.Proofs.YtepljjaienpepaaDoor

/-
  Walks over statements: their size, copy, comparison, validity.
-/
namespace Imp
open Go Go.RowKit
abbrev vSt (s : Stm) : Value := .agg #[.int .i64 s.kind, .string s.mod, .int .i64 s.level, .string s.name, .int .i64 s.value]
def szSt (s : Stm) : Nat := s.mod.size + s.name.size
def totB : List Stm → Nat
  | [] => 0
  | s :: r => szSt s + totB r
theorem totB_snoc : ∀ (l : List Stm) (s : Stm), totB (l ++ [s]) = totB l + szSt s
  | [], s => by simp [totB]
  | x :: l, s => by rw [List.cons_append, totB, totB_snoc l s, totB]; omega
theorem totB_take {l : List Stm} {k : Nat} (h : k < l.length) : totB (l.take (k + 1)) = totB (l.take k) + szSt l[k] := by
  rw [List.take_succ_eq_append_getElem h, totB_snoc]
theorem totB_mem : ∀ {l : List Stm} {s : Stm}, s ∈ l → szSt s ≤ totB l
  | x :: l, s, h => by
    rw [List.mem_cons] at h
    rw [totB]
    rcases h with rfl | h
    · omega
    · have := totB_mem h; omega
/-- The five cells of a row. -/
theorem cells_stm {w : World} {b o k : Nat} {x : Stm} (h : ∀ j u, (eSt x)[j]? = some u → w.cell? ⟨b, o + k * 5 + j, none⟩ = some u) :
    w.cell? ⟨b, o + k * 5, none⟩ = some (.int .i64 x.kind) ∧ w.cell? ⟨b, o + k * 5 + 1, none⟩ = some (.string x.mod) ∧ w.cell? ⟨b, o + k * 5 + 2, none⟩ = some (.int .i64 x.level) ∧
    w.cell? ⟨b, o + k * 5 + 3, none⟩ = some (.string x.name) ∧ w.cell? ⟨b, o + k * 5 + 4, none⟩ = some (.int .i64 x.value) :=
  ⟨h 0 _ rfl, h 1 _ rfl, h 2 _ rfl, h 3 _ rfl, h 4 _ rfl⟩
end Imp
namespace Go.Proofs.YtepljjaienpepaaDoor
open Go Go.RowKit Imp
set_option linter.unusedVariables false

theorem heap_alloc3_mid (w : World) (A B C : Obj) : (((w.alloc A).alloc B).alloc C).heap[w.heap.size + 1]? = some B := by
  rw [Below.heap_alloc _ _ _ (by simp)]; exact heap_alloc2_new w A B
theorem gr_alloc3 (w : World) (A B C : Obj) : Gr w (((w.alloc A).alloc B).alloc C) :=
  (((Below.refl _ w).alloc (Nat.le_refl _) _).alloc (by simp) _).alloc (by simp; omega) _
def zSt : Value := .agg #[.int .i64 0, .string ByteArray.empty, .int .i64 0, .string ByteArray.empty, .int .i64 0]
end Go.Proofs.YtepljjaienpepaaDoor

/-
  Walks of the laws whose answer is a slice of strings.
-/
namespace Go.Proofs.YtepljjaienpepaaDoor
open Go Go.RowKit Imp
set_option linter.unusedVariables false

theorem fParts_length (l : List UInt8) : (fParts l).length ≤ 3 := by
  unfold fParts
  split
  · rename_i h
    unfold vName at h
    rw [Bool.and_eq_true] at h
    exact of_decide_eq_true h.2
  · simp

theorem slr_grown {α : Type} {w w' : World} {lo hi k : Nat} {enc : α → List Value} {v : Value} {L : List α} (h : SlR w lo hi k enc v L) {g : Option Nat} (hg : w.grownBy w' g) (hh : hi ≤ w.heap.size) (hb : ∀ b, g = some b → hi ≤ b) : SlR w' lo hi k enc v L :=
  h.keep (Same.of_grown hg hh (fun b e => .inr (hb b e)))

end Go.Proofs.YtepljjaienpepaaDoor

/-
  Walks of the drawing of parts, names and packages from a code of bytes: short texts, the reader asked a few times more.
-/
namespace Go.Proofs.YtepljjaienpepaaDoor
open Go Go.RowKit Imp
set_option linter.unusedVariables false

/-- A drawn text: at most 'B' bytes; the reader asked at most 'c' times more; nothing else has turned. -/
def DS (w : World) (g p c B : Nat) (e : Ending) (w' : World) : Prop :=
  ∃ s : ByteArray, ∃ p', e = .returned (.string s) ∧ s.size ≤ B ∧ Rdr w' g p' ∧ p' ≤ p + c ∧ w.grownBy w' (some g)

theorem Rdr.al {w : World} {g p : Nat} (h : Rdr w g p) (o : Obj) : Rdr (w.alloc o) g p := by
  have hlt := h.lt
  obtain ⟨bv, M, hg, hM, h1, h2⟩ := h
  exact ⟨bv, M, (Below.heap_alloc w o g hlt).trans hg, hM.keep (Same.alloc _ _ (by omega)), h1, h2⟩
theorem Rdr.gr {w w' : World} {g p : Nat} (h : Rdr w g p) (hb : Gr w w') : Rdr w' g p := by
  have hlt := h.lt
  obtain ⟨bv, M, hg, hM, h1, h2⟩ := h
  exact ⟨bv, M, (hb.block g hlt).trans hg, hM.below hb (by omega), h1, h2⟩
theorem grown_gr {w w1 w2 : World} {g : Option Nat} (h : w.grownBy w1 g) (k : Gr w1 w2) : w.grownBy w2 g :=
  ⟨k.os.trans h.os, k.tape.trans h.tape, k.output.trans h.output, Nat.le_trans h.size k.size, fun b hb hne => (k.block b (Nat.lt_of_lt_of_le hb h.size)).trans (h.block b hb hne)⟩
theorem gr_grown {w w1 w2 : World} {g : Option Nat} (k : Gr w w1) (h : w1.grownBy w2 g) : w.grownBy w2 g :=
  ⟨h.os.trans k.os, h.tape.trans k.tape, h.output.trans k.output, Nat.le_trans k.size h.size, fun b hb hne => (h.block b (Nat.lt_of_lt_of_le hb k.size) hne).trans (k.block b hb)⟩

theorem of_any (g p : Nat) (v : Value) (Q : List ByteArray) (w : World) (h : Rdr w g p) (hp : p < 1000000000) (hv : SlR w (g + 1) w.heap.size 1 eS v Q) (hn : 1 ≤ Q.length) (hl : Q.length ≤ 1000) :
    Calls Tryd.prog 40 #[.pointer (some ⟨g, 0, none⟩), v] w fun e w' => ∃ s, e = .returned (.string s) ∧ s ∈ Q ∧ Rdr w' g (p + 1) ∧ w.grownBy w' (some g) := by
  obtain ⟨a, c, rfl, h1, h2, h3⟩ := hv
  unfold maxLen at h2
  go_enter Tryd.func40, Tryd.ntmps40
  go_wp2_with fail
  refine (pick_any g p _ w h hp (by omega)).mono ?_
  rintro e w1 ⟨k, rfl, hk0, hk1, hr, hgr⟩
  obtain ⟨m, rfl⟩ : ∃ m : Nat, k = m := ⟨k.toNat, by omega⟩
  have hm : m < Q.length := by have := hk1 (by omega); omega
  obtain ⟨b, o, rfl, hb, hc⟩ := h3 m hm
  have c0 : w1.cell? ⟨b, o + m, none⟩ = some (.string Q[m]) := by
    rw [World.cell?_of_block (w := w) (a := ⟨b, o + m, none⟩) (hgr.block b hb.2 (by simp; omega))]
    have := hc 0 _ rfl
    simpa using this
  clear hc h3 hk1
  go_wp2
  go_ret
  exact ⟨_, rfl, List.getElem_mem hm, hr, hgr⟩
/-- Of a list that stands in the text. -/
theorem of_lit (g p : Nat) (Q : List ByteArray) (B : Nat) (w : World) (h : Rdr w g p) (hp : p < 1000000000) (hn : 1 ≤ Q.length) (hl : Q.length ≤ 1000) (hB : ∀ s ∈ Q, s.size ≤ B) :
    Calls Tryd.prog 40 #[.pointer (some ⟨g, 0, none⟩), .slice (some ⟨w.heap.size, 0, none⟩) Q.length Q.length] (w.alloc (.cells (Q.map Value.string).toArray 9)) (DS w g p 1 B) := by
  have hlt := h.lt
  refine (of_any g p _ Q _ (h.al _) hp (SlR.of_block (L := Q) (heap_alloc_new w _) (Nat.le_refl _) (by unfold maxLen; omega) (by omega) (by simp) (fun _ _ => rfl) ?_) hn hl).mono ?_
  · rw [Nat.mul_one, List.take_of_length_le (by simp), List.map_eq_flatMap]; rfl
  · rintro e w' ⟨s, rfl, hs, hr, hg⟩
    exact ⟨s, p + 1, rfl, hB s hs, hr, Nat.le_refl _, gr_grown ((Below.refl _ w).alloc (Nat.le_refl _) _) hg⟩
theorem one_any (g p : Nat) (v : Value) (Q : List Int) (w : World) (h : Rdr w g p) (hp : p < 1000000000) (hv : SlR w (g + 1) w.heap.size 1 eI v Q) (hn : 1 ≤ Q.length) (hl : Q.length ≤ 1000) :
    Calls Tryd.prog 13 #[.pointer (some ⟨g, 0, none⟩), v] w fun e w' => ∃ s, e = .returned (.int .i64 s) ∧ s ∈ Q ∧ Rdr w' g (p + 1) ∧ w.grownBy w' (some g) := by
  obtain ⟨a, c, rfl, h1, h2, h3⟩ := hv
  unfold maxLen at h2
  go_enter Tryd.func13, Tryd.ntmps13
  go_wp2_with fail
  refine (pick_any g p _ w h hp (by omega)).mono ?_
  rintro e w1 ⟨k, rfl, hk0, hk1, hr, hgr⟩
  obtain ⟨m, rfl⟩ : ∃ m : Nat, k = m := ⟨k.toNat, by omega⟩
  have hm : m < Q.length := by have := hk1 (by omega); omega
  obtain ⟨b, o, rfl, hb, hc⟩ := h3 m hm
  have c0 : w1.cell? ⟨b, o + m, none⟩ = some (.int .i64 Q[m]) := by
    rw [World.cell?_of_block (w := w) (a := ⟨b, o + m, none⟩) (hgr.block b hb.2 (by simp; omega))]
    have := hc 0 _ rfl
    simpa using this
  clear hc h3 hk1
  go_wp2
  go_ret
  exact ⟨_, rfl, List.getElem_mem hm, hr, hgr⟩
theorem one_lit (g p : Nat) (Q : List Int) (w : World) (h : Rdr w g p) (hp : p < 1000000000) (hn : 1 ≤ Q.length) (hl : Q.length ≤ 1000) :
    Calls Tryd.prog 13 #[.pointer (some ⟨g, 0, none⟩), .slice (some ⟨w.heap.size, 0, none⟩) Q.length Q.length] (w.alloc (.cells (Q.map (Value.int .i64)).toArray 3)) fun e w' =>
      ∃ s, e = .returned (.int .i64 s) ∧ s ∈ Q ∧ Rdr w' g (p + 1) ∧ w.grownBy w' (some g) := by
  have hlt := h.lt
  refine (one_any g p _ Q _ (h.al _) hp (SlR.of_block (L := Q) (heap_alloc_new w _) (Nat.le_refl _) (by unfold maxLen; omega) (by omega) (by simp) (fun _ _ => rfl) ?_) hn hl).mono ?_
  · rw [Nat.mul_one, List.take_of_length_le (by simp), List.map_eq_flatMap]; rfl
  · rintro e w' ⟨s, rfl, hs, hr, hg⟩
    exact ⟨s, rfl, hs, hr, gr_grown ((Below.refl _ w).alloc (Nat.le_refl _) _) hg⟩
theorem aPart_any (g p : Nat) (w : World) (h : Rdr w g p) (hp : p < 900000000) :
    Calls Tryd.prog 55 #[.pointer (some ⟨g, 0, none⟩)] w (DS w g p 1 1) := by
  go_enter Tryd.func55, Tryd.ntmps55
  go_wp2_with fail
  refine (of_lit g p [⟨#[97]⟩, ⟨#[98]⟩, ⟨#[99]⟩, ⟨#[97]⟩, ⟨#[98]⟩] 1 w h (by omega) (by decide) (by decide) (by decide)).mono ?_
  rintro e w1 ⟨s, p', rfl, hs, hr, hp', hg⟩
  go_wp2
  go_ret
  exact ⟨s, p', rfl, hs, hr, hp', hg⟩
theorem aName_any (g p : Nat) (w : World) (h : Rdr w g p) (hp : p < 800000000) :
    Calls Tryd.prog 39 #[.pointer (some ⟨g, 0, none⟩)] w (DS w g p 4 5) := by
  go_enter Tryd.func39, Tryd.ntmps39
  go_wp2_with fail
  refine (aPart_any g p w h (by omega)).mono ?_
  rintro e w1 ⟨s, p1, rfl, hs, hr, hp1, hg1⟩
  go_wp2_with fail
  refine (one_lit g p1 [0, 1, 0, 1, 2] w1 hr (by omega) (by decide) (by decide)).mono ?_
  rintro e w2 ⟨k, rfl, hk, hr2, hg2⟩
  have hg2 := grown_trans hg1 hg2
  have hk2 : 0 ≤ k ∧ k ≤ 2 := by simp at hk; omega
  obtain ⟨m, rfl⟩ : ∃ m : Nat, k = m := ⟨k.toNat, by omega⟩
  clear hk
  go_wp2
  go_loopw [3, 4] (fun s i wr => ∃ j q : Nat, ∃ x : ByteArray, j ≤ m ∧ i = .int .i64 j ∧ s = .string x ∧ x.size + 2 * j ≤ 5 ∧ Rdr wr g q ∧ q + j ≤ p + 4 ∧ w.grownBy wr (some g)) (fun _ i _ => (intOf i).toNat)
  case atStart => exact ⟨m, p1 + 1, s, Nat.le_refl _, rfl, rfl, by omega, hr2, by omega, hg2⟩
  case round =>
    obtain ⟨j, q, x, hj, rfl, rfl, hx, hrr, hq, hgg⟩ := hrel
    by_cases hlt : 0 < (j : Int)
    · have hj2 : (j : Int) ≤ 2 := by omega
      go_wp2_with fail
      refine (aPart_any g q wr hrr (by omega)).mono ?_
      rintro e w3 ⟨y, p3, rfl, hy, hr3, hp3, hg3⟩
      go_wp2
      go_roundw
      case rel => exact ⟨j - 1, p3, _, by omega, by go_num, rfl, by simp only [ByteArray.size_append]; have e : (⟨#[46]⟩ : ByteArray).size = 1 := rfl; omega, hr3, by omega, grown_trans hgg hg3⟩
      case measure => simp [intOf]; omega
    · go_wp2
      go_ret
      exact ⟨x, q, rfl, by omega, hrr, by omega, hgg⟩
theorem anyName_any (g p : Nat) (w : World) (h : Rdr w g p) (hp : p < 700000000) :
    Calls Tryd.prog 26 #[.pointer (some ⟨g, 0, none⟩)] w (DS w g p 6 7) := by
  go_enter Tryd.func26, Tryd.ntmps26
  go_wp2_with fail
  refine (aName_any g p w h (by omega)).mono ?_
  rintro e w1 ⟨s, p1, rfl, hs, hr, hp1, hg1⟩
  go_wp2_with fail
  refine (pick_any g p1 _ w1 hr (by omega) (by omega)).mono ?_
  rintro e w2 ⟨k, rfl, hk0, hk1, hr2, hgr2⟩
  have hgr2 := grown_trans hg1 hgr2
  clear hk1
  by_cases hk : k = 0
  · have hk' : (k == 0) = true := by simp [hk]
    clear hk
    go_wp2
    go_ret
    exact ⟨_, _, rfl, by simp only [ByteArray.size_append]; have e : (⟨#[46]⟩ : ByteArray).size = 1 := rfl; omega, hr2, by omega, hgr2⟩
  · have hk' : (k == 0) = false := by simp [hk]
    clear hk
    by_cases hk2 : k = 1
    · have hk' : (k == 1) = true := by simp [hk2]
      clear hk2
      go_wp2_with fail
      refine (of_lit g (p1 + 1) [⟨#[]⟩, ⟨#[97, 46, 46, 98]⟩, ⟨#[97, 46, 98, 46, 99, 46, 100]⟩, ⟨#[65]⟩, ⟨#[97, 98, 99, 100]⟩] 7 w2 hr2 (by omega) (by decide) (by decide) (by decide)).mono ?_
      rintro e w3 ⟨s, p', rfl, hs, hr3, hp', hg⟩
      go_wp2
      go_ret
      exact ⟨s, p', rfl, hs, hr3, by omega, grown_trans hgr2 hg⟩
    · have hk' : (k == 1) = false := by simp [hk2]
      clear hk2
      go_wp2
      go_ret
      exact ⟨_, _, rfl, by omega, hr2, by omega, hgr2⟩
theorem anyPackage_any (g p : Nat) (w : World) (h : Rdr w g p) (hp : p < 600000000) :
    Calls Tryd.prog 14 #[.pointer (some ⟨g, 0, none⟩)] w (DS w g p 7 7) := by
  go_enter Tryd.func14, Tryd.ntmps14
  go_wp2_with fail
  refine (pick_any g p _ w h (by omega) (by omega)).mono ?_
  rintro e w1 ⟨k, rfl, hk0, hk1, hr, hgr⟩
  clear hk1
  by_cases hk : k = 0
  · have hk' : (k == 0) = true := by simp [hk]
    clear hk
    go_wp2
    go_ret
    exact ⟨_, _, rfl, by decide, hr, by omega, hgr⟩
  · have hk' : (k == 0) = false := by simp [hk]
    clear hk
    go_wp2_with fail
    refine (anyName_any g (p + 1) w1 hr (by omega)).mono ?_
    rintro e w2 ⟨s, p', rfl, hs, hr2, hp', hg⟩
    go_wp2
    go_ret
    exact ⟨s, p', rfl, hs, hr2, by omega, grown_trans hgr hg⟩
/-- What a law is handed by a draw of one text. -/
def DrawnS (w : World) (B : Nat) (e : Ending) (w' : World) : Prop := ∃ s : ByteArray, e = .returned (.string s) ∧ s.size ≤ B ∧ Gr w w'
def DrawnSS (w : World) (B : Nat) (e : Ending) (w' : World) : Prop := ∃ s t : ByteArray, e = .returned (.tuple #[.string s, .string t]) ∧ s.size ≤ B ∧ t.size ≤ B ∧ Gr w w'
end Go.Proofs.YtepljjaienpepaaDoor

/-
  Walks of the laws on drawn names: their last parts, parents and children.
-/
namespace Go.Proofs.YtepljjaienpepaaDoor
open Go Go.RowKit Imp
set_option linter.unusedVariables false

theorem beq_same (y : ByteArray) : (y.toList == y.toList) = true := beq_self_eq_true _
theorem bne_same (y : ByteArray) : (y.toList != y.toList) = false := by simp
theorem emp_of {y : ByteArray} {l : List UInt8} (h : bs y = l) : y.toList.isEmpty = l.isEmpty := by rw [isEmpty_toList, h]
theorem size_of {y : ByteArray} {l : List UInt8} (h : bs y = l) : y.size = l.length := by rw [← h, bs_length]
theorem emp_false {l : List UInt8} (h : l ≠ []) : l.isEmpty = false := by cases l with | nil => exact absurd rfl h | cons => rfl

end Go.Proofs.YtepljjaienpepaaDoor

/-
  Walks: the package in common; the laws on names resolved, relative names and the package in common.
-/
namespace Go.Proofs.YtepljjaienpepaaDoor
open Go Go.RowKit Imp
set_option linter.unusedVariables false

theorem fCommon_bad2 {a b : List UInt8} (h : vName b = false) : fCommon a b = [] := by
  unfold fCommon
  rw [filter_false (fun x _ => by rw [fUnder, h]; rfl)]; rfl
theorem fCommon_bad1 {a b : List UInt8} (h : vName a = false) : fCommon a b = [] := by
  unfold fCommon
  rw [fAbove, h]; rfl
theorem fAbove_small (s : List UInt8) : (fAbove s).length ≤ 3 ∧ ∀ n ∈ fAbove s, n.length ≤ 11 ∧ vName n = true := by
  unfold fAbove
  split
  · rename_i h
    refine ⟨by unfold aboveP; rw [List.length_map, List.length_range]; exact (vName_parts h).1, fun n hn => ?_⟩
    have := above_name h n hn
    exact ⟨vName_length this, this⟩
  · exact ⟨by simp, by simp⟩

end Go.Proofs.YtepljjaienpepaaDoor
