/-
  What every claim of this seat takes at its end: the way from a walk to the row.
-/
import Derived.Test.YtomndnlpogikdaaDoorRows
import Derived.HandedShaped
import Derived.LaidLaws
import Derived.WalkKit
import Derived.ProofKit
import Derived.OpenShut
import Derived.Deep.Slices
import Derived.Deep.Fields
import Derived.ChangeSame
import Derived.Test.YtomndnlpogikdaaDoorMem
import Derived.Test.YtomndnlpogikdaaDoorNamesB
namespace Go.Proofs.YtomndnlpogikdaaDoor
open Go Go.RowKit Go.ChangeShapes Go.WideShapes Go.ChangeAt Go.Deep Imp

theorem laidOut : laidOutB Tryd.prog = true := by kernel_rfl
theorem okW_of_shaped {w : World} (h : w.ShapedOpen Tryd.prog) : OkW w := Tryd.laysM146.s1_3 w h

/-- The wrap for a row that lists variables, handing over the reach and the world's shape. -/
theorem returnsInHanded_of_change_and_shaped {H : Type} {enc : TypeId × Value → H} {a : Assume} {C : Checked} {os : Os} {f : FuncId} {fn : Func} {s : ChangeSpec} {conds : List PathCond} {apart fresh handsOn again : Bool} {X : World → Array Value → Prop}
    (hX : ∀ (w w' : World) (args : Array Value), w.heap = w'.heap → X w args → X w' args)
    (own : ownKnob C.prog.godebug = none) (started : os.Started) (noInit : C.prog.inits.idxOf? f = none) (hfn : C.prog.funcs[f]? = some fn)
    (witness : ∃ (w : World) (tape : Tape) (i : Input), w.os = os ∧ (w.forCall tape i).Shaped C.prog ∧ i.vars = [] ∧ Input.okWide C.prog (w.forCall tape i) .any w.heap.size f i ∧
      ((s.pre enc C.prog fn conds apart (w.forCall tape i).memory i.args ∧ X (w.forCall tape i).memory i.args) ∧ sizedMet enc C.prog fn (OpenSpec.ofChange s) apart (w.forCall tape i).memory i.args) ∧ a.holds C.prog (lone (Frame.enter C.prog f i.args .normal) [] (w.forCall tape i)))
    (contract : ∀ (W : World) (base : Nat) (args : Array Value) (ds gs : List (DataW H)) (before : List MemPlace),
      (∀ (j : Nat) t v, fn.params[j]? = some t → args[j]? = some v → Value.okWide C.prog W .any base t v) →
      DataW.Whole enc C.prog fn.params.toList s.vars apart W args.toList ds gs before →
      conds.all (PathCond.test C.prog ⟨fn.params.toList, ds, s.plain.varTypes C.prog, gs⟩) = true →
      (DataW.weightsEach C.prog (fn.params.toList ++ s.plain.varTypes C.prog) (ds ++ gs)).all (· ≤ reachBytes) = true → X W args →
      W.ShapedOpen C.prog →
      a.holds C.prog (lone (Frame.enter C.prog f args .normal) [] W) →
      Calls C.prog f args W fun e W' => ∃ v, e = .returned v ∧ s.post enc C.prog fn apart fresh handsOn again W args v W') :
    ReturnsInHanded a C os f .any (fun w args => (s.pre enc C.prog fn conds apart w args ∧ X w args) ∧ sizedMet enc C.prog fn (OpenSpec.ofChange s) apart w args) (s.post enc C.prog fn apart fresh handsOn again) := by
  refine returnsInHanded_of_calls own started noInit witness ?_
  intro w tape i _ hsh _ hok hpre hholds
  obtain ⟨_, _, _, fn', hfn', _, _, _, _, hval⟩ := hok
  have e : fn' = fn := Option.some.inj (hfn'.symm.trans hfn)
  subst e
  obtain ⟨⟨⟨ds, gs, before, hw, hc⟩, hx⟩, hz⟩ := hpre
  have hw' := DataW.Whole.of_heap (w' := w.forCall tape i) (by rfl) hw
  refine (contract (w.forCall tape i) w.heap.size i.args ds gs before hval hw' hc (hz.weights hw) (hX _ _ _ (by rfl) hx) hsh hholds).mono fun e W' ⟨v, he, hp⟩ => ?_
  subst he
  exact ChangeSpec.post_blind hp

/-- A slice whose cells lie at its address reads as the list. -/
theorem SlR_of_cells {α : Type} {w : World} {k : Nat} {enc : α → List Value} {x : Addr} {c : Nat} (L : List α) (h1 : L.length ≤ c) (h2 : c ≤ maxLen) (hpos : ∀ y ∈ L, 0 < (enc y).length)
    (hc : ∀ i (h : i < L.length) j u, (enc L[i])[j]? = some u → w.cell? (x.add (i * k + j)) = some u) : SlR w 0 w.heap.size k enc (.slice (some x) L.length c) L := by
  refine ⟨_, c, rfl, h1, h2, fun i hi => ?_⟩
  have h0 := hpos L[0] (List.getElem_mem (by omega))
  have hx := hc 0 (by omega) 0 _ (List.getElem?_eq_getElem h0)
  have e0 : x.add (0 * k + 0) = x := by simp [Addr.add]
  rw [e0] at hx
  have hb : x.block < w.heap.size := World.block_lt_of_cell? w x hx
  obtain ⟨b, o, sp⟩ := x
  have hsp : sp = none := by
    cases sp with
    | none => rfl
    | some s => exfalso; unfold World.cell? at hx; split at hx <;> simp at hx
  subst hsp
  refine ⟨b, o, rfl, ⟨Nat.zero_le _, hb⟩, fun j u hu => ?_⟩
  have h := hc i hi j u hu
  have e : (⟨b, o, none⟩ : Addr).add (i * k + j) = ⟨b, o + i * k + j, none⟩ := by
    unfold Addr.add
    split
    · rename_i h; rw [Nat.add_assoc, h]; rfl
    · rw [Nat.add_assoc]
  rwa [e] at h

section
variable {H : Type} {enc : TypeId × Value → H} {W : World} {base : Nat} {v : Value} {d : DataW H} {p : List MemPlace}
set_option maxRecDepth 100000 in
theorem open_arg_ints (hv : Value.okWide Tryd.prog W .any base 85 v) (h : DataW.Trod enc Tryd.prog W 0 (fun _ => true) true 85 v d p) (_hs : (DataW.weights Tryd.prog 85 d).all (fun x => decide (x ≤ reachBytes)) = true) : ∃ L : List Int, SlR W 0 W.heap.size 1 eI v L := by
  obtain ⟨a0, len0, cap0, rfl⟩ := okWide_slice Tryd.underlying85 hv
  obtain ⟨fuel, hf⟩ := h
  rcases open_ints Tryd.underlying85 Tryd.underlying3 (by kernel_rfl) hf with ⟨hcs, _⟩ | ⟨x, l, c, zs, hcs, _, hl, hm, hz, _, hcell, hwz⟩
  · simp [Value.cells] at hcs
    obtain ⟨rfl, rfl, rfl⟩ := hcs
    exact ⟨[], SlR.nil _ _ 0 (Nat.zero_le _) _⟩
  · simp [Value.cells] at hcs
    obtain ⟨rfl, rfl, rfl⟩ := hcs
    have hz' : zs.length = cap0 := by simpa using hz
    have hlen : (zs.take len0).length = len0 := by rw [List.length_take]; omega
    refine ⟨zs.take len0, ?_⟩
    have := SlR_of_cells (w := W) (k := 1) (enc := eI) (x := x) (c := cap0) (zs.take len0) (by omega) hm (fun y _ => by simp [eI]) (fun i hi j u hu => ?_)
    · rwa [hlen] at this
    · have hj : j < 1 := (List.getElem?_eq_some_iff.1 hu).1
      obtain rfl : j = 0 := by omega
      rw [hlen] at hi
      have hc := hcell i (by omega)
      simp [eI] at hu
      subst hu
      rw [Nat.mul_one, Nat.add_zero, hc]
      simp [List.getD, List.getElem?_eq_getElem (show i < zs.length by omega)]
set_option maxRecDepth 100000 in
theorem open_arg_bytes (hv : Value.okWide Tryd.prog W .any base 51 v) (h : DataW.Trod enc Tryd.prog W 0 (fun _ => true) true 51 v d p) (_hs : (DataW.weights Tryd.prog 51 d).all (fun x => decide (x ≤ reachBytes)) = true) : ∃ L : List UInt8, SlR W 0 W.heap.size 1 eB v L := by
  obtain ⟨a0, len0, cap0, rfl⟩ := okWide_slice Tryd.underlying51 hv
  obtain ⟨fuel, hf⟩ := h
  rcases open_ints Tryd.underlying51 Tryd.underlying5 (by kernel_rfl) hf with ⟨hcs, _⟩ | ⟨x, l, c, zs, hcs, _, hl, hm, hz, _, hcell, hwz⟩
  · simp [Value.cells] at hcs
    obtain ⟨rfl, rfl, rfl⟩ := hcs
    exact ⟨[], SlR.nil _ _ 0 (Nat.zero_le _) _⟩
  · simp [Value.cells] at hcs
    obtain ⟨rfl, rfl, rfl⟩ := hcs
    have hz' : zs.length = cap0 := by simpa using hz
    have hlen : ((zs.take len0).map fun z => UInt8.ofNat z.toNat).length = len0 := by rw [List.length_map, List.length_take]; omega
    refine ⟨(zs.take len0).map fun z => UInt8.ofNat z.toNat, ?_⟩
    have := SlR_of_cells (w := W) (k := 1) (enc := eB) (x := x) (c := cap0) ((zs.take len0).map fun z => UInt8.ofNat z.toNat) (by omega) hm (fun y _ => by simp [eB]) (fun i hi j u hu => ?_)
    · rwa [hlen] at this
    · have hj : j < 1 := (List.getElem?_eq_some_iff.1 hu).1
      obtain rfl : j = 0 := by omega
      rw [hlen] at hi
      have hc := hcell i (by omega)
      have hz2 := hwz zs[i] (List.getElem_mem (by omega))
      have hr : 0 ≤ zs[i] ∧ zs[i] ≤ 255 := by simpa [Lit.wf, IntKind.min, IntKind.max, IntKind.signed, IntKind.bits] using hz2
      simp [eB] at hu
      subst hu
      rw [Nat.mul_one, Nat.add_zero, hc]
      simp [List.getD, List.getElem?_eq_getElem (show i < zs.length by omega)]
      omega
end

end Go.Proofs.YtomndnlpogikdaaDoor
