/-
  Walks: valid bodies, of both packages; the law on them.
-/
import Derived.Test.YtbknhodjcgnfnaaDoorBodyBZ
import Derived.Deep.RegionHeld3
namespace Go.Proofs.YtbknhodjcgnfnaaDoor
open Go Go.RowKit Imp
set_option linter.unusedVariables false

theorem okStm_one {kind : Int} {mod : ByteArray} {level : Int} {name : ByteArray} {value : Int} (k0 : (kind == 0) = false) (k1 : (kind == 1) = true) :
    okStm ⟨kind, mod, level, name, value⟩ = (vPkg (bs mod) && (decide (0 ≤ level) && decide (level ≤ 3)) && (!mod.toList.isEmpty || decide (0 < level)) && vPart (bs name) && (value == 0)) := by
  simp only [okStm, k0, k1, Bool.false_eq_true, ↓reduceIte]
theorem svalidStmt_any (s : Stm) (w : World) (hok : OkW w) (hm : s.mod.size ≤ 16777216) (hn : s.name.size ≤ 16777216) :
    Calls Tryd.prog 59 #[vSt s] w fun e w' => e = .returned (.bool (okStm s)) ∧ Gr w w' := by
  obtain ⟨kind, mod, level, name, value⟩ := s
  by_cases h0 : (kind == 0) = true
  · have k0 := h0
    have := sStmt0 kind mod level name value w hok hm hn k0
    simpa only [okStm, k0, Bool.false_eq_true, ↓reduceIte] using this
  · have k0 := (Bool.not_eq_true _).mp h0
    by_cases h1 : (kind == 1) = true
    · have k1 := h1
      have := sStmt1 kind mod level name value w hok hm hn k0 k1
      simpa only [okStm, k0, k1, Bool.false_eq_true, ↓reduceIte] using this
    · have k1 := (Bool.not_eq_true _).mp h1
      by_cases h2 : (kind == 2) = true
      · have k2 := h2
        have := sStmt2 kind mod level name value w hok hm hn k0 k1 k2
        simpa only [okStm, k0, k1, k2, Bool.false_eq_true, ↓reduceIte] using this
      · have k2 := (Bool.not_eq_true _).mp h2
        by_cases h3 : (kind == 3) = true
        · have k3 := h3
          have := sStmt3 kind mod level name value w hok hm hn k0 k1 k2 k3
          simpa only [okStm, k0, k1, k2, k3, Bool.false_eq_true, ↓reduceIte] using this
        · have k3 := (Bool.not_eq_true _).mp h3
          by_cases h4 : (kind == 4) = true
          · have k4 := h4
            have := sStmt4 kind mod level name value w hok hm hn k0 k1 k2 k3 k4
            simpa only [okStm, k0, k1, k2, k3, k4, Bool.false_eq_true, ↓reduceIte] using this
          · have k4 := (Bool.not_eq_true _).mp h4
            by_cases h5 : (kind == 5) = true
            · have k5 := h5
              have := sStmt5 kind mod level name value w hok hm hn k0 k1 k2 k3 k4 k5
              simpa only [okStm, k0, k1, k2, k3, k4, k5, Bool.false_eq_true, ↓reduceIte] using this
            · have k5 := (Bool.not_eq_true _).mp h5
              have e : okStm ⟨kind, mod, level, name, value⟩ = false := by simp only [okStm, k0, k1, k2, k3, k4, k5, Bool.false_eq_true, ↓reduceIte]
              rw [e]
              exact sStmtX kind mod level name value w hok hm hn k0 k1 k2 k3 k4 k5
theorem istmtOk_any (s : Stm) (w : World) (hok : OkW w) (hm : s.mod.size ≤ 16777216) (hn : s.name.size ≤ 16777216) :
    Calls Tryd.prog 39 #[vSt s] w fun e w' => e = .returned (.bool (okStm s)) ∧ Gr w w' := by
  obtain ⟨kind, mod, level, name, value⟩ := s
  by_cases h0 : (kind == 0) = true
  · have k0 := h0
    have := iStmt0 kind mod level name value w hok hm hn k0
    simpa only [okStm, k0, Bool.false_eq_true, ↓reduceIte] using this
  · have k0 := (Bool.not_eq_true _).mp h0
    by_cases h1 : (kind == 1) = true
    · have k1 := h1
      have := iStmt1 kind mod level name value w hok hm hn k0 k1
      rw [isEmpty_toList] at this
      rw [okStm_one k0 k1, vPkg, isEmpty_toList]
      exact this
    · have k1 := (Bool.not_eq_true _).mp h1
      by_cases h2 : (kind == 2) = true
      · have k2 := h2
        have := iStmt2 kind mod level name value w hok hm hn k0 k1 k2
        simpa only [okStm, k0, k1, k2, Bool.false_eq_true, ↓reduceIte] using this
      · have k2 := (Bool.not_eq_true _).mp h2
        by_cases h3 : (kind == 3) = true
        · have k3 := h3
          have := iStmt3 kind mod level name value w hok hm hn k0 k1 k2 k3
          simpa only [okStm, k0, k1, k2, k3, Bool.false_eq_true, ↓reduceIte] using this
        · have k3 := (Bool.not_eq_true _).mp h3
          by_cases h4 : (kind == 4) = true
          · have k4 := h4
            have := iStmt4 kind mod level name value w hok hm hn k0 k1 k2 k3 k4
            simpa only [okStm, k0, k1, k2, k3, k4, Bool.false_eq_true, ↓reduceIte] using this
          · have k4 := (Bool.not_eq_true _).mp h4
            by_cases h5 : (kind == 5) = true
            · have k5 := h5
              have := iStmt5 kind mod level name value w hok hm hn k0 k1 k2 k3 k4 k5
              simpa only [okStm, k0, k1, k2, k3, k4, k5, Bool.false_eq_true, ↓reduceIte] using this
            · have k5 := (Bool.not_eq_true _).mp h5
              have e : okStm ⟨kind, mod, level, name, value⟩ = false := by simp only [okStm, k0, k1, k2, k3, k4, k5, Bool.false_eq_true, ↓reduceIte]
              rw [e]
              exact iStmtX kind mod level name value w hok hm hn k0 k1 k2 k3 k4 k5
theorem svalidBody_any {lo hi : Nat} (v : Value) (L : List Stm) (w : World) (hv : SlR w lo hi 5 eSt v L) (hhi : hi ≤ w.heap.size) (hsm : ∀ s ∈ L, szSt s ≤ 16777216) (hok : OkW w) :
    Calls Tryd.prog 44 #[v] w fun e w' => e = .returned (.bool (okBody L)) ∧ Gr w w' := by
  obtain ⟨a, c, rfl, h1, h2, h3⟩ := hv
  unfold maxLen at h2
  obtain ⟨R, hR⟩ : ∃ R, R = okBody L := ⟨_, rfl⟩
  rw [← hR]
  have HR := Lib.hid hR
  have HM := Lib.hid hsm
  clear hsm hR
  go_enter Tryd.func44, Tryd.ntmps44
  go_wp2
  go_loopw [3] (fun i wr => ∃ k : Nat, k ≤ L.length ∧ i = .int .i64 k ∧ (L.take k).all okStm = true ∧ Gr w wr) (fun i _ => L.length - (intOf i).toNat)
  case atStart => exact ⟨0, Nat.zero_le _, rfl, by simp, Gr.rfl' _⟩
  case round =>
    obtain ⟨k, hk, rfl, hall, hgr⟩ := hrel
    have H := Lib.hid hall
    have hokr := hok.gr hgr
    clear hall
    by_cases hlt : k < L.length
    · obtain ⟨b, o, rfl, hbb, hc⟩ := h3 k hlt
      obtain ⟨x, hx⟩ : ∃ x, x = L[k] := ⟨_, rfl⟩
      obtain ⟨c0, c1, c2, c3, c4⟩ := cells_stm (w := wr) (b := b) (o := o) (k := k) (x := x) (fun j u hu => (hgr.cell (p := ⟨b, o + k * 5 + j, none⟩) (Nat.lt_of_lt_of_le hbb.2 hhi)).trans (hc j u (by rw [← hx]; exact hu)))
      have hpl := HM.out L[k] (List.getElem_mem hlt)
      rw [← hx, szSt] at hpl
      have hat := all_take_succ okStm L k hlt
      rw [← hx] at hat
      have HX := Lib.hid hx
      have HA := Lib.hid hat
      have hst := svalidStmt_any x wr hokr (by omega) (by omega)
      clear hc h3 hat hx
      by_cases hv : okStm x = true
      · rw [hv] at hst
        go_wp2_with (go_at_call 59; refine hst.mono ?_; rintro e w2 ⟨rfl, hb2⟩)
        go_roundw
        case rel => exact ⟨k + 1, by omega, by go_num, by rw [HA.out, H.out, hv]; rfl, hgr.tr hb2⟩
        case measure => simp [intOf]; omega
      · have hv' : okStm x = false := (Bool.not_eq_true _).mp hv
        rw [hv'] at hst
        go_wp2_with (go_at_call 59; refine hst.mono ?_; rintro e w2 ⟨rfl, hb2⟩)
        go_ret
        exact ⟨ret_bool (by rw [HR.out, okBody, all_false_at _ _ k hlt (by rw [← HX.out]; exact hv')]; rfl), hgr.tr hb2⟩
    · have hall : L.all okStm = true := by rw [← List.take_of_length_le (show L.length ≤ k by omega)]; exact H.out
      have hfin : R = decide ((L.length : Int) ≤ 8) := by rw [HR.out, okBody, hall, Bool.true_and]
      have HF := Lib.hid hfin
      clear hall hfin
      go_wp2
      go_ret
      exact ⟨ret_bool (by rw [HF.out]), hgr⟩
theorem iValidBody_any {lo hi : Nat} (v : Value) (L : List Stm) (w : World) (hv : SlR w lo hi 5 eSt v L) (hhi : hi ≤ w.heap.size) (hsm : ∀ s ∈ L, szSt s ≤ 16777216) (hok : OkW w) :
    Calls Tryd.prog 19 #[v] w fun e w' => e = .returned (.bool (okBody L)) ∧ Gr w w' := by
  obtain ⟨a, c, rfl, h1, h2, h3⟩ := hv
  unfold maxLen at h2
  obtain ⟨R, hR⟩ : ∃ R, R = okBody L := ⟨_, rfl⟩
  rw [← hR]
  have HR := Lib.hid hR
  have HM := Lib.hid hsm
  clear hsm hR
  go_enter Tryd.func19, Tryd.ntmps19
  go_wp2
  go_loopw [7] (fun i wr => ∃ k : Nat, k ≤ L.length ∧ i = .int .i64 k ∧ (L.take k).all okStm = true ∧ Gr w wr) (fun i _ => L.length - (intOf i).toNat)
  case atStart => exact ⟨0, Nat.zero_le _, rfl, by simp, Gr.rfl' _⟩
  case round =>
    obtain ⟨k, hk, rfl, hall, hgr⟩ := hrel
    have H := Lib.hid hall
    have hokr := hok.gr hgr
    clear hall
    by_cases hlt : k < L.length
    · obtain ⟨b, o, rfl, hbb, hc⟩ := h3 k hlt
      obtain ⟨x, hx⟩ : ∃ x, x = L[k] := ⟨_, rfl⟩
      obtain ⟨c0, c1, c2, c3, c4⟩ := cells_stm (w := wr) (b := b) (o := o) (k := k) (x := x) (fun j u hu => (hgr.cell (p := ⟨b, o + k * 5 + j, none⟩) (Nat.lt_of_lt_of_le hbb.2 hhi)).trans (hc j u (by rw [← hx]; exact hu)))
      have hpl := HM.out L[k] (List.getElem_mem hlt)
      rw [← hx, szSt] at hpl
      have hat := all_take_succ okStm L k hlt
      rw [← hx] at hat
      have HX := Lib.hid hx
      have HA := Lib.hid hat
      have hst := fun W h => istmtOk_any x W h (by omega) (by omega)
      have hgs := hgr.size
      clear hc h3 hat hx
      by_cases hv : okStm x = true
      · rw [hv] at hst
        go_wp2_with (go_at_call 39; refine (hst _ (hokr.al _)).mono ?_; rintro e w2 ⟨rfl, hb2⟩)
        go_roundw
        case rel => exact ⟨k + 1, by omega, by go_num, by rw [HA.out, H.out, hv]; rfl, Gr.tr (hgr.alloc hgs _) hb2⟩
        case measure => simp [intOf]; omega
      · have hv' : okStm x = false := (Bool.not_eq_true _).mp hv
        rw [hv'] at hst
        go_wp2_with (go_at_call 39; refine (hst _ (hokr.al _)).mono ?_; rintro e w2 ⟨rfl, hb2⟩)
        go_ret
        exact ⟨ret_bool (by rw [HR.out, okBody, all_false_at _ _ k hlt (by rw [← HX.out]; exact hv')]; rfl), Gr.tr (hgr.alloc hgs _) hb2⟩
    · have hall : L.all okStm = true := by rw [← List.take_of_length_le (show L.length ≤ k by omega)]; exact H.out
      have hfin : R = decide ((L.length : Int) ≤ 8) := by rw [HR.out, okBody, hall, Bool.true_and]
      have HF := Lib.hid hfin
      clear hall hfin
      go_wp2
      go_ret
      exact ⟨ret_bool (by rw [HF.out]), hgr⟩
end Go.Proofs.YtbknhodjcgnfnaaDoor

/-
  Walks over files and trees: their size, copy, comparison.
-/
namespace Imp
open Go Go.RowKit
structure Fil where
  root : Int
  pkg : ByteArray
  name : ByteArray
  init : Bool
  stamp : Int
  body : List Stm
/-- A file and the slice value that its body is. -/
abbrev FR := Fil × Value
def eF (r : FR) : List Value := [.int .i64 r.1.root, .string r.1.pkg, .string r.1.name, .bool r.1.init, .int .i64 r.1.stamp, r.2]
abbrev vF (r : FR) : Value := .agg #[.int .i64 r.1.root, .string r.1.pkg, .string r.1.name, .bool r.1.init, .int .i64 r.1.stamp, r.2]
abbrev BodyR (w : World) (lo hi : Nat) (r : FR) : Prop := SlR w lo hi 5 eSt r.2 r.1.body
/-- A slice of files reads as the list, its bodies too. -/
def FlR (w : World) (lo hi : Nat) (v : Value) (L : List FR) : Prop := SlR w lo hi 6 eF v L ∧ ∀ r ∈ L, BodyR w lo hi r
def okF (f : Fil) : Prop := okI f.root ∧ f.pkg.size ≤ maxLen ∧ f.name.size ≤ maxLen ∧ okI f.stamp ∧ ∀ s ∈ f.body, okSt s
def szF (f : Fil) : Nat := f.pkg.size + f.name.size + (f.body.length + totB f.body)
def totF : List FR → Nat
  | [] => 0
  | s :: r => szF s.1 + totF r
theorem totF_snoc : ∀ (l : List FR) (s : FR), totF (l ++ [s]) = totF l + szF s.1
  | [], s => by simp [totF]
  | x :: l, s => by rw [List.cons_append, totF, totF_snoc l s, totF]; omega
theorem totF_take {l : List FR} {k : Nat} (h : k < l.length) : totF (l.take (k + 1)) = totF (l.take k) + szF l[k].1 := by
  rw [List.take_succ_eq_append_getElem h, totF_snoc]
theorem totF_mem : ∀ {l : List FR} {s : FR}, s ∈ l → szF s.1 ≤ totF l
  | x :: l, s, h => by
    rw [List.mem_cons] at h
    rw [totF]
    rcases h with rfl | h
    · omega
    · have := totF_mem h; omega
theorem cells_fil {w : World} {b o k : Nat} {x : FR} (h : ∀ j u, (eF x)[j]? = some u → w.cell? ⟨b, o + k * 6 + j, none⟩ = some u) :
    w.cell? ⟨b, o + k * 6, none⟩ = some (.int .i64 x.1.root) ∧ w.cell? ⟨b, o + k * 6 + 1, none⟩ = some (.string x.1.pkg) ∧ w.cell? ⟨b, o + k * 6 + 2, none⟩ = some (.string x.1.name) ∧
    w.cell? ⟨b, o + k * 6 + 3, none⟩ = some (.bool x.1.init) ∧ w.cell? ⟨b, o + k * 6 + 4, none⟩ = some (.int .i64 x.1.stamp) ∧ w.cell? ⟨b, o + k * 6 + 5, none⟩ = some x.2 :=
  ⟨h 0 _ rfl, h 1 _ rfl, h 2 _ rfl, h 3 _ rfl, h 4 _ rfl, h 5 _ rfl⟩
theorem FlR.below {w w' : World} {lo hi B : Nat} {v : Value} {L : List FR} (h : FlR w lo hi v L) (hb : Below B w w') (hB : hi ≤ B) : FlR w' lo hi v L :=
  ⟨h.1.below hb hB, fun r hr => SlR.below (h.2 r hr) hb hB⟩
end Imp
namespace Go.Proofs.YtbknhodjcgnfnaaDoor
open Go Go.RowKit Imp
set_option linter.unusedVariables false

end Go.Proofs.YtbknhodjcgnfnaaDoor

/-
  Files and trees as arguments.
-/
namespace Imp
open Go Go.RowKit Go.ChangeShapes Go.WideShapes Go.ChangeAt Go.Deep
section
variable {H : Type} {enc : TypeId × Value → H} {P : Program} {w : World} {base : Nat} {spare : Nat → Bool} {held : Bool}
theorem field_rows {α : Type} {e k : Nat} {cs : List Value} {off ft n : Nat} {o : Option (DataW H × List MemPlace)} (f : α → List Value) (Q : α → Prop) (hc : P.cellsOf ft = 1) (ht : P.underlying ft = some (.slice e)) (hk : P.cellsOf e = k) (hpos : 0 < k)
    (hrow : ∀ n cs' y, DataW.trod enc P w base spare held n e cs' = some y → ∃ z : α, cs' = f z ∧ Q z) (hs : o.isSome = true) (h : DataW.trod enc P w base spare held n ft ((cs.drop off).take (P.cellsOf ft)) = o) :
    ∃ v, cs[off]? = some v ∧ ∃ L : List α, SlR w 0 w.heap.size k f v L ∧ ∀ z ∈ L, Q z := by
  obtain ⟨y, rfl⟩ := Option.isSome_iff_exists.1 hs
  obtain ⟨v, e, L, h1, h2⟩ := open_rows f Q ht hk hpos hrow h
  rw [hc] at e
  exact ⟨v, take_one e, L, h1, h2⟩
end
theorem cells6 {w W : World} {b T : Nat} {a0 a1 a2 a3 a4 a5 : Value} (h : w.heap[b]? = some (.cells #[a0, a1, a2, a3, a4, a5] T (0, 0))) (hg : Below w.heap.size w W) :
    W.cell? ⟨b, 0, none⟩ = some a0 ∧ W.cell? ⟨b, 1, none⟩ = some a1 ∧ W.cell? ⟨b, 2, none⟩ = some a2 ∧ W.cell? ⟨b, 3, none⟩ = some a3 ∧ W.cell? ⟨b, 4, none⟩ = some a4 ∧ W.cell? ⟨b, 5, none⟩ = some a5 := by
  have h' := (hg.block b (lt_of_block h)).trans h
  exact ⟨by rw [cell_of_row W b 0 _ _ _ h']; rfl, by rw [cell_of_row W b 1 _ _ _ h']; rfl, by rw [cell_of_row W b 2 _ _ _ h']; rfl, by rw [cell_of_row W b 3 _ _ _ h']; rfl, by rw [cell_of_row W b 4 _ _ _ h']; rfl, by rw [cell_of_row W b 5 _ _ _ h']; rfl⟩
end Imp
namespace Go.Proofs.YtbknhodjcgnfnaaDoor
open Go Go.RowKit Go.ChangeShapes Go.WideShapes Go.ChangeAt Go.Deep Imp
set_option linter.unusedVariables false
section
variable {H : Type} {enc : TypeId × Value → H} {W : World} {base : Nat} {v : Value} {d : DataW H} {p : List MemPlace}
end
end Go.Proofs.YtbknhodjcgnfnaaDoor

/-
  Walks over files and trees: copies that the call owns.
-/
namespace Imp
open Go Go.RowKit
/-- A row known by its index is a slice that the call owns: rows of any width. -/
theorem own_of_rows {α : Type} {enc : α → List Value} {w : World} {base e g n k : Nat} {L : List α} {f : Nat → Value} (h : w.rowIs g e (n * k) f) (hb : base ≤ g) (h2 : n ≤ maxLen) (hn : n = L.length) (hk0 : 0 < k) (hk : ∀ x ∈ L, (enc x).length = k)
    (hf : ∀ i (h : i < L.length) j u, (enc L[i])[j]? = some u → f (i * k + j) = u) : Own w base e k enc (.slice (some ⟨g, 0, none⟩) n n) L := by
  obtain ⟨cur, hg, hs, hc⟩ := h
  subst hn
  have hlen := flatMap_len (enc := enc) (k := k) L hk
  refine ⟨hlen, .inr ⟨g, L.length, cur, rfl, hb, hg, Nat.le_refl _, h2, hs, ?_⟩⟩
  apply List.ext_getElem
  · rw [List.length_take, hlen]; simp; omega
  · intro m hm1 hm2
    rw [hlen] at hm2
    have hi : m / k < L.length := by rw [Nat.div_lt_iff_lt_mul hk0]; exact hm2
    have hj : m % k < (enc L[m / k]).length := by rw [hk _ (List.getElem_mem hi)]; exact Nat.mod_lt _ hk0
    have hm : m = m / k * k + m % k := by rw [Nat.mul_comm]; exact (Nat.div_add_mod m k).symm
    have hx := flatMap_get (enc := enc) (k := k) hk hi (List.getElem?_eq_getElem hj)
    have hy := hf (m / k) hi (m % k) _ (List.getElem?_eq_getElem hj)
    rw [← hm] at hx hy
    have hz := hc m (by omega)
    rw [hy] at hz
    rw [List.getElem_take]
    obtain ⟨h', e'⟩ := Array.getElem?_eq_some_iff.1 hz
    obtain ⟨h'', e''⟩ := List.getElem?_eq_some_iff.1 hx
    rw [e'', ← e']; simp
theorem heap_set6 {W : World} {g T : Nat} {a0 a1 a2 a3 a4 a5 b0 b1 b2 b3 b4 b5 : Value} (h : W.heap[g]? = some (.cells #[a0, a1, a2, a3, a4, a5] T (0, 0))) :
    ((((((W.setCell ⟨g, 0, none⟩ b0).setCell ⟨g, 1, none⟩ b1).setCell ⟨g, 2, none⟩ b2).setCell ⟨g, 3, none⟩ b3).setCell ⟨g, 4, none⟩ b4).setCell ⟨g, 5, none⟩ b5).heap[g]? = some (.cells #[b0, b1, b2, b3, b4, b5] T (0, 0)) := by
  simp [World.setCell, Array.getElem?_modify, h]
theorem heap_alloc3_new (w : World) (A B C : Obj) : (((w.alloc A).alloc B).alloc C).heap[w.heap.size + 1 + 1]? = some C := by
  have := heap_alloc_new ((w.alloc A).alloc B) C
  simpa using this
theorem row6 {w : World} {g T : Nat} {a0 a1 a2 a3 a4 a5 : Value} (h : w.heap[g]? = some (.cells #[a0, a1, a2, a3, a4, a5] T (0, 0))) :
    (w.cell? ⟨g, 0, none⟩ = some a0 ∧ w.cell? ⟨g, 1, none⟩ = some a1 ∧ w.cell? ⟨g, 2, none⟩ = some a2 ∧ w.cell? ⟨g, 3, none⟩ = some a3 ∧ w.cell? ⟨g, 4, none⟩ = some a4 ∧ w.cell? ⟨g, 5, none⟩ = some a5) ∧
    (∀ j, w.frozen? ⟨g, j, none⟩ = false) := by
  refine ⟨⟨?_, ?_, ?_, ?_, ?_, ?_⟩, fun j => by simp [World.frozen?, h]⟩ <;> (rw [cell_of_row w g _ _ _ _ h]; rfl)
end Imp
namespace Go.Proofs.YtbknhodjcgnfnaaDoor
open Go Go.RowKit Imp
set_option linter.unusedVariables false

end Go.Proofs.YtbknhodjcgnfnaaDoor

/-
  Walks over files and trees: whole copies that the call owns, each body in a block of its own.
-/
namespace Imp
open Go Go.RowKit
def filAt (M : List FR) (j : Nat) : Value := ((M[j / 6]?).bind fun r => (eF r)[j % 6]?).getD (.bool false)
theorem filAt_get {M : List FR} {k : Nat} (h : k < M.length) (r : Nat) {u : Value} (hu : (eF M[k])[r]? = some u) : filAt M (k * 6 + r) = u := by
  have hr : r < 6 := (List.getElem?_eq_some_iff.1 hu).1
  unfold filAt
  rw [show (k * 6 + r) / 6 = k by omega, show (k * 6 + r) % 6 = r by omega, List.getElem?_eq_getElem h]
  simp [hu]
theorem filAt_old {M : List FR} {x : FR} {j : Nat} (h : j < M.length * 6) : filAt (M ++ [x]) j = filAt M j := by
  unfold filAt
  rw [List.getElem?_append_left (by omega)]
theorem filAt_new {M : List FR} {x : FR} (r : Nat) {u : Value} (hu : (eF x)[r]? = some u) : filAt (M ++ [x]) (M.length * 6 + r) = u :=
  filAt_get (M := M ++ [x]) (k := M.length) (by simp) r (by simpa using hu)
theorem fil_row {M : List FR} {k j : Nat} {x : FR} (hk : M.length = k) (f : Nat → Value) :
    (if j = k * 6 + 5 then x.2 else if j = k * 6 + 4 then Value.int .i64 x.1.stamp else if j = k * 6 + 3 then Value.bool x.1.init else if j = k * 6 + 2 then Value.string x.1.name else if j = k * 6 + 1 then Value.string x.1.pkg else if j = k * 6 then Value.int .i64 x.1.root else if j < k * 6 then filAt M j else f j) =
    if j < (k + 1) * 6 then filAt (M ++ [x]) j else f j := by
  subst hk
  by_cases h5 : j = M.length * 6 + 5
  · subst h5; rw [if_pos rfl, if_pos (by omega), filAt_new 5 rfl]
  · rw [if_neg h5]
    by_cases h4 : j = M.length * 6 + 4
    · subst h4; rw [if_pos rfl, if_pos (by omega), filAt_new 4 rfl]
    · rw [if_neg h4]
      by_cases h3 : j = M.length * 6 + 3
      · subst h3; rw [if_pos rfl, if_pos (by omega), filAt_new 3 rfl]
      · rw [if_neg h3]
        by_cases h2 : j = M.length * 6 + 2
        · subst h2; rw [if_pos rfl, if_pos (by omega), filAt_new 2 rfl]
        · rw [if_neg h2]
          by_cases h1 : j = M.length * 6 + 1
          · subst h1; rw [if_pos rfl, if_pos (by omega), filAt_new 1 rfl]
          · rw [if_neg h1]
            by_cases h0 : j = M.length * 6
            · subst h0; rw [if_pos rfl, if_pos (by omega)]; exact (filAt_new 0 rfl).symm
            · rw [if_neg h0]
              by_cases h : j < M.length * 6
              · rw [if_pos h, if_pos (by omega), filAt_old h]
              · rw [if_neg h, if_neg (by omega)]
theorem heap_set6_other {W : World} {g b o0 o1 o2 o3 o4 o5 : Nat} {u0 u1 u2 u3 u4 u5 : Value} (h : b ≠ g) :
    ((((((W.setCell ⟨g, o0, none⟩ u0).setCell ⟨g, o1, none⟩ u1).setCell ⟨g, o2, none⟩ u2).setCell ⟨g, o3, none⟩ u3).setCell ⟨g, o4, none⟩ u4).setCell ⟨g, o5, none⟩ u5).heap[b]? = W.heap[b]? := by
  rw [Below.heap_setCell _ _ _ _ h, Below.heap_setCell _ _ _ _ h, Below.heap_setCell _ _ _ _ h, Below.heap_setCell _ _ _ _ h, Below.heap_setCell _ _ _ _ h, Below.heap_setCell _ _ _ _ h]
/-- No two of these files hold their bodies in one block. -/
def Apart (M : List FR) : Prop := M.Pairwise fun a b => ∀ i, a.2.ownBlock = some i → b.2.ownBlock ≠ some i
/-- A slice of files that the call owns, with all bodies; no two in one block. -/
def OwnT (w : World) (base tF tS : Nat) (v : Value) (M : List FR) : Prop :=
  Own w base tF 6 eF v M ∧ (∀ r ∈ M, Own w base tS 5 eSt r.2 r.1.body) ∧ Apart M ∧ ∀ r ∈ M, ∀ b, r.2.ownBlock = some b → v.ownBlock ≠ some b
theorem OwnT.reads {w : World} {base tF tS : Nat} {v : Value} {M : List FR} (h : OwnT w base tF tS v M) : FlR w base w.heap.size v M :=
  ⟨h.1.reads (fun _ _ => rfl), fun r hr => (h.2.1 r hr).reads (fun _ _ => rfl)⟩
end Imp
namespace Go.Proofs.YtbknhodjcgnfnaaDoor
open Go Go.RowKit Imp
set_option linter.unusedVariables false

end Go.Proofs.YtbknhodjcgnfnaaDoor

/-
  Walks over files and trees: valid files, files at one place. Printed by treed.py.
-/
namespace Imp
open Go Go.RowKit
def okFil (f : Fil) : Bool := (decide (0 ≤ f.root) && decide (f.root ≤ 2)) && vPkg (bs f.pkg) && (decide (0 ≤ f.stamp) && decide (f.stamp ≤ 99)) && okBody f.body &&
  (if f.init then !f.pkg.toList.isEmpty && f.name.toList.isEmpty else vPart (bs f.name) && vName (childP (bs f.pkg) (bs f.name)))
def sameP (f g : Fil) : Bool := f.root == g.root && (f.pkg.toList == g.pkg.toList) && (f.init == g.init) && (f.name.toList == g.name.toList)
end Imp
namespace Go.Proofs.YtbknhodjcgnfnaaDoor
open Go Go.RowKit Imp
set_option linter.unusedVariables false

theorem ssame_any (f g : FR) (w : World) : Calls Tryd.prog 69 #[vF f, vF g] w fun e w' => e = .returned (.bool (sameP f.1 g.1)) ∧ Gr w w' := by
  obtain ⟨⟨root, pkg, name, init, stamp, body⟩, bv⟩ := f
  obtain ⟨⟨root2, pkg2, name2, init2, stamp2, body2⟩, bv2⟩ := g
  obtain ⟨R, hR⟩ : ∃ R, R = (root == root2 && (pkg.toList == pkg2.toList) && (init == init2) && (name.toList == name2.toList)) := ⟨_, rfl⟩
  simp only [sameP]
  rw [← hR]
  have HR := Lib.hid hR
  clear hR
  go_enter Tryd.func69, Tryd.ntmps69
  go_wp2
  all_goals go_ret
  all_goals refine ⟨ret_bool ?_, by first | exact gr_al2 _ _ _ | exact Below.drew (gr_al2 _ _ _)⟩
  all_goals rw [HR.out]
  all_goals try simp [*]
theorem svalidFile_any {lo hi : Nat} (r : FR) (w : World) (hok : OkW w) (hb0 : BodyR w lo hi r) (hhi : hi ≤ w.heap.size) (hp : r.1.pkg.size ≤ 4194304) (hn : r.1.name.size ≤ 4194304) (hsm : ∀ s ∈ r.1.body, szSt s ≤ 16777216) :
    Calls Tryd.prog 30 #[vF r] w fun e w' => e = .returned (.bool (okFil r.1)) ∧ Gr w w' := by
  obtain ⟨⟨root, pkg, name, init, stamp, body⟩, bv⟩ := r
  simp only [BodyR] at hb0 hp hn hsm
  have hn2 : name.size ≤ maxLen := by unfold maxLen; omega
  have hbod := fun W (h : Gr w W) => svalidBody_any bv body W (SlR.below hb0 h hhi) (Nat.le_trans hhi h.size) hsm (hok.gr h)
  have hcs := child_size pkg name hp hn
  obtain ⟨R, hR⟩ : ∃ R, R = okFil ⟨root, pkg, name, init, stamp, body⟩ := ⟨_, rfl⟩
  rw [← hR]
  simp only [okFil] at hR
  generalize okBody body = BV at hR hbod
  have HR := Lib.hid hR
  have HB := Lib.hid hbod
  clear hR hbod hb0 hsm
  cases init <;> cases BV
  all_goals go_enter Tryd.func30, Tryd.ntmps30
  all_goals go_wp2_with (first
    | (go_at_call 42; refine (inRange_any _ _ _ _).mono ?_; rintro e w2 ⟨rfl, rfl⟩)
    | (go_at_call 54; refine (svalidPart_any _ _ hn2).mono ?_; rintro e w3 ⟨rfl, rfl⟩)
    | (go_at_call 53; refine (svalidPackage_any _ _ (by omega)).mono ?_; rintro e w1 ⟨rfl, hb⟩; have hs0 := hb.size; (try simp at hs0); have e0 := hb.cell (p := ⟨w.heap.size, 0, none⟩) (by simp <;> omega); have e1 := hb.cell (p := ⟨w.heap.size, 1, none⟩) (by simp <;> omega); have e2 := hb.cell (p := ⟨w.heap.size, 2, none⟩) (by simp <;> omega); have e3 := hb.cell (p := ⟨w.heap.size, 3, none⟩) (by simp <;> omega); have e4 := hb.cell (p := ⟨w.heap.size, 4, none⟩) (by simp <;> omega); have e5 := hb.cell (p := ⟨w.heap.size, 5, none⟩) (by simp <;> omega); first | (have hg := Gr.tr hg hb) | (have hg := Gr.tr (gr_al w _) hb))
    | (go_at_call 44; refine (HB.out _ (by first | exact hg | exact gr_al _ _)).mono ?_; rintro e w1 ⟨rfl, hb⟩; have hs0 := hb.size; (try simp at hs0); have e0 := hb.cell (p := ⟨w.heap.size, 0, none⟩) (by simp <;> omega); have e1 := hb.cell (p := ⟨w.heap.size, 1, none⟩) (by simp <;> omega); have e2 := hb.cell (p := ⟨w.heap.size, 2, none⟩) (by simp <;> omega); have e3 := hb.cell (p := ⟨w.heap.size, 3, none⟩) (by simp <;> omega); have e4 := hb.cell (p := ⟨w.heap.size, 4, none⟩) (by simp <;> omega); have e5 := hb.cell (p := ⟨w.heap.size, 5, none⟩) (by simp <;> omega); first | (have hg := Gr.tr hg hb) | (have hg := Gr.tr (gr_al w _) hb))
    | (go_at_call 55; refine (schild_any _ _ _ hp hn).mono ?_; rintro e w3 ⟨rfl, rfl⟩)
    | (go_at_call 43; refine (svalidName_any _ _ hcs).mono ?_; rintro e w1 ⟨rfl, hb⟩; have hs0 := hb.size; (try simp at hs0); have e0 := hb.cell (p := ⟨w.heap.size, 0, none⟩) (by simp <;> omega); have e1 := hb.cell (p := ⟨w.heap.size, 1, none⟩) (by simp <;> omega); have e2 := hb.cell (p := ⟨w.heap.size, 2, none⟩) (by simp <;> omega); have e3 := hb.cell (p := ⟨w.heap.size, 3, none⟩) (by simp <;> omega); have e4 := hb.cell (p := ⟨w.heap.size, 4, none⟩) (by simp <;> omega); have e5 := hb.cell (p := ⟨w.heap.size, 5, none⟩) (by simp <;> omega); first | (have hg := Gr.tr hg hb) | (have hg := Gr.tr (gr_al w _) hb)))
  all_goals go_ret
  all_goals refine ⟨ret_bool ?_, by first | assumption | exact gr_al _ _⟩
  all_goals rw [HR.out]
  all_goals try simp [*, bs_mk]
theorem child_some (p s : List UInt8) : (fChild p s).isEmpty = !(vPkg p && vPart s && vName (childP p s)) := by
  unfold fChild
  split
  · rename_i h
    rw [h]
    rw [Bool.and_eq_true] at h
    cases e : childP p s with
    | nil => rw [e] at h; exact absurd rfl (vName_ne h.2)
    | cons => rfl
  · rename_i h
    rw [(Bool.not_eq_true _).mp h]; rfl
set_option maxHeartbeats 1600000 in
theorem ifileOk_any {lo hi : Nat} (r : FR) (w : World) (hok : OkW w) (hb0 : BodyR w lo hi r) (hhi : hi ≤ w.heap.size) (hp : r.1.pkg.size ≤ 4194304) (hn : r.1.name.size ≤ 4194304) (hsm : ∀ s ∈ r.1.body, szSt s ≤ 16777216) :
    Calls Tryd.prog 28 #[vF r] w fun e w' => e = .returned (.bool (okFil r.1)) ∧ Gr w w' := by
  obtain ⟨⟨root, pkg, name, init, stamp, body⟩, bv⟩ := r
  simp only [BodyR] at hb0 hp hn hsm
  have hn2 : name.size ≤ maxLen := by unfold maxLen; omega
  have hbod := fun W (h : Gr w W) => iValidBody_any bv body W (SlR.below hb0 h hhi) (Nat.le_trans hhi h.size) hsm (hok.gr h)
  have hch := fun W (h : Gr w W) => iChildOf_any pkg name W hp hn (hok.gr h)
  obtain ⟨y, hy⟩ : ∃ y, y = mk (fChild (bs pkg) (bs name)) := ⟨_, rfl⟩
  rw [← hy] at hch
  have hye : y.toList.isEmpty = !(vPkg (bs pkg) && vPart (bs name) && vName (childP (bs pkg) (bs name))) := by rw [isEmpty_toList, hy, bs_mk, child_some]
  obtain ⟨R, hR⟩ : ∃ R, R = okFil ⟨root, pkg, name, init, stamp, body⟩ := ⟨_, rfl⟩
  rw [← hR]
  simp only [okFil] at hR
  generalize okBody body = BV at hR hbod
  generalize vName (childP (bs pkg) (bs name)) = CV at hR hye
  have HR := Lib.hid hR
  have HB := Lib.hid hbod
  have HC := Lib.hid hch
  clear hR hbod hb0 hsm hch hy
  cases init <;> cases BV <;> cases CV
  all_goals go_enter Tryd.func28, Tryd.ntmps28
  all_goals go_wp2_with (first
    | (go_at_call 16; refine (within_any _ _ _ _).mono ?_; rintro e w2 ⟨rfl, rfl⟩)
    | (go_at_call 38; refine (iValidPart_any _ _ hn2).mono ?_; rintro e w3 ⟨rfl, rfl⟩)
    | (go_at_call 52; refine (ipackageOk_any _ _ (by omega) (hok.al _)).mono ?_; rintro e w1 ⟨rfl, hb⟩; have hs0 := hb.size; (try simp at hs0); have e0 := hb.cell (p := ⟨w.heap.size, 0, none⟩) (by simp <;> omega); have e1 := hb.cell (p := ⟨w.heap.size, 1, none⟩) (by simp <;> omega); have e2 := hb.cell (p := ⟨w.heap.size, 2, none⟩) (by simp <;> omega); have e3 := hb.cell (p := ⟨w.heap.size, 3, none⟩) (by simp <;> omega); have e4 := hb.cell (p := ⟨w.heap.size, 4, none⟩) (by simp <;> omega); have e5 := hb.cell (p := ⟨w.heap.size, 5, none⟩) (by simp <;> omega); first | (have hg := Gr.tr hg hb) | (have hg := Gr.tr (gr_al w _) hb))
    | (go_at_call 19; refine (HB.out _ (by first | exact hg | exact gr_al _ _)).mono ?_; rintro e w1 ⟨rfl, hb⟩; have hs0 := hb.size; (try simp at hs0); have e0 := hb.cell (p := ⟨w.heap.size, 0, none⟩) (by simp <;> omega); have e1 := hb.cell (p := ⟨w.heap.size, 1, none⟩) (by simp <;> omega); have e2 := hb.cell (p := ⟨w.heap.size, 2, none⟩) (by simp <;> omega); have e3 := hb.cell (p := ⟨w.heap.size, 3, none⟩) (by simp <;> omega); have e4 := hb.cell (p := ⟨w.heap.size, 4, none⟩) (by simp <;> omega); have e5 := hb.cell (p := ⟨w.heap.size, 5, none⟩) (by simp <;> omega); first | (have hg := Gr.tr hg hb) | (have hg := Gr.tr (gr_al w _) hb))
    | (go_at_call 33; refine (HC.out _ (by first | exact hg | exact gr_al _ _)).mono ?_; rintro e w1 ⟨rfl, hb⟩; have hs0 := hb.size; (try simp at hs0); have e0 := hb.cell (p := ⟨w.heap.size, 0, none⟩) (by simp <;> omega); have e1 := hb.cell (p := ⟨w.heap.size, 1, none⟩) (by simp <;> omega); have e2 := hb.cell (p := ⟨w.heap.size, 2, none⟩) (by simp <;> omega); have e3 := hb.cell (p := ⟨w.heap.size, 3, none⟩) (by simp <;> omega); have e4 := hb.cell (p := ⟨w.heap.size, 4, none⟩) (by simp <;> omega); have e5 := hb.cell (p := ⟨w.heap.size, 5, none⟩) (by simp <;> omega); first | (have hg := Gr.tr hg hb) | (have hg := Gr.tr (gr_al w _) hb)))
  all_goals go_ret
  all_goals refine ⟨ret_bool ?_, by first | assumption | exact gr_al _ _⟩
  all_goals rw [HR.out]
  all_goals try simp [*]
end Go.Proofs.YtbknhodjcgnfnaaDoor

/-
  Walks: modules of files; the law that the two packages tell the same of them.
-/
namespace Imp
open Go
def nameP (f : Fil) : List UInt8 := if f.init then bs f.pkg else childP (bs f.pkg) (bs f.name)
def fMod (f : Fil) : List UInt8 := if okFil f then nameP f else []
theorem fMod_ok {f : Fil} (h : okFil f = true) : fMod f = nameP f := by unfold fMod; rw [if_pos h]
theorem fMod_bad {f : Fil} (h : okFil f = false) : fMod f = [] := by unfold fMod; rw [h]; rfl
theorem child_of_ok {f : Fil} (h : okFil f = true) (hi : f.init = false) : fChild (bs f.pkg) (bs f.name) = childP (bs f.pkg) (bs f.name) := by
  unfold okFil at h
  rw [hi] at h
  simp only [Bool.and_eq_true, Bool.false_eq_true, ↓reduceIte] at h
  unfold fChild
  rw [h.1.1.1.2, h.2.1, h.2.2]; rfl
end Imp
namespace Go.Proofs.YtbknhodjcgnfnaaDoor
open Go Go.RowKit Imp
set_option linter.unusedVariables false
set_option linter.unusedSimpArgs false

theorem smoduleName_any (r : FR) (w : World) (hp : r.1.pkg.size ≤ 4194304) (hn : r.1.name.size ≤ 4194304) :
    Calls Tryd.prog 31 #[vF r] w fun e w' => e = .returned (.string (mk (nameP r.1))) ∧ Gr w w' := by
  obtain ⟨⟨root, pkg, name, init, stamp, body⟩, bv⟩ := r
  simp only [nameP] at *
  cases init
  · go_enter Tryd.func31, Tryd.ntmps31
    go_wp2_with (go_at_call 55; refine (schild_any _ _ _ hp hn).mono ?_; rintro e w3 ⟨rfl, rfl⟩)
    go_ret
    exact ⟨rfl, gr_al _ _⟩
  · go_enter Tryd.func31, Tryd.ntmps31
    go_wp2
    go_ret
    exact ⟨ret_str (by simp), gr_al _ _⟩
theorem iModuleOf_any {lo hi : Nat} (r : FR) (w : World) (hok : OkW w) (hb : BodyR w lo hi r) (hhi : hi ≤ w.heap.size) (hp : r.1.pkg.size ≤ 4194304) (hn : r.1.name.size ≤ 4194304) (hsm : ∀ s ∈ r.1.body, szSt s ≤ 16777216) :
    Calls Tryd.prog 11 #[vF r] w fun e w' => e = .returned (.string (mk (fMod r.1))) ∧ Gr w w' := by
  obtain ⟨⟨root, pkg, name, init, stamp, body⟩, bv⟩ := r
  have hA := heap_alloc_new w (.cells #[.int .i64 root, .string pkg, .string name, .bool init, .int .i64 stamp, bv] 31)
  have h1 := fun o => ifileOk_any (⟨root, pkg, name, init, stamp, body⟩, bv) (w.alloc o) (hok.al o) (SlR.below hb (gr_al w o) hhi) (by simp; omega) hp hn hsm
  have h2 := fun W h => iChildOf_any pkg name W hp hn h
  have hch : okFil ⟨root, pkg, name, init, stamp, body⟩ = true → init = false → fChild (bs pkg) (bs name) = childP (bs pkg) (bs name) := fun h k => child_of_ok h k
  obtain ⟨F, hF⟩ : ∃ F, F = okFil ⟨root, pkg, name, init, stamp, body⟩ := ⟨_, rfl⟩
  simp only at h1 hp hn
  rw [← hF] at h1 hch
  have hmod : fMod ⟨root, pkg, name, init, stamp, body⟩ = if F then nameP ⟨root, pkg, name, init, stamp, body⟩ else [] := by unfold fMod; rw [hF]
  have H1 := Lib.hid h1
  have HM := Lib.hid hmod
  have HC := Lib.hid hch
  have H2 := Lib.hid h2
  clear h1 hmod hch h2 hF hb hsm
  obtain ⟨R, hR⟩ : ∃ R, R = mk (fMod ⟨root, pkg, name, init, stamp, body⟩) := ⟨_, rfl⟩
  simp only
  rw [← hR]
  have HR := Lib.hid hR
  clear hR
  cases F
  · go_enter Tryd.func11, Tryd.ntmps11
    go_wp2_with fail
    refine (H1.out _).mono ?_
    rintro e w1 ⟨rfl, hb1⟩
    go_wp2
    go_ret
    exact ⟨ret_str (by rw [HR.out, HM.out]; rfl), Gr.tr (gr_al _ _) hb1⟩
  · cases init
    · have h2 := H2.out
      rw [HC.out rfl rfl] at h2
      have hN : R = mk (childP (bs pkg) (bs name)) := by rw [HR.out, HM.out]; rfl
      rw [← hN] at h2
      have H3 := Lib.hid h2
      clear h2 hN
      go_enter Tryd.func11, Tryd.ntmps11
      go_wp2_with fail
      refine (H1.out _).mono ?_
      rintro e w1 ⟨rfl, hb1⟩
      obtain ⟨c0, c1, c2, c3, c4, c5⟩ := cells6 hA hb1
      have hok1 := (hok.al _).gr hb1
      go_wp2_with fail
      refine (H3.out _ hok1).mono ?_
      rintro e w2 ⟨rfl, hb2⟩
      go_wp2
      go_ret
      exact ⟨rfl, (Gr.tr (gr_al _ _) hb1).tr hb2⟩
    · have hN : pkg = R := by rw [HR.out, HM.out]; exact (mk_bs pkg).symm
      have HN := Lib.hid hN
      clear hN
      go_enter Tryd.func11, Tryd.ntmps11
      go_wp2_with fail
      refine (H1.out _).mono ?_
      rintro e w1 ⟨rfl, hb1⟩
      obtain ⟨c0, c1, c2, c3, c4, c5⟩ := cells6 hA hb1
      go_wp2
      go_ret
      exact ⟨ret_str HN.out, Gr.tr (gr_al _ _) hb1⟩
end Go.Proofs.YtbknhodjcgnfnaaDoor

/-
  Walks over files and trees: a tree's own copy.
-/
namespace Imp
open Go Go.RowKit
theorem row1 {w : World} {g T : Nat} {a0 : Value} (h : w.heap[g]? = some (.cells #[a0] T (0, 0))) : w.cell? ⟨g, 0, none⟩ = some a0 ∧ w.frozen? ⟨g, 0, none⟩ = false :=
  ⟨by rw [cell_of_row w g _ _ _ _ h]; rfl, by simp [World.frozen?, h]⟩
theorem heap_set1 {W : World} {g T : Nat} {a0 b0 : Value} (h : W.heap[g]? = some (.cells #[a0] T (0, 0))) : (W.setCell ⟨g, 0, none⟩ b0).heap[g]? = some (.cells #[b0] T (0, 0)) := by
  simp [World.setCell, Array.getElem?_modify, h]
theorem OwnT.keep {w w' : World} {base tF tS : Nat} {v : Value} {M : List FR} (h : OwnT w base tF tS v M) (hs : ∀ b, base ≤ b → b < w.heap.size → w'.heap[b]? = w.heap[b]?) : OwnT w' base tF tS v M :=
  ⟨h.1.keep (fun b hb => hs b (h.1.block b hb).1 (h.1.block b hb).2), fun r hr => (h.2.1 r hr).keep (fun b hb => hs b ((h.2.1 r hr).block b hb).1 ((h.2.1 r hr).block b hb).2), h.2.2.1, h.2.2.2⟩
end Imp
namespace Go.Proofs.YtbknhodjcgnfnaaDoor
open Go Go.RowKit Imp
set_option linter.unusedVariables false

end Go.Proofs.YtbknhodjcgnfnaaDoor

/-
  Walks over files and trees: where a file lies.
-/
namespace Go.Proofs.YtbknhodjcgnfnaaDoor
open Go Go.RowKit Imp
set_option linter.unusedVariables false

theorem ret_i {a b : Int} (h : a = b) : Ending.returned (.int .i64 a) = .returned (.int .i64 b) := by rw [h]
theorem sfileAt_any {lo hi : Nat} (v : Value) (L : List FR) (f : FR) (w : World) (hv0 : SlR w lo hi 6 eF v L) (hhi : hi ≤ w.heap.size) :
    Calls Tryd.prog 65 #[.agg #[v], vF f] w fun e w' => e = .returned (.int .i64 (ix (fun r : FR => sameP r.1 f.1) L)) ∧ Gr w w' := by
  obtain ⟨a, c, rfl, h1, h2, h3⟩ := hv0
  unfold maxLen at h2
  obtain ⟨R, hR⟩ : ∃ R, R = ix (fun r : FR => sameP r.1 f.1) L := ⟨_, rfl⟩
  rw [← hR]
  have HR := Lib.hid hR
  clear hR
  go_enter Tryd.func65, Tryd.ntmps65
  go_wp2
  go_loopw [5] (fun i wr => ∃ k : Nat, k ≤ L.length ∧ i = .int .i64 k ∧ (L.take k).any (fun r : FR => sameP r.1 f.1) = false ∧ Gr ((w.alloc (.cells #[.slice a L.length c] 39)).alloc (.cells #[.int .i64 f.1.root, .string f.1.pkg, .string f.1.name, .bool f.1.init, .int .i64 f.1.stamp, f.2] 31)) wr) (fun i _ => L.length - (intOf i).toNat)
  case atStart => exact ⟨0, Nat.zero_le _, rfl, by simp, Gr.rfl' _⟩
  case round =>
    obtain ⟨k, hk, rfl, hall, hgr⟩ := hrel
    have H := Lib.hid hall
    clear hall
    have hgs := hgr.size
    simp at hgs
    have t0 := hgr.cell (p := ⟨w.heap.size, 0, none⟩) (by simp <;> omega)
    have g0 := hgr.cell (p := ⟨w.heap.size + 1, 0, none⟩) (by simp <;> omega)
    have g1 := hgr.cell (p := ⟨w.heap.size + 1, 1, none⟩) (by simp <;> omega)
    have g2 := hgr.cell (p := ⟨w.heap.size + 1, 2, none⟩) (by simp <;> omega)
    have g3 := hgr.cell (p := ⟨w.heap.size + 1, 3, none⟩) (by simp <;> omega)
    have g4 := hgr.cell (p := ⟨w.heap.size + 1, 4, none⟩) (by simp <;> omega)
    have g5 := hgr.cell (p := ⟨w.heap.size + 1, 5, none⟩) (by simp <;> omega)
    have hgw : Gr w wr := Gr.tr (gr_al2 w _ _) hgr
    by_cases hlt : k < L.length
    · obtain ⟨b, o, rfl, hbb, hc⟩ := h3 k hlt
      obtain ⟨x, hx⟩ : ∃ x, x = L[k] := ⟨_, rfl⟩
      obtain ⟨c0, c1, c2, c3, c4, c5⟩ := cells_fil (w := wr) (b := b) (o := o) (k := k) (x := x) (fun j u hu => (hgw.cell (p := ⟨b, o + k * 6 + j, none⟩) (Nat.lt_of_lt_of_le hbb.2 hhi)).trans (hc j u (by rw [← hx]; exact hu)))
      have hsm := fun n => ssame_any x f (wr.drewN n)
      obtain ⟨S, hS⟩ : ∃ S, S = sameP x.1 f.1 := ⟨_, rfl⟩
      rw [← hS] at hsm
      have HS := Lib.hid hS
      have HSM := Lib.hid hsm
      have HX := Lib.hid hx
      clear hc h3 hx hS hsm
      cases S
      · go_wp2
        go_region_law (go_simp
                       go_at_call 69
                       refine (HSM.out 1).mono ?_
                       rintro e w2 ⟨rfl, hb2⟩)
        all_goals go_wp2
        all_goals go_roundw
        all_goals first
          | exact ⟨k + 1, by omega, by go_num, by rw [any_take_succ _ _ _ hlt, H.out, ← HX.out, ← HS.out]; rfl, Gr.tr (below_drewN hgr 1) hb2⟩
          | (simp [intOf]; omega)
      · go_wp2
        go_region_law (go_simp
                       go_at_call 69
                       refine (HSM.out 1).mono ?_
                       rintro e w2 ⟨rfl, hb2⟩)
        all_goals go_wp2
        all_goals go_ret
        all_goals exact ⟨ret_i (by rw [HR.out]; exact (ix_hit hlt H.out (by rw [← HX.out]; exact HS.out.symm)).symm), Gr.tr (below_drewN hgw 1) hb2⟩
    · go_wp2
      go_ret
      exact ⟨ret_i (by rw [HR.out]; exact (ix_none (by rw [← List.take_of_length_le (show L.length ≤ k by omega)]; exact H.out)).symm), hgw⟩
end Go.Proofs.YtbknhodjcgnfnaaDoor

/-
  Walks over files and trees: valid trees.
-/
namespace Imp
open Go Go.RowKit
theorem ixFrom_lt {α : Type} (p : α → Bool) : ∀ (L : List α) (n k : Nat), (L.take k).any p = true → ixFrom p L n < (n : Int) + k
  | [], n, k, h => by simp at h
  | x :: t, n, 0, h => by simp at h
  | x :: t, n, k + 1, h => by
    rw [List.take_succ_cons, List.any_cons, Bool.or_eq_true] at h
    rw [ixFrom]
    split
    · omega
    · rename_i hx
      rcases h with h | h
      · exact absurd h hx
      · have := ixFrom_lt p t (n + 1) k h
        omega
theorem ix_lt {α : Type} {p : α → Bool} {L : List α} {k : Nat} (hk : k < L.length) (hp : p L[k] = true) : decide (ix p L < (k : Int)) = (L.take k).any p := by
  cases h : (L.take k).any p
  · rw [ix_hit hk h hp]; simp
  · have := ixFrom_lt p L 0 k h
    exact decide_eq_true (by unfold ix; omega)
theorem sameP_refl (f : Fil) : sameP f f = true := by simp [sameP]
def goodAt (T : List Fil) (i : Nat) : Bool := match T[i]? with
  | some f => okFil f && !((T.take i).any (fun g => sameP g f))
  | none => true
def okTree (T : List Fil) : Bool := (List.range T.length).all (goodAt T) && decide ((T.length : Int) ≤ 12)
theorem goodAt_map {L : List FR} {k : Nat} (h : k < L.length) : goodAt (L.map (·.1)) k = (okFil L[k].1 && !((L.take k).any fun r : FR => sameP r.1 L[k].1)) := by
  unfold goodAt
  rw [List.getElem?_map, List.getElem?_eq_getElem h, ← List.map_take]
  simp only [Option.map_some, List.any_map]; rfl
theorem range_all_succ (f : Nat → Bool) (k : Nat) : (List.range (k + 1)).all f = ((List.range k).all f && f k) := by
  rw [List.range_succ, List.all_append]; simp
theorem range_all_bad {f : Nat → Bool} {n k : Nat} (h : k < n) (hf : f k = false) : (List.range n).all f = false := by
  rw [List.all_eq_false]; exact ⟨k, List.mem_range.2 h, by simp [hf]⟩
end Imp
namespace Go.Proofs.YtbknhodjcgnfnaaDoor
open Go Go.RowKit Imp
set_option linter.unusedVariables false
set_option linter.unusedSimpArgs false

def SmF (r : FR) : Prop := r.1.pkg.size ≤ 4194304 ∧ r.1.name.size ≤ 4194304 ∧ ∀ s ∈ r.1.body, szSt s ≤ 16777216
end Go.Proofs.YtbknhodjcgnfnaaDoor
