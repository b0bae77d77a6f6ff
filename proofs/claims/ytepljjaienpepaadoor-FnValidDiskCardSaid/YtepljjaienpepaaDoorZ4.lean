/-
  Walks: valid bodies, of both packages; the law on them.
-/
import Derived.Test.YtepljjaienpepaaDoorBodyBZ
import Derived.Laws.EntriesVeiled
import Derived.Test.YtepljjaienpepaaDoorZ3
import Derived.Deep.RegionHeld3
namespace Go.Proofs.YtepljjaienpepaaDoor
open Go Go.RowKit Imp
set_option linter.unusedVariables false

theorem okStm_one {kind : Int} {mod : ByteArray} {level : Int} {name : ByteArray} {value : Int} (k0 : (kind == 0) = false) (k1 : (kind == 1) = true) :
    okStm ⟨kind, mod, level, name, value⟩ = (vPkg (bs mod) && (decide (0 ≤ level) && decide (level ≤ 3)) && (!mod.toList.isEmpty || decide (0 < level)) && vPart (bs name) && (value == 0)) := by
  simp only [okStm, k0, k1, Bool.false_eq_true, ↓reduceIte]
theorem svalidStmt_any (s : Stm) (w : World) (hok : OkW w) (hm : s.mod.size ≤ 16777216) (hn : s.name.size ≤ 16777216) :
    Calls Tryd.prog 69 #[vSt s] w fun e w' => e = .returned (.bool (okStm s)) ∧ Gr w w' := by
  obtain ⟨kind, mod, level, name, value⟩ := s
  by_cases h0 : (kind == 0) = true
  · have k0 := h0
    have := sStmt0 kind mod level name value w hok hm hn k0
    simpa only [okStm, k0, Bool.false_eq_true, ↓reduceIte] using this
  · have k0 := (Bool.not_eq_true _).mp h0
    by_cases h1 : (kind == 1) = true
    · have k1 := h1
      have := sStmt1 kind mod level name value w hok hm hn k0 k1
      simpa only [okStm, k0, k1, Bool.false_eq_true, ↓reduceIte] using this
    · have k1 := (Bool.not_eq_true _).mp h1
      by_cases h2 : (kind == 2) = true
      · have k2 := h2
        have := sStmt2 kind mod level name value w hok hm hn k0 k1 k2
        simpa only [okStm, k0, k1, k2, Bool.false_eq_true, ↓reduceIte] using this
      · have k2 := (Bool.not_eq_true _).mp h2
        by_cases h3 : (kind == 3) = true
        · have k3 := h3
          have := sStmt3 kind mod level name value w hok hm hn k0 k1 k2 k3
          simpa only [okStm, k0, k1, k2, k3, Bool.false_eq_true, ↓reduceIte] using this
        · have k3 := (Bool.not_eq_true _).mp h3
          by_cases h4 : (kind == 4) = true
          · have k4 := h4
            have := sStmt4 kind mod level name value w hok hm hn k0 k1 k2 k3 k4
            simpa only [okStm, k0, k1, k2, k3, k4, Bool.false_eq_true, ↓reduceIte] using this
          · have k4 := (Bool.not_eq_true _).mp h4
            by_cases h5 : (kind == 5) = true
            · have k5 := h5
              have := sStmt5 kind mod level name value w hok hm hn k0 k1 k2 k3 k4 k5
              simpa only [okStm, k0, k1, k2, k3, k4, k5, Bool.false_eq_true, ↓reduceIte] using this
            · have k5 := (Bool.not_eq_true _).mp h5
              have e : okStm ⟨kind, mod, level, name, value⟩ = false := by simp only [okStm, k0, k1, k2, k3, k4, k5, Bool.false_eq_true, ↓reduceIte]
              rw [e]
              exact sStmtX kind mod level name value w hok hm hn k0 k1 k2 k3 k4 k5
theorem istmtOk_any (s : Stm) (w : World) (hok : OkW w) (hm : s.mod.size ≤ 16777216) (hn : s.name.size ≤ 16777216) :
    Calls Tryd.prog 60 #[vSt s] w fun e w' => e = .returned (.bool (okStm s)) ∧ Gr w w' := by
  obtain ⟨kind, mod, level, name, value⟩ := s
  by_cases h0 : (kind == 0) = true
  · have k0 := h0
    have := iStmt0 kind mod level name value w hok hm hn k0
    simpa only [okStm, k0, Bool.false_eq_true, ↓reduceIte] using this
  · have k0 := (Bool.not_eq_true _).mp h0
    by_cases h1 : (kind == 1) = true
    · have k1 := h1
      have := iStmt1 kind mod level name value w hok hm hn k0 k1
      rw [isEmpty_toList] at this
      rw [okStm_one k0 k1, vPkg, isEmpty_toList]
      exact this
    · have k1 := (Bool.not_eq_true _).mp h1
      by_cases h2 : (kind == 2) = true
      · have k2 := h2
        have := iStmt2 kind mod level name value w hok hm hn k0 k1 k2
        simpa only [okStm, k0, k1, k2, Bool.false_eq_true, ↓reduceIte] using this
      · have k2 := (Bool.not_eq_true _).mp h2
        by_cases h3 : (kind == 3) = true
        · have k3 := h3
          have := iStmt3 kind mod level name value w hok hm hn k0 k1 k2 k3
          simpa only [okStm, k0, k1, k2, k3, Bool.false_eq_true, ↓reduceIte] using this
        · have k3 := (Bool.not_eq_true _).mp h3
          by_cases h4 : (kind == 4) = true
          · have k4 := h4
            have := iStmt4 kind mod level name value w hok hm hn k0 k1 k2 k3 k4
            simpa only [okStm, k0, k1, k2, k3, k4, Bool.false_eq_true, ↓reduceIte] using this
          · have k4 := (Bool.not_eq_true _).mp h4
            by_cases h5 : (kind == 5) = true
            · have k5 := h5
              have := iStmt5 kind mod level name value w hok hm hn k0 k1 k2 k3 k4 k5
              simpa only [okStm, k0, k1, k2, k3, k4, k5, Bool.false_eq_true, ↓reduceIte] using this
            · have k5 := (Bool.not_eq_true _).mp h5
              have e : okStm ⟨kind, mod, level, name, value⟩ = false := by simp only [okStm, k0, k1, k2, k3, k4, k5, Bool.false_eq_true, ↓reduceIte]
              rw [e]
              exact iStmtX kind mod level name value w hok hm hn k0 k1 k2 k3 k4 k5
theorem svalidBody_any {lo hi : Nat} (v : Value) (L : List Stm) (w : World) (hv : SlR w lo hi 5 eSt v L) (hhi : hi ≤ w.heap.size) (hsm : ∀ s ∈ L, szSt s ≤ 16777216) (hok : OkW w) :
    Calls Tryd.prog 57 #[v] w fun e w' => e = .returned (.bool (okBody L)) ∧ Gr w w' := by
  obtain ⟨a, c, rfl, h1, h2, h3⟩ := hv
  unfold maxLen at h2
  obtain ⟨R, hR⟩ : ∃ R, R = okBody L := ⟨_, rfl⟩
  rw [← hR]
  have HR := Lib.hid hR
  have HM := Lib.hid hsm
  clear hsm hR
  go_enter Tryd.func57, Tryd.ntmps57
  go_wp2
  go_loopw [3] (fun i wr => ∃ k : Nat, k ≤ L.length ∧ i = .int .i64 k ∧ (L.take k).all okStm = true ∧ Gr w wr) (fun i _ => L.length - (intOf i).toNat)
  case atStart => exact ⟨0, Nat.zero_le _, rfl, by simp, Gr.rfl' _⟩
  case round =>
    obtain ⟨k, hk, rfl, hall, hgr⟩ := hrel
    have H := Lib.hid hall
    have hokr := hok.gr hgr
    clear hall
    by_cases hlt : k < L.length
    · obtain ⟨b, o, rfl, hbb, hc⟩ := h3 k hlt
      obtain ⟨x, hx⟩ : ∃ x, x = L[k] := ⟨_, rfl⟩
      obtain ⟨c0, c1, c2, c3, c4⟩ := cells_stm (w := wr) (b := b) (o := o) (k := k) (x := x) (fun j u hu => (hgr.cell (p := ⟨b, o + k * 5 + j, none⟩) (Nat.lt_of_lt_of_le hbb.2 hhi)).trans (hc j u (by rw [← hx]; exact hu)))
      have hpl := HM.out L[k] (List.getElem_mem hlt)
      rw [← hx, szSt] at hpl
      have hat := all_take_succ okStm L k hlt
      rw [← hx] at hat
      have HX := Lib.hid hx
      have HA := Lib.hid hat
      have hst := svalidStmt_any x wr hokr (by omega) (by omega)
      clear hc h3 hat hx
      by_cases hv : okStm x = true
      · rw [hv] at hst
        go_wp2_with (go_at_call 69; refine hst.mono ?_; rintro e w2 ⟨rfl, hb2⟩)
        go_roundw
        case rel => exact ⟨k + 1, by omega, by go_num, by rw [HA.out, H.out, hv]; rfl, hgr.tr hb2⟩
        case measure => simp [intOf]; omega
      · have hv' : okStm x = false := (Bool.not_eq_true _).mp hv
        rw [hv'] at hst
        go_wp2_with (go_at_call 69; refine hst.mono ?_; rintro e w2 ⟨rfl, hb2⟩)
        go_ret
        exact ⟨ret_bool (by rw [HR.out, okBody, all_false_at _ _ k hlt (by rw [← HX.out]; exact hv')]; rfl), hgr.tr hb2⟩
    · have hall : L.all okStm = true := by rw [← List.take_of_length_le (show L.length ≤ k by omega)]; exact H.out
      have hfin : R = decide ((L.length : Int) ≤ 8) := by rw [HR.out, okBody, hall, Bool.true_and]
      have HF := Lib.hid hfin
      clear hall hfin
      go_wp2
      go_ret
      exact ⟨ret_bool (by rw [HF.out]), hgr⟩
theorem iValidBody_any {lo hi : Nat} (v : Value) (L : List Stm) (w : World) (hv : SlR w lo hi 5 eSt v L) (hhi : hi ≤ w.heap.size) (hsm : ∀ s ∈ L, szSt s ≤ 16777216) (hok : OkW w) :
    Calls Tryd.prog 49 #[v] w fun e w' => e = .returned (.bool (okBody L)) ∧ Gr w w' := by
  obtain ⟨a, c, rfl, h1, h2, h3⟩ := hv
  unfold maxLen at h2
  obtain ⟨R, hR⟩ : ∃ R, R = okBody L := ⟨_, rfl⟩
  rw [← hR]
  have HR := Lib.hid hR
  have HM := Lib.hid hsm
  clear hsm hR
  go_enter Tryd.func49, Tryd.ntmps49
  go_wp2
  go_loopw [7] (fun i wr => ∃ k : Nat, k ≤ L.length ∧ i = .int .i64 k ∧ (L.take k).all okStm = true ∧ Gr w wr) (fun i _ => L.length - (intOf i).toNat)
  case atStart => exact ⟨0, Nat.zero_le _, rfl, by simp, Gr.rfl' _⟩
  case round =>
    obtain ⟨k, hk, rfl, hall, hgr⟩ := hrel
    have H := Lib.hid hall
    have hokr := hok.gr hgr
    clear hall
    by_cases hlt : k < L.length
    · obtain ⟨b, o, rfl, hbb, hc⟩ := h3 k hlt
      obtain ⟨x, hx⟩ : ∃ x, x = L[k] := ⟨_, rfl⟩
      obtain ⟨c0, c1, c2, c3, c4⟩ := cells_stm (w := wr) (b := b) (o := o) (k := k) (x := x) (fun j u hu => (hgr.cell (p := ⟨b, o + k * 5 + j, none⟩) (Nat.lt_of_lt_of_le hbb.2 hhi)).trans (hc j u (by rw [← hx]; exact hu)))
      have hpl := HM.out L[k] (List.getElem_mem hlt)
      rw [← hx, szSt] at hpl
      have hat := all_take_succ okStm L k hlt
      rw [← hx] at hat
      have HX := Lib.hid hx
      have HA := Lib.hid hat
      have hst := fun W h => istmtOk_any x W h (by omega) (by omega)
      have hgs := hgr.size
      clear hc h3 hat hx
      by_cases hv : okStm x = true
      · rw [hv] at hst
        go_wp2_with (go_at_call 60; refine (hst _ (hokr.al _)).mono ?_; rintro e w2 ⟨rfl, hb2⟩)
        go_roundw
        case rel => exact ⟨k + 1, by omega, by go_num, by rw [HA.out, H.out, hv]; rfl, Gr.tr (hgr.alloc hgs _) hb2⟩
        case measure => simp [intOf]; omega
      · have hv' : okStm x = false := (Bool.not_eq_true _).mp hv
        rw [hv'] at hst
        go_wp2_with (go_at_call 60; refine (hst _ (hokr.al _)).mono ?_; rintro e w2 ⟨rfl, hb2⟩)
        go_ret
        exact ⟨ret_bool (by rw [HR.out, okBody, all_false_at _ _ k hlt (by rw [← HX.out]; exact hv')]; rfl), Gr.tr (hgr.alloc hgs _) hb2⟩
    · have hall : L.all okStm = true := by rw [← List.take_of_length_le (show L.length ≤ k by omega)]; exact H.out
      have hfin : R = decide ((L.length : Int) ≤ 8) := by rw [HR.out, okBody, hall, Bool.true_and]
      have HF := Lib.hid hfin
      clear hall hfin
      go_wp2
      go_ret
      exact ⟨ret_bool (by rw [HF.out]), hgr⟩
end Go.Proofs.YtepljjaienpepaaDoor

/-
  Walks over files and trees: their size, copy, comparison.
-/
namespace Imp
open Go Go.RowKit
structure Fil where
  root : Int
  pkg : ByteArray
  name : ByteArray
  init : Bool
  stamp : Int
  body : List Stm
/-- A file and the slice value that its body is. -/
abbrev FR := Fil × Value
def eF (r : FR) : List Value := [.int .i64 r.1.root, .string r.1.pkg, .string r.1.name, .bool r.1.init, .int .i64 r.1.stamp, r.2]
abbrev vF (r : FR) : Value := .agg #[.int .i64 r.1.root, .string r.1.pkg, .string r.1.name, .bool r.1.init, .int .i64 r.1.stamp, r.2]
abbrev BodyR (w : World) (lo hi : Nat) (r : FR) : Prop := SlR w lo hi 5 eSt r.2 r.1.body
/-- A slice of files reads as the list, its bodies too. -/
def FlR (w : World) (lo hi : Nat) (v : Value) (L : List FR) : Prop := SlR w lo hi 6 eF v L ∧ ∀ r ∈ L, BodyR w lo hi r
def okF (f : Fil) : Prop := okI f.root ∧ f.pkg.size ≤ maxLen ∧ f.name.size ≤ maxLen ∧ okI f.stamp ∧ ∀ s ∈ f.body, okSt s
def szF (f : Fil) : Nat := f.pkg.size + f.name.size + (f.body.length + totB f.body)
def totF : List FR → Nat
  | [] => 0
  | s :: r => szF s.1 + totF r
theorem totF_snoc : ∀ (l : List FR) (s : FR), totF (l ++ [s]) = totF l + szF s.1
  | [], s => by simp [totF]
  | x :: l, s => by rw [List.cons_append, totF, totF_snoc l s, totF]; omega
theorem totF_take {l : List FR} {k : Nat} (h : k < l.length) : totF (l.take (k + 1)) = totF (l.take k) + szF l[k].1 := by
  rw [List.take_succ_eq_append_getElem h, totF_snoc]
theorem totF_mem : ∀ {l : List FR} {s : FR}, s ∈ l → szF s.1 ≤ totF l
  | x :: l, s, h => by
    rw [List.mem_cons] at h
    rw [totF]
    rcases h with rfl | h
    · omega
    · have := totF_mem h; omega
theorem cells_fil {w : World} {b o k : Nat} {x : FR} (h : ∀ j u, (eF x)[j]? = some u → w.cell? ⟨b, o + k * 6 + j, none⟩ = some u) :
    w.cell? ⟨b, o + k * 6, none⟩ = some (.int .i64 x.1.root) ∧ w.cell? ⟨b, o + k * 6 + 1, none⟩ = some (.string x.1.pkg) ∧ w.cell? ⟨b, o + k * 6 + 2, none⟩ = some (.string x.1.name) ∧
    w.cell? ⟨b, o + k * 6 + 3, none⟩ = some (.bool x.1.init) ∧ w.cell? ⟨b, o + k * 6 + 4, none⟩ = some (.int .i64 x.1.stamp) ∧ w.cell? ⟨b, o + k * 6 + 5, none⟩ = some x.2 :=
  ⟨h 0 _ rfl, h 1 _ rfl, h 2 _ rfl, h 3 _ rfl, h 4 _ rfl, h 5 _ rfl⟩
theorem FlR.below {w w' : World} {lo hi B : Nat} {v : Value} {L : List FR} (h : FlR w lo hi v L) (hb : Below B w w') (hB : hi ≤ B) : FlR w' lo hi v L :=
  ⟨h.1.below hb hB, fun r hr => SlR.below (h.2 r hr) hb hB⟩
end Imp
namespace Go.Proofs.YtepljjaienpepaaDoor
open Go Go.RowKit Imp
set_option linter.unusedVariables false

end Go.Proofs.YtepljjaienpepaaDoor

/-
  Walks over files and trees: copies that the call owns.
-/
namespace Imp
open Go Go.RowKit
/-- A row known by its index is a slice that the call owns: rows of any width. -/
theorem own_of_rows {α : Type} {enc : α → List Value} {w : World} {base e g n k : Nat} {L : List α} {f : Nat → Value} (h : w.rowIs g e (n * k) f) (hb : base ≤ g) (h2 : n ≤ maxLen) (hn : n = L.length) (hk0 : 0 < k) (hk : ∀ x ∈ L, (enc x).length = k)
    (hf : ∀ i (h : i < L.length) j u, (enc L[i])[j]? = some u → f (i * k + j) = u) : Own w base e k enc (.slice (some ⟨g, 0, none⟩) n n) L := by
  obtain ⟨cur, hg, hs, hc⟩ := h
  subst hn
  have hlen := flatMap_len (enc := enc) (k := k) L hk
  refine ⟨hlen, .inr ⟨g, L.length, cur, rfl, hb, hg, Nat.le_refl _, h2, hs, ?_⟩⟩
  apply List.ext_getElem
  · rw [List.length_take, hlen]; simp; omega
  · intro m hm1 hm2
    rw [hlen] at hm2
    have hi : m / k < L.length := by rw [Nat.div_lt_iff_lt_mul hk0]; exact hm2
    have hj : m % k < (enc L[m / k]).length := by rw [hk _ (List.getElem_mem hi)]; exact Nat.mod_lt _ hk0
    have hm : m = m / k * k + m % k := by rw [Nat.mul_comm]; exact (Nat.div_add_mod m k).symm
    have hx := flatMap_get (enc := enc) (k := k) hk hi (List.getElem?_eq_getElem hj)
    have hy := hf (m / k) hi (m % k) _ (List.getElem?_eq_getElem hj)
    rw [← hm] at hx hy
    have hz := hc m (by omega)
    rw [hy] at hz
    rw [List.getElem_take]
    obtain ⟨h', e'⟩ := Array.getElem?_eq_some_iff.1 hz
    obtain ⟨h'', e''⟩ := List.getElem?_eq_some_iff.1 hx
    rw [e'', ← e']; simp
theorem heap_set6 {W : World} {g T : Nat} {a0 a1 a2 a3 a4 a5 b0 b1 b2 b3 b4 b5 : Value} (h : W.heap[g]? = some (.cells #[a0, a1, a2, a3, a4, a5] T (0, 0))) :
    ((((((W.setCell ⟨g, 0, none⟩ b0).setCell ⟨g, 1, none⟩ b1).setCell ⟨g, 2, none⟩ b2).setCell ⟨g, 3, none⟩ b3).setCell ⟨g, 4, none⟩ b4).setCell ⟨g, 5, none⟩ b5).heap[g]? = some (.cells #[b0, b1, b2, b3, b4, b5] T (0, 0)) := by
  simp [World.setCell, Array.getElem?_modify, h]
theorem heap_alloc3_new (w : World) (A B C : Obj) : (((w.alloc A).alloc B).alloc C).heap[w.heap.size + 1 + 1]? = some C := by
  have := heap_alloc_new ((w.alloc A).alloc B) C
  simpa using this
theorem row6 {w : World} {g T : Nat} {a0 a1 a2 a3 a4 a5 : Value} (h : w.heap[g]? = some (.cells #[a0, a1, a2, a3, a4, a5] T (0, 0))) :
    (w.cell? ⟨g, 0, none⟩ = some a0 ∧ w.cell? ⟨g, 1, none⟩ = some a1 ∧ w.cell? ⟨g, 2, none⟩ = some a2 ∧ w.cell? ⟨g, 3, none⟩ = some a3 ∧ w.cell? ⟨g, 4, none⟩ = some a4 ∧ w.cell? ⟨g, 5, none⟩ = some a5) ∧
    (∀ j, w.frozen? ⟨g, j, none⟩ = false) := by
  refine ⟨⟨?_, ?_, ?_, ?_, ?_, ?_⟩, fun j => by simp [World.frozen?, h]⟩ <;> (rw [cell_of_row w g _ _ _ _ h]; rfl)
end Imp
namespace Go.Proofs.YtepljjaienpepaaDoor
open Go Go.RowKit Imp
set_option linter.unusedVariables false

end Go.Proofs.YtepljjaienpepaaDoor

/-
  Walks: the size and the hash of a body, of both packages.
-/
namespace Imp
open Go Go.RowKit
def mixP (n k : Int) : Int := (n * 131 + k + 1) % 1000003
def hOk (n : Int) : Prop := 0 ≤ n ∧ n < 1000003
theorem mixP_ok {n k : Int} (_ : hOk n) (_ : 0 ≤ k) : hOk (mixP n k) :=
  ⟨Int.emod_nonneg _ (by decide), Int.emod_lt_of_pos _ (by decide)⟩
def mixB (n : Int) (l : List UInt8) : Int := l.foldl (fun n c => mixP n (c.toNat : Int)) n
def mixT (n : Int) (l : List UInt8) : Int := mixP (mixB n l) 0
theorem mixB_take {n : Int} {l : List UInt8} {k : Nat} (h : k < l.length) : mixB n (l.take (k + 1)) = mixP (mixB n (l.take k)) (l[k].toNat : Int) := by
  unfold mixB
  rw [List.take_succ_eq_append_getElem h, List.foldl_append]; rfl
theorem mixB_ok : ∀ {l : List UInt8} {n : Int}, hOk n → hOk (mixB n l)
  | [], _, h => h
  | c :: l, n, h => mixB_ok (l := l) (n := mixP n (c.toNat : Int)) (mixP_ok h (by omega))
theorem mixT_ok {l : List UInt8} {n : Int} (h : hOk n) : hOk (mixT n l) := mixP_ok (mixB_ok h) (by omega)
def hashSt (n : Int) (s : Stm) : Int := mixT (mixT (mixP (mixP (mixP n s.kind) s.level) s.value) (bs s.mod)) (bs s.name)
def hashP (L : List Stm) : Int := L.foldl hashSt 1
def smSt (s : Stm) : Prop := (0 ≤ s.kind ∧ s.kind ≤ 1000) ∧ (0 ≤ s.level ∧ s.level ≤ 1000) ∧ (0 ≤ s.value ∧ s.value ≤ 1000)
theorem okStm_small {s : Stm} (h : okStm s = true) : smSt s := by
  unfold okStm at h
  unfold smSt
  split at h
  · rename_i hk; simp at h hk; omega
  · split at h
    · rename_i hk; simp at h hk; omega
    · split at h
      · rename_i hk; simp at h hk; omega
      · split at h
        · rename_i hk; simp at h hk; omega
        · split at h
          · rename_i hk; simp at h hk; omega
          · split at h
            · rename_i hk; simp at h hk; omega
            · cases h
theorem okBody_small {L : List Stm} (h : okBody L = true) : ∀ s ∈ L, smSt s := by
  unfold okBody at h
  rw [Bool.and_eq_true] at h
  exact fun s hs => okStm_small (List.all_eq_true.mp h.1 s hs)
theorem hashSt_ok {n : Int} {s : Stm} (h : hOk n) (hs : smSt s) : hOk (hashSt n s) :=
  mixT_ok (mixT_ok (mixP_ok (mixP_ok (mixP_ok h hs.1.1) hs.2.1.1) hs.2.2.1))
theorem hashP_go : ∀ {L : List Stm} {n : Int}, hOk n → (∀ s ∈ L, smSt s) → hOk (L.foldl hashSt n)
  | [], _, h, _ => h
  | s :: L, n, h, hs => hashP_go (L := L) (n := hashSt n s) (hashSt_ok h (hs s (List.mem_cons_self ..))) (fun x hx => hs x (List.mem_cons_of_mem _ hx))
theorem hashP_ok {L : List Stm} (hs : ∀ s ∈ L, smSt s) : hOk (hashP L) := hashP_go ⟨by decide, by decide⟩ hs
theorem hashP_take {L : List Stm} {k : Nat} (h : k < L.length) : hashP (L.take (k + 1)) = hashSt (hashP (L.take k)) L[k] := by
  unfold hashP
  rw [List.take_succ_eq_append_getElem h, List.foldl_append]; rfl
def fHash (L : List Stm) : Int := if okBody L then hashP L else -1
def fSize (L : List Stm) : Int := if okBody L then ((3 * L.length + totB L : Nat) : Int) else -1
theorem stm_cells {w : World} {b t : Nat} {x : Stm} (h : w.heap[b]? = some (.cells #[.int .i64 x.kind, .string x.mod, .int .i64 x.level, .string x.name, .int .i64 x.value] t (0, 0))) :
    w.cell? ⟨b, 0, none⟩ = some (.int .i64 x.kind) ∧ w.cell? ⟨b, 1, none⟩ = some (.string x.mod) ∧ w.cell? ⟨b, 2, none⟩ = some (.int .i64 x.level) ∧ w.cell? ⟨b, 3, none⟩ = some (.string x.name) ∧ w.cell? ⟨b, 4, none⟩ = some (.int .i64 x.value) :=
  ⟨by rw [cell_of_row w b 0 _ _ _ h]; rfl, by rw [cell_of_row w b 1 _ _ _ h]; rfl, by rw [cell_of_row w b 2 _ _ _ h]; rfl, by rw [cell_of_row w b 3 _ _ _ h]; rfl, by rw [cell_of_row w b 4 _ _ _ h]; rfl⟩
theorem keep_blk {w w' : World} {g b : Nat} {o : Obj} (h : w.heap[b]? = some o) (k : w.grownBy w' (some g)) (hne : b ≠ g) : w'.heap[b]? = some o :=
  (k.block b (lt_of_block h) (by intro e; injection e with e; exact hne e)).trans h
end Imp
namespace Go.Proofs.YtepljjaienpepaaDoor
open Go Go.RowKit Imp
set_option linter.unusedVariables false

end Go.Proofs.YtepljjaienpepaaDoor

/-
  Walks: the hash of a body by closures; the laws on sizes and hashes of given bodies.
-/
namespace Imp
open Go Go.RowKit
theorem grown_drew' {w wr : World} {b : Nat} (h : w.grownBy wr (some b)) : w.grownBy wr.drew (some b) := ⟨h.os, h.tape, h.output, h.size, h.block⟩
theorem grown_tr {a b c : World} {g : Option Nat} (h : a.grownBy b g) (k : b.grownBy c g) : a.grownBy c g :=
  ⟨k.os.trans h.os, k.tape.trans h.tape, k.output.trans h.output, Nat.le_trans h.size k.size, fun i hi hne => (k.block i (Nat.lt_of_lt_of_le hi h.size) hne).trans (h.block i hi hne)⟩
theorem grown_set (w : World) (b o : Nat) (v : Value) : w.grownBy (w.setCell ⟨b, o, none⟩ v) (some b) :=
  ⟨rfl, rfl, rfl, by simp [World.setCell], fun i _ hi => Below.heap_setCell w _ _ i (by intro e; subst e; exact hi rfl)⟩
end Imp
namespace Go.Proofs.YtepljjaienpepaaDoor
open Go Go.RowKit Imp
set_option linter.unusedVariables false

end Go.Proofs.YtepljjaienpepaaDoor

/-
  Walks: marks written into a body and read of it.
-/
namespace Imp
open Go Go.RowKit
theorem grown_gr {w w' : World} {g : Option Nat} (h : Below w.heap.size w w') : w.grownBy w' g := ⟨h.os, h.tape, h.output, h.size, fun i hi _ => h.block i hi⟩
theorem own_rowK {α : Type} {enc : α → List Value} {K : Nat} {w : World} {base t : Nat} {v : Value} {A B : List α} {x : α} (hK : ∀ y, (enc y).length = K) (h : Own w base t K enc v (A ++ x :: B)) :
    ∃ b c, v = .slice (some ⟨b, 0, none⟩) (A ++ x :: B).length c ∧ base ≤ b ∧ b < w.heap.size ∧ (A ++ x :: B).length ≤ c ∧
      (∀ j u, (enc x)[j]? = some u → w.cell? ⟨b, A.length * K + j, none⟩ = some u) ∧ ∀ j, w.frozen? ⟨b, j, none⟩ = false := by
  obtain ⟨h1, h2⟩ := h
  rcases h2 with ⟨_, e⟩ | ⟨g, cap, cur, e, hb, hh, h3, h4, h5, h6⟩
  · simp at e
  · refine ⟨g, cap, e, hb, lt_of_block hh, h3, fun j u hu => ?_, fun j => frozen_of_row w g j _ _ hh⟩
    have hj : j < K := by rw [← hK x]; exact (List.getElem?_eq_some_iff.1 hu).1
    have hlt : A.length * K + j < (A ++ x :: B).length * K := by
      rw [List.length_append, List.length_cons, Nat.add_mul, Nat.add_mul]; omega
    have hA : (A.flatMap enc).length = A.length * K := flatMap_len _ (fun _ _ => hK _)
    rw [cell_of_row w g _ _ _ _ hh, ← Array.getElem?_toList, ← List.getElem?_take_of_lt hlt, h6, List.flatMap_append, List.getElem?_append_right (by omega), hA,
      show A.length * K + j - A.length * K = j by omega, List.flatMap_cons, List.getElem?_append_left (by rw [hK]; exact hj)]
    exact hu
theorem own_setK {α : Type} {enc : α → List Value} {K : Nat} {w : World} {base t b j : Nat} {v u : Value} {A B : List α} {x x' : α} (hK : ∀ y, (enc y).length = K) (h : Own w base t K enc v (A ++ x :: B)) (hv : v.ownBlock = some b) (hj : j < K) (hx : enc x' = (enc x).set j u) :
    Own (w.setCell ⟨b, A.length * K + j, none⟩ u) base t K enc v (A ++ x' :: B) := by
  obtain ⟨h1, h2⟩ := h
  rcases h2 with ⟨_, e⟩ | ⟨g, cap, cur, e, hb, hh, h3, h4, h5, h6⟩
  · simp at e
  · subst e
    injection hv with hv
    subst hv
    have hlen : (A ++ x' :: B).length = (A ++ x :: B).length := by simp
    have hA : (A.flatMap enc).length = A.length * K := flatMap_len _ (fun _ _ => hK _)
    refine ⟨flatMap_len _ (fun _ _ => hK _), .inr ⟨g, cap, cur.setIfInBounds (A.length * K + j) u, by rw [hlen], hb, heap_setCell_same w g _ cur t u hh, by rw [hlen]; exact h3, h4, by simpa using h5, ?_⟩⟩
    have h6' : cur.toList.take ((A ++ x :: B).length * K) = (A ++ x :: B).flatMap enc := h6
    rw [hlen, Array.toList_setIfInBounds, List.take_set, h6', List.flatMap_append, List.flatMap_append, List.flatMap_cons, List.flatMap_cons, hx, List.set_append_right _ _ (by omega), hA,
      show A.length * K + j - A.length * K = j by omega, List.set_append_left _ _ (by rw [hK]; exact hj)]
def stmK (k : Nat) : Stm := ⟨(k : Nat), mText (k + 1), ((k + 2 : Nat) : Int), mText (k + 3), ((k + 4 : Nat) : Int)⟩
def marksB (k n : Nat) : List Stm := (List.range n).map fun i => stmK (k + 5 * i)
theorem marksB_succ (k n : Nat) : marksB k (n + 1) = marksB k n ++ [stmK (k + 5 * n)] := by simp [marksB, List.range_succ]
theorem marksB_length (k n : Nat) : (marksB k n).length = n := by simp [marksB]
theorem marksB_get (k n i : Nat) (h : i < (marksB k n).length) : (marksB k n)[i] = stmK (k + 5 * i) := by simp [marksB]
end Imp
namespace Go.Proofs.YtepljjaienpepaaDoor
open Go Go.RowKit Imp
set_option linter.unusedVariables false
set_option linter.unusedSimpArgs false
end Go.Proofs.YtepljjaienpepaaDoor

/-
  Walks over files and trees: whole copies that the call owns, each body in a block of its own.
-/
namespace Imp
open Go Go.RowKit
def filAt (M : List FR) (j : Nat) : Value := ((M[j / 6]?).bind fun r => (eF r)[j % 6]?).getD (.bool false)
theorem filAt_get {M : List FR} {k : Nat} (h : k < M.length) (r : Nat) {u : Value} (hu : (eF M[k])[r]? = some u) : filAt M (k * 6 + r) = u := by
  have hr : r < 6 := (List.getElem?_eq_some_iff.1 hu).1
  unfold filAt
  rw [show (k * 6 + r) / 6 = k by omega, show (k * 6 + r) % 6 = r by omega, List.getElem?_eq_getElem h]
  simp [hu]
theorem filAt_old {M : List FR} {x : FR} {j : Nat} (h : j < M.length * 6) : filAt (M ++ [x]) j = filAt M j := by
  unfold filAt
  rw [List.getElem?_append_left (by omega)]
theorem filAt_new {M : List FR} {x : FR} (r : Nat) {u : Value} (hu : (eF x)[r]? = some u) : filAt (M ++ [x]) (M.length * 6 + r) = u :=
  filAt_get (M := M ++ [x]) (k := M.length) (by simp) r (by simpa using hu)
theorem fil_row {M : List FR} {k j : Nat} {x : FR} (hk : M.length = k) (f : Nat → Value) :
    (if j = k * 6 + 5 then x.2 else if j = k * 6 + 4 then Value.int .i64 x.1.stamp else if j = k * 6 + 3 then Value.bool x.1.init else if j = k * 6 + 2 then Value.string x.1.name else if j = k * 6 + 1 then Value.string x.1.pkg else if j = k * 6 then Value.int .i64 x.1.root else if j < k * 6 then filAt M j else f j) =
    if j < (k + 1) * 6 then filAt (M ++ [x]) j else f j := by
  subst hk
  by_cases h5 : j = M.length * 6 + 5
  · subst h5; rw [if_pos rfl, if_pos (by omega), filAt_new 5 rfl]
  · rw [if_neg h5]
    by_cases h4 : j = M.length * 6 + 4
    · subst h4; rw [if_pos rfl, if_pos (by omega), filAt_new 4 rfl]
    · rw [if_neg h4]
      by_cases h3 : j = M.length * 6 + 3
      · subst h3; rw [if_pos rfl, if_pos (by omega), filAt_new 3 rfl]
      · rw [if_neg h3]
        by_cases h2 : j = M.length * 6 + 2
        · subst h2; rw [if_pos rfl, if_pos (by omega), filAt_new 2 rfl]
        · rw [if_neg h2]
          by_cases h1 : j = M.length * 6 + 1
          · subst h1; rw [if_pos rfl, if_pos (by omega), filAt_new 1 rfl]
          · rw [if_neg h1]
            by_cases h0 : j = M.length * 6
            · subst h0; rw [if_pos rfl, if_pos (by omega)]; exact (filAt_new 0 rfl).symm
            · rw [if_neg h0]
              by_cases h : j < M.length * 6
              · rw [if_pos h, if_pos (by omega), filAt_old h]
              · rw [if_neg h, if_neg (by omega)]
theorem heap_set6_other {W : World} {g b o0 o1 o2 o3 o4 o5 : Nat} {u0 u1 u2 u3 u4 u5 : Value} (h : b ≠ g) :
    ((((((W.setCell ⟨g, o0, none⟩ u0).setCell ⟨g, o1, none⟩ u1).setCell ⟨g, o2, none⟩ u2).setCell ⟨g, o3, none⟩ u3).setCell ⟨g, o4, none⟩ u4).setCell ⟨g, o5, none⟩ u5).heap[b]? = W.heap[b]? := by
  rw [Below.heap_setCell _ _ _ _ h, Below.heap_setCell _ _ _ _ h, Below.heap_setCell _ _ _ _ h, Below.heap_setCell _ _ _ _ h, Below.heap_setCell _ _ _ _ h, Below.heap_setCell _ _ _ _ h]
/-- No two of these files hold their bodies in one block. -/
def Apart (M : List FR) : Prop := M.Pairwise fun a b => ∀ i, a.2.ownBlock = some i → b.2.ownBlock ≠ some i
/-- A slice of files that the call owns, with all bodies; no two in one block. -/
def OwnT (w : World) (base tF tS : Nat) (v : Value) (M : List FR) : Prop :=
  Own w base tF 6 eF v M ∧ (∀ r ∈ M, Own w base tS 5 eSt r.2 r.1.body) ∧ Apart M ∧ ∀ r ∈ M, ∀ b, r.2.ownBlock = some b → v.ownBlock ≠ some b
theorem OwnT.reads {w : World} {base tF tS : Nat} {v : Value} {M : List FR} (h : OwnT w base tF tS v M) : FlR w base w.heap.size v M :=
  ⟨h.1.reads (fun _ _ => rfl), fun r hr => (h.2.1 r hr).reads (fun _ _ => rfl)⟩
end Imp
namespace Go.Proofs.YtepljjaienpepaaDoor
open Go Go.RowKit Imp
set_option linter.unusedVariables false

end Go.Proofs.YtepljjaienpepaaDoor

/-
  Words for memory: a slice of rows of which each holds a slice of its own, all of them made by the call; what a change of such rows leaves alone.
-/
namespace Imp
open Go Go.RowKit
def ApartN {α : Type} (M : List (α × Value)) : Prop := M.Pairwise fun a b => ∀ i, a.2.ownBlock = some i → b.2.ownBlock ≠ some i
def OwnN (w : World) (base tO K : Nat) {α β : Type} (enc : α × Value → List Value) (tI kI : Nat) (encI : β → List Value) (inner : α → List β) (v : Value) (M : List (α × Value)) : Prop :=
  Own w base tO K enc v M ∧ (∀ r ∈ M, Own w base tI kI encI r.2 (inner r.1)) ∧ ApartN M ∧ ∀ r ∈ M, ∀ b, r.2.ownBlock = some b → v.ownBlock ≠ some b
/-- The blocks of such rows. -/
def ownsN {α : Type} (v : Value) (M : List (α × Value)) (b : Nat) : Prop := v.ownBlock = some b ∨ ∃ r ∈ M, r.2.ownBlock = some b
/-- Grown, and changed in these blocks alone. -/
structure ChgN (p : Nat → Prop) (w w' : World) : Prop where
  os : w'.os = w.os
  tape : w'.tape = w.tape
  output : w'.output = w.output
  size : w.heap.size ≤ w'.heap.size
  block : ∀ b, b < w.heap.size → ¬ p b → w'.heap[b]? = w.heap[b]?
theorem ChgN.refl (p : Nat → Prop) (w : World) : ChgN p w w := ⟨rfl, rfl, rfl, Nat.le_refl _, fun _ _ _ => rfl⟩
theorem ChgN.trans {p : Nat → Prop} {a b c : World} (h : ChgN p a b) (k : ChgN p b c) : ChgN p a c :=
  ⟨k.os.trans h.os, k.tape.trans h.tape, k.output.trans h.output, Nat.le_trans h.size k.size, fun i hi hp => (k.block i (Nat.lt_of_lt_of_le hi h.size) hp).trans (h.block i hi hp)⟩
theorem ChgN.mono {p q : Nat → Prop} {a b : World} (h : ChgN p a b) (hpq : ∀ i, p i → q i) : ChgN q a b := ⟨h.os, h.tape, h.output, h.size, fun i hi hq => h.block i hi (fun hp => hq (hpq i hp))⟩
theorem ChgN.of_gr {p : Nat → Prop} {a b : World} (h : Below a.heap.size a b) : ChgN p a b := ⟨h.os, h.tape, h.output, h.size, fun i hi _ => h.block i hi⟩
theorem ChgN.of_grown {p : Nat → Prop} {a b : World} {g : Option Nat} (h : a.grownBy b g) (hp : ∀ i, g = some i → p i) : ChgN p a b :=
  ⟨h.os, h.tape, h.output, h.size, fun i hi hq => h.block i hi (fun e => hq (hp i e.symm))⟩
theorem ChgN.set {p : Nat → Prop} (w : World) (g o : Nat) (u : Value) (hp : p g) : ChgN p w (w.setCell ⟨g, o, none⟩ u) := ChgN.of_grown (grown_set w g o u) (fun i e => by injection e with e; subst e; exact hp)
/-- Where all these blocks are late ones, the early ones stay. -/
theorem Below.chg {B : Nat} {p : Nat → Prop} {a b c : World} (h : Below B a b) (k : ChgN p b c) (hB : B ≤ b.heap.size) (hp : ∀ i, p i → B ≤ i) : Below B a c := by
  have h' : Below B b c := ⟨k.os, k.tape, k.output, k.size, fun i hi => k.block i (by omega) (fun q => by have := hp i q; omega)⟩
  exact h.trans h'
theorem Own.chg {α : Type} {w w' : World} {base e k : Nat} {enc : α → List Value} {v : Value} {L : List α} {p : Nat → Prop} (h : Own w base e k enc v L) (hc : ChgN p w w') (hp : ∀ b, v.ownBlock = some b → ¬ p b) : Own w' base e k enc v L :=
  h.keep (fun b hb => hc.block b (h.block b hb).2 (hp b hb))
section
variable {w w' : World} {base tO K tI kI : Nat} {α β : Type} {enc : α × Value → List Value} {encI : β → List Value} {inner : α → List β} {v : Value} {M A B : List (α × Value)} {x x' : α × Value}
theorem OwnN.chg {p : Nat → Prop} (h : OwnN w base tO K enc tI kI encI inner v M) (hc : ChgN p w w') (hp : ∀ b, ownsN v M b → ¬ p b) : OwnN w' base tO K enc tI kI encI inner v M :=
  ⟨h.1.chg hc (fun b hb => hp b (Or.inl hb)), fun r hr => (h.2.1 r hr).chg hc (fun b hb => hp b (Or.inr ⟨r, hr, hb⟩)), h.2.2.1, h.2.2.2⟩
theorem OwnN.block (h : OwnN w base tO K enc tI kI encI inner v M) : ∀ b, ownsN v M b → base ≤ b ∧ b < w.heap.size := by
  intro b hb
  rcases hb with hb | ⟨r, hr, hb⟩
  · exact h.1.block b hb
  · exact (h.2.1 r hr).block b hb
theorem OwnN.mono {base' : Nat} (h : OwnN w base tO K enc tI kI encI inner v M) (hb : base' ≤ base) : OwnN w base' tO K enc tI kI encI inner v M :=
  ⟨h.1.mono hb, fun r hr => (h.2.1 r hr).mono hb, h.2.2⟩
theorem OwnN.gr (h : OwnN w base tO K enc tI kI encI inner v M) (hg : Below w.heap.size w w') : OwnN w' base tO K enc tI kI encI inner v M :=
  h.chg (p := fun _ => False) (ChgN.of_gr hg) (fun _ _ h => h)
theorem OwnN.set {g j : Nat} {u : Value} (h : OwnN w base tO K enc tI kI encI inner v (A ++ x :: B)) (hK : ∀ y, (enc y).length = K) (hv : v.ownBlock = some g) (hj : j < K) (hx : enc x' = (enc x).set j u) (h2 : x'.2 = x.2) (hi : inner x'.1 = inner x.1) :
    OwnN (w.setCell ⟨g, A.length * K + j, none⟩ u) base tO K enc tI kI encI inner v (A ++ x' :: B) := by
  obtain ⟨h0, h1, h3, h4⟩ := h
  have hkeep : ∀ r ∈ A ++ x :: B, Own (w.setCell ⟨g, A.length * K + j, none⟩ u) base tI kI encI r.2 (inner r.1) := fun r hr =>
    (h1 r hr).keep (fun b hb => Below.heap_setCell w _ _ b (by intro e; have := h4 r hr b hb; rw [hv] at this; apply this; rw [e]))
  refine ⟨own_setK hK h0 hv hj hx, fun r hr => ?_, ?_, fun r hr b hb => ?_⟩
  · rw [List.mem_append, List.mem_cons] at hr
    rcases hr with hr | rfl | hr
    · exact hkeep r (by simp [hr])
    · have := hkeep x (by simp)
      rw [h2, hi]; exact this
    · exact hkeep r (by simp [hr])
  · unfold ApartN at h3 ⊢
    rw [List.pairwise_append, List.pairwise_cons] at h3 ⊢
    refine ⟨h3.1, ⟨fun a ha => ?_, h3.2.1.2⟩, fun a ha b hb => ?_⟩
    · rw [h2]; exact h3.2.1.1 a ha
    · rw [List.mem_cons] at hb
      rcases hb with rfl | hb
      · rw [h2]; exact h3.2.2 a ha x (by simp)
      · exact h3.2.2 a ha b (by simp [hb])
  · rw [List.mem_append, List.mem_cons] at hr
    rcases hr with hr | rfl | hr
    · exact h4 r (by simp [hr]) b hb
    · rw [h2] at hb; exact h4 x (by simp) b hb
    · exact h4 r (by simp [hr]) b hb
theorem OwnN.sub (h : OwnN w base tO K enc tI kI encI inner v (A ++ x :: B)) (hg : w.grownBy w' x.2.ownBlock) (ho : Own w' base tI kI encI x.2 (inner x'.1)) (h2 : x'.2 = x.2) (he : enc x' = enc x) :
    OwnN w' base tO K enc tI kI encI inner v (A ++ x' :: B) := by
  obtain ⟨h0, h1, h3, h4⟩ := h
  have hfl : (A ++ x' :: B).flatMap enc = (A ++ x :: B).flatMap enc := by simp [he]
  have hle : (A ++ x' :: B).length = (A ++ x :: B).length := by simp
  have h0' : Own w' base tO K enc v (A ++ x :: B) := h0.keep (fun b hb => hg.block b (h0.block b hb).2 (by intro e; exact h4 x (by simp) b e.symm hb))
  have h3' := h3
  unfold ApartN at h3'
  rw [List.pairwise_append, List.pairwise_cons] at h3'
  refine ⟨by unfold Own; rw [hfl, hle]; exact h0', fun r hr => ?_, ?_, fun r hr b hb => ?_⟩
  · rw [List.mem_append, List.mem_cons] at hr
    rcases hr with hr | rfl | hr
    · have hr1 := h1 r (by simp [hr])
      exact hr1.keep (fun b hb => hg.block b (hr1.block b hb).2 (by intro e; exact h3'.2.2 r hr x (by simp) b hb e.symm))
    · rw [h2]; exact ho
    · have hr1 := h1 r (by simp [hr])
      exact hr1.keep (fun b hb => hg.block b (hr1.block b hb).2 (by intro e; exact h3'.2.1.1 r hr b e.symm hb))
  · unfold ApartN
    rw [List.pairwise_append, List.pairwise_cons]
    refine ⟨h3'.1, ⟨fun a ha => ?_, h3'.2.1.2⟩, fun a ha b hb => ?_⟩
    · rw [h2]; exact h3'.2.1.1 a ha
    · rw [List.mem_cons] at hb
      rcases hb with rfl | hb
      · rw [h2]; exact h3'.2.2 a ha x (by simp)
      · exact h3'.2.2 a ha b (by simp [hb])
  · rw [List.mem_append, List.mem_cons] at hr
    rcases hr with hr | rfl | hr
    · exact h4 r (by simp [hr]) b hb
    · rw [h2] at hb; exact h4 x (by simp) b hb
    · exact h4 r (by simp [hr]) b hb
theorem OwnN.nil (v : Value) (h : Own w base tO K enc v []) : OwnN w base tO K enc tI kI encI inner v [] := ⟨h, by simp, List.Pairwise.nil, by simp⟩
end
theorem OwnN.of_T {w : World} {base tF tS : Nat} {v : Value} {M : List FR} (h : OwnT w base tF tS v M) : OwnN w base tF 6 eF tS 5 eSt Fil.body v M := h
theorem OwnN.to_T {w : World} {base tF tS : Nat} {v : Value} {M : List FR} (h : OwnN w base tF 6 eF tS 5 eSt Fil.body v M) : OwnT w base tF tS v M := h
end Imp

/-
  Walks over files and trees: valid files, files at one place. Printed by treed.py.
-/
namespace Imp
open Go Go.RowKit
def okFil (f : Fil) : Bool := (decide (0 ≤ f.root) && decide (f.root ≤ 2)) && vPkg (bs f.pkg) && (decide (0 ≤ f.stamp) && decide (f.stamp ≤ 99)) && okBody f.body &&
  (if f.init then !f.pkg.toList.isEmpty && f.name.toList.isEmpty else vPart (bs f.name) && vName (childP (bs f.pkg) (bs f.name)))
def sameP (f g : Fil) : Bool := f.root == g.root && (f.pkg.toList == g.pkg.toList) && (f.init == g.init) && (f.name.toList == g.name.toList)
end Imp
namespace Go.Proofs.YtepljjaienpepaaDoor
open Go Go.RowKit Imp
set_option linter.unusedVariables false

theorem ssame_any (f g : FR) (w : World) : Calls Tryd.prog 59 #[vF f, vF g] w fun e w' => e = .returned (.bool (sameP f.1 g.1)) ∧ Gr w w' := by
  obtain ⟨⟨root, pkg, name, init, stamp, body⟩, bv⟩ := f
  obtain ⟨⟨root2, pkg2, name2, init2, stamp2, body2⟩, bv2⟩ := g
  obtain ⟨R, hR⟩ : ∃ R, R = (root == root2 && (pkg.toList == pkg2.toList) && (init == init2) && (name.toList == name2.toList)) := ⟨_, rfl⟩
  simp only [sameP]
  rw [← hR]
  have HR := Lib.hid hR
  clear hR
  go_enter Tryd.func59, Tryd.ntmps59
  go_wp2
  all_goals go_ret
  all_goals refine ⟨ret_bool ?_, by first | exact gr_al2 _ _ _ | exact Below.drew (gr_al2 _ _ _)⟩
  all_goals rw [HR.out]
  all_goals try simp [*]
theorem isame_any (f g : FR) (w : World) : Calls Tryd.prog 34 #[vF f, vF g] w fun e w' => e = .returned (.bool (sameP f.1 g.1)) ∧ Gr w w' := by
  obtain ⟨⟨root, pkg, name, init, stamp, body⟩, bv⟩ := f
  obtain ⟨⟨root2, pkg2, name2, init2, stamp2, body2⟩, bv2⟩ := g
  obtain ⟨R, hR⟩ : ∃ R, R = (root == root2 && (pkg.toList == pkg2.toList) && (init == init2) && (name.toList == name2.toList)) := ⟨_, rfl⟩
  simp only [sameP]
  rw [← hR]
  have HR := Lib.hid hR
  clear hR
  go_enter Tryd.func34, Tryd.ntmps34
  go_wp2
  all_goals go_ret
  all_goals refine ⟨ret_bool ?_, by first | exact gr_al2 _ _ _ | exact Below.drew (gr_al2 _ _ _)⟩
  all_goals rw [HR.out]
  all_goals try simp [*]
theorem svalidFile_any {lo hi : Nat} (r : FR) (w : World) (hok : OkW w) (hb0 : BodyR w lo hi r) (hhi : hi ≤ w.heap.size) (hp : r.1.pkg.size ≤ 4194304) (hn : r.1.name.size ≤ 4194304) (hsm : ∀ s ∈ r.1.body, szSt s ≤ 16777216) :
    Calls Tryd.prog 45 #[vF r] w fun e w' => e = .returned (.bool (okFil r.1)) ∧ Gr w w' := by
  obtain ⟨⟨root, pkg, name, init, stamp, body⟩, bv⟩ := r
  simp only [BodyR] at hb0 hp hn hsm
  have hn2 : name.size ≤ maxLen := by unfold maxLen; omega
  have hbod := fun W (h : Gr w W) => svalidBody_any bv body W (SlR.below hb0 h hhi) (Nat.le_trans hhi h.size) hsm (hok.gr h)
  have hcs := child_size pkg name hp hn
  obtain ⟨R, hR⟩ : ∃ R, R = okFil ⟨root, pkg, name, init, stamp, body⟩ := ⟨_, rfl⟩
  rw [← hR]
  simp only [okFil] at hR
  generalize okBody body = BV at hR hbod
  have HR := Lib.hid hR
  have HB := Lib.hid hbod
  clear hR hbod hb0 hsm
  cases init <;> cases BV
  all_goals go_enter Tryd.func45, Tryd.ntmps45
  all_goals go_wp2_with (first
    | (go_at_call 19; refine (inRange_any _ _ _ _).mono ?_; rintro e w2 ⟨rfl, rfl⟩)
    | (go_at_call 48; refine (svalidPart_any _ _ hn2).mono ?_; rintro e w3 ⟨rfl, rfl⟩)
    | (go_at_call 20; refine (svalidPackage_any _ _ (by omega)).mono ?_; rintro e w1 ⟨rfl, hb⟩; have hs0 := hb.size; (try simp at hs0); have e0 := hb.cell (p := ⟨w.heap.size, 0, none⟩) (by simp <;> omega); have e1 := hb.cell (p := ⟨w.heap.size, 1, none⟩) (by simp <;> omega); have e2 := hb.cell (p := ⟨w.heap.size, 2, none⟩) (by simp <;> omega); have e3 := hb.cell (p := ⟨w.heap.size, 3, none⟩) (by simp <;> omega); have e4 := hb.cell (p := ⟨w.heap.size, 4, none⟩) (by simp <;> omega); have e5 := hb.cell (p := ⟨w.heap.size, 5, none⟩) (by simp <;> omega); first | (have hg := Gr.tr hg hb) | (have hg := Gr.tr (gr_al w _) hb))
    | (go_at_call 57; refine (HB.out _ (by first | exact hg | exact gr_al _ _)).mono ?_; rintro e w1 ⟨rfl, hb⟩; have hs0 := hb.size; (try simp at hs0); have e0 := hb.cell (p := ⟨w.heap.size, 0, none⟩) (by simp <;> omega); have e1 := hb.cell (p := ⟨w.heap.size, 1, none⟩) (by simp <;> omega); have e2 := hb.cell (p := ⟨w.heap.size, 2, none⟩) (by simp <;> omega); have e3 := hb.cell (p := ⟨w.heap.size, 3, none⟩) (by simp <;> omega); have e4 := hb.cell (p := ⟨w.heap.size, 4, none⟩) (by simp <;> omega); have e5 := hb.cell (p := ⟨w.heap.size, 5, none⟩) (by simp <;> omega); first | (have hg := Gr.tr hg hb) | (have hg := Gr.tr (gr_al w _) hb))
    | (go_at_call 58; refine (schild_any _ _ _ hp hn).mono ?_; rintro e w3 ⟨rfl, rfl⟩)
    | (go_at_call 31; refine (svalidName_any _ _ hcs).mono ?_; rintro e w1 ⟨rfl, hb⟩; have hs0 := hb.size; (try simp at hs0); have e0 := hb.cell (p := ⟨w.heap.size, 0, none⟩) (by simp <;> omega); have e1 := hb.cell (p := ⟨w.heap.size, 1, none⟩) (by simp <;> omega); have e2 := hb.cell (p := ⟨w.heap.size, 2, none⟩) (by simp <;> omega); have e3 := hb.cell (p := ⟨w.heap.size, 3, none⟩) (by simp <;> omega); have e4 := hb.cell (p := ⟨w.heap.size, 4, none⟩) (by simp <;> omega); have e5 := hb.cell (p := ⟨w.heap.size, 5, none⟩) (by simp <;> omega); first | (have hg := Gr.tr hg hb) | (have hg := Gr.tr (gr_al w _) hb)))
  all_goals go_ret
  all_goals refine ⟨ret_bool ?_, by first | assumption | exact gr_al _ _⟩
  all_goals rw [HR.out]
  all_goals try simp [*, bs_mk]
theorem child_some (p s : List UInt8) : (fChild p s).isEmpty = !(vPkg p && vPart s && vName (childP p s)) := by
  unfold fChild
  split
  · rename_i h
    rw [h]
    rw [Bool.and_eq_true] at h
    cases e : childP p s with
    | nil => rw [e] at h; exact absurd rfl (vName_ne h.2)
    | cons => rfl
  · rename_i h
    rw [(Bool.not_eq_true _).mp h]; rfl
set_option maxHeartbeats 1600000 in
theorem ifileOk_any {lo hi : Nat} (r : FR) (w : World) (hok : OkW w) (hb0 : BodyR w lo hi r) (hhi : hi ≤ w.heap.size) (hp : r.1.pkg.size ≤ 4194304) (hn : r.1.name.size ≤ 4194304) (hsm : ∀ s ∈ r.1.body, szSt s ≤ 16777216) :
    Calls Tryd.prog 33 #[vF r] w fun e w' => e = .returned (.bool (okFil r.1)) ∧ Gr w w' := by
  obtain ⟨⟨root, pkg, name, init, stamp, body⟩, bv⟩ := r
  simp only [BodyR] at hb0 hp hn hsm
  have hn2 : name.size ≤ maxLen := by unfold maxLen; omega
  have hbod := fun W (h : Gr w W) => iValidBody_any bv body W (SlR.below hb0 h hhi) (Nat.le_trans hhi h.size) hsm (hok.gr h)
  have hch := fun W (h : Gr w W) => iChildOf_any pkg name W hp hn (hok.gr h)
  obtain ⟨y, hy⟩ : ∃ y, y = mk (fChild (bs pkg) (bs name)) := ⟨_, rfl⟩
  rw [← hy] at hch
  have hye : y.toList.isEmpty = !(vPkg (bs pkg) && vPart (bs name) && vName (childP (bs pkg) (bs name))) := by rw [isEmpty_toList, hy, bs_mk, child_some]
  obtain ⟨R, hR⟩ : ∃ R, R = okFil ⟨root, pkg, name, init, stamp, body⟩ := ⟨_, rfl⟩
  rw [← hR]
  simp only [okFil] at hR
  generalize okBody body = BV at hR hbod
  generalize vName (childP (bs pkg) (bs name)) = CV at hR hye
  have HR := Lib.hid hR
  have HB := Lib.hid hbod
  have HC := Lib.hid hch
  clear hR hbod hb0 hsm hch hy
  cases init <;> cases BV <;> cases CV
  all_goals go_enter Tryd.func33, Tryd.ntmps33
  all_goals go_wp2_with (first
    | (go_at_call 15; refine (within_any _ _ _ _).mono ?_; rintro e w2 ⟨rfl, rfl⟩)
    | (go_at_call 42; refine (iValidPart_any _ _ hn2).mono ?_; rintro e w3 ⟨rfl, rfl⟩)
    | (go_at_call 16; refine (ipackageOk_any _ _ (by omega) (hok.al _)).mono ?_; rintro e w1 ⟨rfl, hb⟩; have hs0 := hb.size; (try simp at hs0); have e0 := hb.cell (p := ⟨w.heap.size, 0, none⟩) (by simp <;> omega); have e1 := hb.cell (p := ⟨w.heap.size, 1, none⟩) (by simp <;> omega); have e2 := hb.cell (p := ⟨w.heap.size, 2, none⟩) (by simp <;> omega); have e3 := hb.cell (p := ⟨w.heap.size, 3, none⟩) (by simp <;> omega); have e4 := hb.cell (p := ⟨w.heap.size, 4, none⟩) (by simp <;> omega); have e5 := hb.cell (p := ⟨w.heap.size, 5, none⟩) (by simp <;> omega); first | (have hg := Gr.tr hg hb) | (have hg := Gr.tr (gr_al w _) hb))
    | (go_at_call 49; refine (HB.out _ (by first | exact hg | exact gr_al _ _)).mono ?_; rintro e w1 ⟨rfl, hb⟩; have hs0 := hb.size; (try simp at hs0); have e0 := hb.cell (p := ⟨w.heap.size, 0, none⟩) (by simp <;> omega); have e1 := hb.cell (p := ⟨w.heap.size, 1, none⟩) (by simp <;> omega); have e2 := hb.cell (p := ⟨w.heap.size, 2, none⟩) (by simp <;> omega); have e3 := hb.cell (p := ⟨w.heap.size, 3, none⟩) (by simp <;> omega); have e4 := hb.cell (p := ⟨w.heap.size, 4, none⟩) (by simp <;> omega); have e5 := hb.cell (p := ⟨w.heap.size, 5, none⟩) (by simp <;> omega); first | (have hg := Gr.tr hg hb) | (have hg := Gr.tr (gr_al w _) hb))
    | (go_at_call 50; refine (HC.out _ (by first | exact hg | exact gr_al _ _)).mono ?_; rintro e w1 ⟨rfl, hb⟩; have hs0 := hb.size; (try simp at hs0); have e0 := hb.cell (p := ⟨w.heap.size, 0, none⟩) (by simp <;> omega); have e1 := hb.cell (p := ⟨w.heap.size, 1, none⟩) (by simp <;> omega); have e2 := hb.cell (p := ⟨w.heap.size, 2, none⟩) (by simp <;> omega); have e3 := hb.cell (p := ⟨w.heap.size, 3, none⟩) (by simp <;> omega); have e4 := hb.cell (p := ⟨w.heap.size, 4, none⟩) (by simp <;> omega); have e5 := hb.cell (p := ⟨w.heap.size, 5, none⟩) (by simp <;> omega); first | (have hg := Gr.tr hg hb) | (have hg := Gr.tr (gr_al w _) hb)))
  all_goals go_ret
  all_goals refine ⟨ret_bool ?_, by first | assumption | exact gr_al _ _⟩
  all_goals rw [HR.out]
  all_goals try simp [*]
end Go.Proofs.YtepljjaienpepaaDoor

/-
  Walks over files and trees: a tree's own copy.
-/
namespace Imp
open Go Go.RowKit
theorem row1 {w : World} {g T : Nat} {a0 : Value} (h : w.heap[g]? = some (.cells #[a0] T (0, 0))) : w.cell? ⟨g, 0, none⟩ = some a0 ∧ w.frozen? ⟨g, 0, none⟩ = false :=
  ⟨by rw [cell_of_row w g _ _ _ _ h]; rfl, by simp [World.frozen?, h]⟩
theorem heap_set1 {W : World} {g T : Nat} {a0 b0 : Value} (h : W.heap[g]? = some (.cells #[a0] T (0, 0))) : (W.setCell ⟨g, 0, none⟩ b0).heap[g]? = some (.cells #[b0] T (0, 0)) := by
  simp [World.setCell, Array.getElem?_modify, h]
theorem OwnT.keep {w w' : World} {base tF tS : Nat} {v : Value} {M : List FR} (h : OwnT w base tF tS v M) (hs : ∀ b, base ≤ b → b < w.heap.size → w'.heap[b]? = w.heap[b]?) : OwnT w' base tF tS v M :=
  ⟨h.1.keep (fun b hb => hs b (h.1.block b hb).1 (h.1.block b hb).2), fun r hr => (h.2.1 r hr).keep (fun b hb => hs b ((h.2.1 r hr).block b hb).1 ((h.2.1 r hr).block b hb).2), h.2.2.1, h.2.2.2⟩
end Imp
namespace Go.Proofs.YtepljjaienpepaaDoor
open Go Go.RowKit Imp
set_option linter.unusedVariables false

end Go.Proofs.YtepljjaienpepaaDoor

/-
  Walks: sizes, copies, comparisons of directories and finders. Printed by dirs.py.
-/
namespace Imp
open Go Go.RowKit
structure Dr where
  root : Int
  pkg : ByteArray
  stamp : Int
  names : List ByteArray
abbrev DR := Dr × Value
def eDr (r : DR) : List Value := [.int .i64 r.1.root, .string r.1.pkg, .int .i64 r.1.stamp, r.2]
abbrev vD (r : DR) : Value := .agg #[.int .i64 r.1.root, .string r.1.pkg, .int .i64 r.1.stamp, r.2]
abbrev NmR (w : World) (lo hi : Nat) (r : DR) : Prop := SlR w lo hi 1 eS r.2 r.1.names
def DsR (w : World) (lo hi : Nat) (v : Value) (L : List DR) : Prop := SlR w lo hi 4 eDr v L ∧ ∀ r ∈ L, NmR w lo hi r
theorem DsR.below {w w' : World} {lo hi B : Nat} {v : Value} {L : List DR} (h : DsR w lo hi v L) (hb : Below B w w') (hB : hi ≤ B) : DsR w' lo hi v L :=
  ⟨h.1.below hb hB, fun r hr => SlR.below (h.2 r hr) hb hB⟩
abbrev OwnD (w : World) (base tD tS : Nat) (v : Value) (M : List DR) : Prop := OwnN w base tD 4 eDr tS 1 eS Dr.names v M
theorem OwnD.reads {w : World} {base tD tS : Nat} {v : Value} {M : List DR} (h : OwnD w base tD tS v M) : DsR w base w.heap.size v M :=
  ⟨h.1.reads (fun _ _ => rfl), fun r hr => (h.2.1 r hr).reads (fun _ _ => rfl)⟩
/-- A finder: its directories, its fills, its hits. -/
abbrev vFd (u : Value) (fills hits : Int) : Value := .agg #[u, .int .i64 fills, .int .i64 hits]
def okD (d : Dr) : Prop := okI d.root ∧ d.pkg.size ≤ maxLen ∧ okI d.stamp ∧ ∀ s ∈ d.names, s.size ≤ maxLen
def szD (d : Dr) : Nat := d.pkg.size + (d.names.length + totS d.names)
def totD : List DR → Nat
  | [] => 0
  | s :: r => szD s.1 + totD r
theorem totD_snoc : ∀ (l : List DR) (s : DR), totD (l ++ [s]) = totD l + szD s.1
  | [], s => by simp [totD]
  | x :: l, s => by rw [List.cons_append, totD, totD_snoc l s, totD]; omega
theorem totD_take {l : List DR} {k : Nat} (h : k < l.length) : totD (l.take (k + 1)) = totD (l.take k) + szD l[k].1 := by
  rw [List.take_succ_eq_append_getElem h, totD_snoc]
theorem totD_mem : ∀ {l : List DR} {s : DR}, s ∈ l → szD s.1 ≤ totD l
  | x :: l, s, h => by
    rw [List.mem_cons] at h
    rw [totD]
    rcases h with rfl | h
    · omega
    · have := totD_mem h; omega
theorem cells_dir {w : World} {b o k : Nat} {x : DR} (h : ∀ j u, (eDr x)[j]? = some u → w.cell? ⟨b, o + k * 4 + j, none⟩ = some u) :
    w.cell? ⟨b, o + k * 4, none⟩ = some (.int .i64 x.1.root) ∧ w.cell? ⟨b, o + k * 4 + 1, none⟩ = some (.string x.1.pkg) ∧ w.cell? ⟨b, o + k * 4 + 2, none⟩ = some (.int .i64 x.1.stamp) ∧ w.cell? ⟨b, o + k * 4 + 3, none⟩ = some x.2 :=
  ⟨h 0 _ rfl, h 1 _ rfl, h 2 _ rfl, h 3 _ rfl⟩
def dirAt (M : List DR) (j : Nat) : Value := ((M[j / 4]?).bind fun r => (eDr r)[j % 4]?).getD (.bool false)
theorem dirAt_get {M : List DR} {k : Nat} (h : k < M.length) (r : Nat) {u : Value} (hu : (eDr M[k])[r]? = some u) : dirAt M (k * 4 + r) = u := by
  have hr : r < 4 := (List.getElem?_eq_some_iff.1 hu).1
  unfold dirAt
  rw [show (k * 4 + r) / 4 = k by omega, show (k * 4 + r) % 4 = r by omega, List.getElem?_eq_getElem h]
  simp [hu]
theorem dirAt_old {M : List DR} {x : DR} {j : Nat} (h : j < M.length * 4) : dirAt (M ++ [x]) j = dirAt M j := by
  unfold dirAt
  rw [List.getElem?_append_left (by omega)]
theorem dirAt_new {M : List DR} {x : DR} (r : Nat) {u : Value} (hu : (eDr x)[r]? = some u) : dirAt (M ++ [x]) (M.length * 4 + r) = u :=
  dirAt_get (M := M ++ [x]) (k := M.length) (by simp) r (by simpa using hu)
theorem dir_row {M : List DR} {k j : Nat} {x : DR} (hk : M.length = k) (f : Nat → Value) :
    (if j = k * 4 + 3 then x.2 else if j = k * 4 + 2 then Value.int .i64 x.1.stamp else if j = k * 4 + 1 then Value.string x.1.pkg else if j = k * 4 then Value.int .i64 x.1.root else if j < k * 4 then dirAt M j else f j) =
    if j < (k + 1) * 4 then dirAt (M ++ [x]) j else f j := by
  subst hk
  by_cases h3 : j = M.length * 4 + 3
  · subst h3; rw [if_pos rfl, if_pos (by omega), dirAt_new 3 rfl]
  · rw [if_neg h3]
    by_cases h2 : j = M.length * 4 + 2
    · subst h2; rw [if_pos rfl, if_pos (by omega), dirAt_new 2 rfl]
    · rw [if_neg h2]
      by_cases h1 : j = M.length * 4 + 1
      · subst h1; rw [if_pos rfl, if_pos (by omega), dirAt_new 1 rfl]
      · rw [if_neg h1]
        by_cases h0 : j = M.length * 4
        · subst h0; rw [if_pos rfl, if_pos (by omega)]; exact (dirAt_new 0 rfl).symm
        · rw [if_neg h0]
          by_cases h : j < M.length * 4
          · rw [if_pos h, if_pos (by omega), dirAt_old h]
          · rw [if_neg h, if_neg (by omega)]
theorem heap_set4_other {W : World} {g b o0 o1 o2 o3 : Nat} {u0 u1 u2 u3 : Value} (h : b ≠ g) :
    ((((W.setCell ⟨g, o0, none⟩ u0).setCell ⟨g, o1, none⟩ u1).setCell ⟨g, o2, none⟩ u2).setCell ⟨g, o3, none⟩ u3).heap[b]? = W.heap[b]? := by
  rw [Below.heap_setCell _ _ _ _ h, Below.heap_setCell _ _ _ _ h, Below.heap_setCell _ _ _ _ h, Below.heap_setCell _ _ _ _ h]
theorem put4 {w : World} {b t : Nat} {a0 a1 a2 a3 : Value} (h : w.heap[b]? = some (.cells #[a0, a1, a2, a3] t (0, 0))) (v0 v1 v2 v3 : Value) :
    ((((w.setCell ⟨b, 0, none⟩ v0).setCell ⟨b, 1, none⟩ v1).setCell ⟨b, 2, none⟩ v2).setCell ⟨b, 3, none⟩ v3).heap[b]? = some (.cells #[v0, v1, v2, v3] t (0, 0)) ∧ w.grownBy ((((w.setCell ⟨b, 0, none⟩ v0).setCell ⟨b, 1, none⟩ v1).setCell ⟨b, 2, none⟩ v2).setCell ⟨b, 3, none⟩ v3) (some b) := by
  refine ⟨heap_setCell_same _ b 3 _ _ v3 (heap_setCell_same _ b 2 _ _ v2 (heap_setCell_same _ b 1 _ _ v1 (heap_setCell_same _ b 0 _ _ v0 h))), ?_⟩
  exact grown_tr (grown_tr (grown_tr (grown_set _ _ _ _) (grown_set _ _ _ _)) (grown_set _ _ _ _)) (grown_set _ _ _ _)
theorem rows4 {w : World} {b t : Nat} {a0 a1 a2 a3 : Value} (h : w.heap[b]? = some (.cells #[a0, a1, a2, a3] t (0, 0))) :
    (w.cell? ⟨b, 0, none⟩ = some a0 ∧ w.cell? ⟨b, 1, none⟩ = some a1 ∧ w.cell? ⟨b, 2, none⟩ = some a2 ∧ w.cell? ⟨b, 3, none⟩ = some a3) ∧
    (w.frozen? ⟨b, 0, none⟩ = false ∧ w.frozen? ⟨b, 1, none⟩ = false ∧ w.frozen? ⟨b, 2, none⟩ = false ∧ w.frozen? ⟨b, 3, none⟩ = false) :=
  ⟨⟨by rw [cell_of_row w b 0 _ _ _ h]; rfl, by rw [cell_of_row w b 1 _ _ _ h]; rfl, by rw [cell_of_row w b 2 _ _ _ h]; rfl, by rw [cell_of_row w b 3 _ _ _ h]; rfl⟩,
   ⟨frozen_of_row w b 0 _ _ h, frozen_of_row w b 1 _ _ h, frozen_of_row w b 2 _ _ h, frozen_of_row w b 3 _ _ h⟩⟩
theorem put3 {w : World} {b t : Nat} {a0 a1 a2 : Value} (h : w.heap[b]? = some (.cells #[a0, a1, a2] t (0, 0))) (v0 v1 v2 : Value) :
    (((w.setCell ⟨b, 0, none⟩ v0).setCell ⟨b, 1, none⟩ v1).setCell ⟨b, 2, none⟩ v2).heap[b]? = some (.cells #[v0, v1, v2] t (0, 0)) ∧ w.grownBy (((w.setCell ⟨b, 0, none⟩ v0).setCell ⟨b, 1, none⟩ v1).setCell ⟨b, 2, none⟩ v2) (some b) := by
  refine ⟨heap_setCell_same _ b 2 _ _ v2 (heap_setCell_same _ b 1 _ _ v1 (heap_setCell_same _ b 0 _ _ v0 h)), ?_⟩
  exact grown_tr (grown_tr (grown_set _ _ _ _) (grown_set _ _ _ _)) (grown_set _ _ _ _)
theorem set_other3 {W : World} {b b' o0 o1 o2 : Nat} {v0 v1 v2 : Value} {ob : Obj} (h : W.heap[b]? = some ob) (hne : b ≠ b') : (((W.setCell ⟨b', o0, none⟩ v0).setCell ⟨b', o1, none⟩ v1).setCell ⟨b', o2, none⟩ v2).heap[b]? = some ob :=
  (Below.heap_setCell _ _ _ b hne).trans ((Below.heap_setCell _ _ _ b hne).trans ((Below.heap_setCell _ _ _ b hne).trans h))
theorem rows3 {w : World} {b t : Nat} {a0 a1 a2 : Value} (h : w.heap[b]? = some (.cells #[a0, a1, a2] t (0, 0))) :
    (w.cell? ⟨b, 0, none⟩ = some a0 ∧ w.cell? ⟨b, 1, none⟩ = some a1 ∧ w.cell? ⟨b, 2, none⟩ = some a2) ∧
    (w.frozen? ⟨b, 0, none⟩ = false ∧ w.frozen? ⟨b, 1, none⟩ = false ∧ w.frozen? ⟨b, 2, none⟩ = false) :=
  ⟨⟨by rw [cell_of_row w b 0 _ _ _ h]; rfl, by rw [cell_of_row w b 1 _ _ _ h]; rfl, by rw [cell_of_row w b 2 _ _ _ h]; rfl⟩,
   ⟨frozen_of_row w b 0 _ _ h, frozen_of_row w b 1 _ _ h, frozen_of_row w b 2 _ _ h⟩⟩
end Imp
namespace Go.Proofs.YtepljjaienpepaaDoor
open Go Go.RowKit Imp
set_option linter.unusedVariables false
set_option linter.unusedSimpArgs false
end Go.Proofs.YtepljjaienpepaaDoor

/-
  Walks over files and trees: where a file lies.
-/
namespace Go.Proofs.YtepljjaienpepaaDoor
open Go Go.RowKit Imp
set_option linter.unusedVariables false

theorem ret_i {a b : Int} (h : a = b) : Ending.returned (.int .i64 a) = .returned (.int .i64 b) := by rw [h]
theorem sfileAt_any {lo hi : Nat} (v : Value) (L : List FR) (f : FR) (w : World) (hv0 : SlR w lo hi 6 eF v L) (hhi : hi ≤ w.heap.size) :
    Calls Tryd.prog 46 #[.agg #[v], vF f] w fun e w' => e = .returned (.int .i64 (ix (fun r : FR => sameP r.1 f.1) L)) ∧ Gr w w' := by
  obtain ⟨a, c, rfl, h1, h2, h3⟩ := hv0
  unfold maxLen at h2
  obtain ⟨R, hR⟩ : ∃ R, R = ix (fun r : FR => sameP r.1 f.1) L := ⟨_, rfl⟩
  rw [← hR]
  have HR := Lib.hid hR
  clear hR
  go_enter Tryd.func46, Tryd.ntmps46
  go_wp2
  go_loopw [5] (fun i wr => ∃ k : Nat, k ≤ L.length ∧ i = .int .i64 k ∧ (L.take k).any (fun r : FR => sameP r.1 f.1) = false ∧ Gr ((w.alloc (.cells #[.slice a L.length c] 25)).alloc (.cells #[.int .i64 f.1.root, .string f.1.pkg, .string f.1.name, .bool f.1.init, .int .i64 f.1.stamp, f.2] 55)) wr) (fun i _ => L.length - (intOf i).toNat)
  case atStart => exact ⟨0, Nat.zero_le _, rfl, by simp, Gr.rfl' _⟩
  case round =>
    obtain ⟨k, hk, rfl, hall, hgr⟩ := hrel
    have H := Lib.hid hall
    clear hall
    have hgs := hgr.size
    simp at hgs
    have t0 := hgr.cell (p := ⟨w.heap.size, 0, none⟩) (by simp <;> omega)
    have g0 := hgr.cell (p := ⟨w.heap.size + 1, 0, none⟩) (by simp <;> omega)
    have g1 := hgr.cell (p := ⟨w.heap.size + 1, 1, none⟩) (by simp <;> omega)
    have g2 := hgr.cell (p := ⟨w.heap.size + 1, 2, none⟩) (by simp <;> omega)
    have g3 := hgr.cell (p := ⟨w.heap.size + 1, 3, none⟩) (by simp <;> omega)
    have g4 := hgr.cell (p := ⟨w.heap.size + 1, 4, none⟩) (by simp <;> omega)
    have g5 := hgr.cell (p := ⟨w.heap.size + 1, 5, none⟩) (by simp <;> omega)
    have hgw : Gr w wr := Gr.tr (gr_al2 w _ _) hgr
    by_cases hlt : k < L.length
    · obtain ⟨b, o, rfl, hbb, hc⟩ := h3 k hlt
      obtain ⟨x, hx⟩ : ∃ x, x = L[k] := ⟨_, rfl⟩
      obtain ⟨c0, c1, c2, c3, c4, c5⟩ := cells_fil (w := wr) (b := b) (o := o) (k := k) (x := x) (fun j u hu => (hgw.cell (p := ⟨b, o + k * 6 + j, none⟩) (Nat.lt_of_lt_of_le hbb.2 hhi)).trans (hc j u (by rw [← hx]; exact hu)))
      have hsm := fun n => ssame_any x f (wr.drewN n)
      obtain ⟨S, hS⟩ : ∃ S, S = sameP x.1 f.1 := ⟨_, rfl⟩
      rw [← hS] at hsm
      have HS := Lib.hid hS
      have HSM := Lib.hid hsm
      have HX := Lib.hid hx
      clear hc h3 hx hS hsm
      cases S
      · go_wp2
        go_region_law (go_simp
                       go_at_call 59
                       refine (HSM.out 1).mono ?_
                       rintro e w2 ⟨rfl, hb2⟩)
        all_goals go_wp2
        all_goals go_roundw
        all_goals first
          | exact ⟨k + 1, by omega, by go_num, by rw [any_take_succ _ _ _ hlt, H.out, ← HX.out, ← HS.out]; rfl, Gr.tr (below_drewN hgr 1) hb2⟩
          | (simp [intOf]; omega)
      · go_wp2
        go_region_law (go_simp
                       go_at_call 59
                       refine (HSM.out 1).mono ?_
                       rintro e w2 ⟨rfl, hb2⟩)
        all_goals go_wp2
        all_goals go_ret
        all_goals exact ⟨ret_i (by rw [HR.out]; exact (ix_hit hlt H.out (by rw [← HX.out]; exact HS.out.symm)).symm), Gr.tr (below_drewN hgw 1) hb2⟩
    · go_wp2
      go_ret
      exact ⟨ret_i (by rw [HR.out]; exact (ix_none (by rw [← List.take_of_length_le (show L.length ≤ k by omega)]; exact H.out)).symm), hgw⟩
end Go.Proofs.YtepljjaienpepaaDoor
