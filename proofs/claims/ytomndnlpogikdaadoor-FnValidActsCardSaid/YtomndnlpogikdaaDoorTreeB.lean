/-
  Walks over files and trees: copies that the call owns.
-/
import Derived.Test.YtomndnlpogikdaaDoorTree
namespace Imp
open Go Go.RowKit
/-- A row known by its index is a slice that the call owns: rows of any width. -/
theorem own_of_rows {α : Type} {enc : α → List Value} {w : World} {base e g n k : Nat} {L : List α} {f : Nat → Value} (h : w.rowIs g e (n * k) f) (hb : base ≤ g) (h2 : n ≤ maxLen) (hn : n = L.length) (hk0 : 0 < k) (hk : ∀ x ∈ L, (enc x).length = k)
    (hf : ∀ i (h : i < L.length) j u, (enc L[i])[j]? = some u → f (i * k + j) = u) : Own w base e k enc (.slice (some ⟨g, 0, none⟩) n n) L := by
  obtain ⟨cur, hg, hs, hc⟩ := h
  subst hn
  have hlen := flatMap_len (enc := enc) (k := k) L hk
  refine ⟨hlen, .inr ⟨g, L.length, cur, rfl, hb, hg, Nat.le_refl _, h2, hs, ?_⟩⟩
  apply List.ext_getElem
  · rw [List.length_take, hlen]; simp; omega
  · intro m hm1 hm2
    rw [hlen] at hm2
    have hi : m / k < L.length := by rw [Nat.div_lt_iff_lt_mul hk0]; exact hm2
    have hj : m % k < (enc L[m / k]).length := by rw [hk _ (List.getElem_mem hi)]; exact Nat.mod_lt _ hk0
    have hm : m = m / k * k + m % k := by rw [Nat.mul_comm]; exact (Nat.div_add_mod m k).symm
    have hx := flatMap_get (enc := enc) (k := k) hk hi (List.getElem?_eq_getElem hj)
    have hy := hf (m / k) hi (m % k) _ (List.getElem?_eq_getElem hj)
    rw [← hm] at hx hy
    have hz := hc m (by omega)
    rw [hy] at hz
    rw [List.getElem_take]
    obtain ⟨h', e'⟩ := Array.getElem?_eq_some_iff.1 hz
    obtain ⟨h'', e''⟩ := List.getElem?_eq_some_iff.1 hx
    rw [e'', ← e']; simp
theorem heap_set6 {W : World} {g T : Nat} {a0 a1 a2 a3 a4 a5 b0 b1 b2 b3 b4 b5 : Value} (h : W.heap[g]? = some (.cells #[a0, a1, a2, a3, a4, a5] T (0, 0))) :
    ((((((W.setCell ⟨g, 0, none⟩ b0).setCell ⟨g, 1, none⟩ b1).setCell ⟨g, 2, none⟩ b2).setCell ⟨g, 3, none⟩ b3).setCell ⟨g, 4, none⟩ b4).setCell ⟨g, 5, none⟩ b5).heap[g]? = some (.cells #[b0, b1, b2, b3, b4, b5] T (0, 0)) := by
  simp [World.setCell, Array.getElem?_modify, h]
theorem heap_alloc3_new (w : World) (A B C : Obj) : (((w.alloc A).alloc B).alloc C).heap[w.heap.size + 1 + 1]? = some C := by
  have := heap_alloc_new ((w.alloc A).alloc B) C
  simpa using this
theorem row6 {w : World} {g T : Nat} {a0 a1 a2 a3 a4 a5 : Value} (h : w.heap[g]? = some (.cells #[a0, a1, a2, a3, a4, a5] T (0, 0))) :
    (w.cell? ⟨g, 0, none⟩ = some a0 ∧ w.cell? ⟨g, 1, none⟩ = some a1 ∧ w.cell? ⟨g, 2, none⟩ = some a2 ∧ w.cell? ⟨g, 3, none⟩ = some a3 ∧ w.cell? ⟨g, 4, none⟩ = some a4 ∧ w.cell? ⟨g, 5, none⟩ = some a5) ∧
    (∀ j, w.frozen? ⟨g, j, none⟩ = false) := by
  refine ⟨⟨?_, ?_, ?_, ?_, ?_, ?_⟩, fun j => by simp [World.frozen?, h]⟩ <;> (rw [cell_of_row w g _ _ _ _ h]; rfl)
end Imp
namespace Go.Proofs.YtomndnlpogikdaaDoor
open Go Go.RowKit Imp
set_option linter.unusedVariables false

theorem toStmtS_own {lo hi : Nat} (v : Value) (L : List Stm) (w : World) (hv : SlR w lo hi 5 eSt v L) (hhi : hi ≤ w.heap.size) (hn : L.length ≤ 1048576) :
    Calls Tryd.prog 23 #[v] w fun e w' => ∃ u, e = .returned u ∧ Own w' w.heap.size 80 5 eSt u L ∧ Gr w w' := by
  have hv0 := hv
  obtain ⟨a, c, rfl, h1, h2, h3⟩ := hv
  unfold maxLen at h2
  have hmk := run_make_stm L.length hn w
  have hst : (w.alloc (.cells (madeCells zSt.cells (L.length * 5)) 80)).rowIs w.heap.size 80 (L.length * 5) (fun j => zSt.cells[j % 5]!) := by
    have := World.rowIs_alloc w (madeCells zSt.cells (L.length * 5)) 80 (fun j => zSt.cells[j % 5]!) (fun i hi => by rw [size_madeCells] at hi; simp [madeCells, hi, zSt, Value.cells])
    rw [size_madeCells] at this; exact this
  generalize (madeCells zSt.cells (L.length * 5)) = C at hmk hst
  have HST := Lib.hid hst
  clear hst
  go_enter Tryd.func23, Tryd.ntmps23
  go_wp2
  go_loopw [4] (fun i wr => ∃ k : Nat, k ≤ L.length ∧ i = .int .i64 k ∧ wr.rowIs w.heap.size 80 (L.length * 5) (fun j => if j < k * 5 then stmAt L j else zSt.cells[j % 5]!) ∧ Below w.heap.size w wr)
    (fun i _ => L.length - (intOf i).toNat)
  case atStart => exact ⟨0, Nat.zero_le _, rfl, HST.out.congr (fun j _ => by simp), (Below.refl _ _).alloc (Nat.le_refl _) _⟩
  case round =>
    obtain ⟨k, hk, rfl, hrow, hbel⟩ := hrel
    have HR := Lib.hid hrow
    clear hmk
    by_cases hlt : k < L.length
    · obtain ⟨b, o, rfl, hb, hc⟩ := h3 k hlt
      obtain ⟨x, hx⟩ : ∃ x, x = L[k] := ⟨_, rfl⟩
      obtain ⟨c0, c1, c2, c3, c4⟩ := cells_stm (w := wr) (b := b) (o := o) (k := k) (x := x) (fun j u hu => (hbel.cell (p := ⟨b, o + k * 5 + j, none⟩) (Nat.lt_of_lt_of_le hb.2 hhi)).trans (hc j u (by rw [← hx]; exact hu)))
      have HX := Lib.hid hx
      clear hc h3 hrow hx
      go_wp2_with (go_at_call 57
                   refine (toStmt_any x _).mono ?_
                   rintro e w2 ⟨rfl, hb2⟩
                   have r2 := HR.out.of_block (hb2.block w.heap.size HR.out.lt)
                   have e0 := r2.cell (i := k * 5) (by omega)
                   have e1 := r2.cell (i := k * 5 + 1) (by omega)
                   have e2 := r2.cell (i := k * 5 + 2) (by omega)
                   have e3 := r2.cell (i := k * 5 + 3) (by omega)
                   have e4 := r2.cell (i := k * 5 + 4) (by omega)
                   have f0 := r2.frozen (k * 5)
                   have f1 := r2.frozen (k * 5 + 1)
                   have f2 := r2.frozen (k * 5 + 2)
                   have f3 := r2.frozen (k * 5 + 3)
                   have f4 := r2.frozen (k * 5 + 4)
                   have R2 := Lib.hid r2
                   clear r2)
      go_roundw
      case rel =>
        have hg2 : Gr w w2 := Gr.tr hbel hb2
        exact ⟨k + 1, by omega, by go_num, (((((R2.out.set _ _).set _ _).set _ _).set _ _).set _ _).congr (fun j hj => stm_row hlt HX.out (fun j => zSt.cells[j % 5]!)), ((((hg2.setCell (Nat.le_refl _) _).setCell (Nat.le_refl _) _).setCell (Nat.le_refl _) _).setCell (Nat.le_refl _) _).setCell (Nat.le_refl _) _⟩
      case measure => simp [intOf]; omega
    · go_wp2
      go_ret
      have hkl : k = L.length := by omega
      subst hkl
      exact ⟨_, rfl, own_of_rows HR.out (Nat.le_refl _) (by unfold maxLen; omega) rfl (by decide) (fun _ _ => rfl) (fun i hi j u hu => by
        have hj : j < 5 := (List.getElem?_eq_some_iff.1 hu).1
        rw [if_pos (by omega), stmAt_get hi j hu]), hbel⟩
theorem toFile_own {lo hi : Nat} (r : FR) (w : World) (hb : BodyR w lo hi r) (hhi : hi ≤ w.heap.size) (hn : r.1.body.length ≤ 1048576) :
    Calls Tryd.prog 14 #[vF r] w fun e w' => ∃ u, e = .returned (vF (r.1, u)) ∧ Own w' (w.heap.size + 3) 80 5 eSt u r.1.body ∧ Gr w w' := by
  obtain ⟨⟨root, pkg, name, init, stamp, body⟩, bv⟩ := r
  simp only [BodyR] at hb hn
  have h := fun A B C => toStmtS_own bv body (((w.alloc A).alloc B).alloc C) (SlR.below hb (gr_alloc3 w A B C) hhi) (by simp; omega) hn
  have H := Lib.hid h
  clear h
  go_enter Tryd.func14, Tryd.ntmps14
  go_wp2_with fail
  refine (H.out _ _ _).mono ?_
  rintro e w2 ⟨u, rfl, ho, hb2⟩
  obtain ⟨ua, uc, rfl, _, _⟩ := ho.form
  have B1 := hb2.block (w.heap.size + 1) (by simp <;> omega)
  have B2 := hb2.block (w.heap.size + 1 + 1) (by simp <;> omega)
  rw [heap_alloc3_mid] at B1
  rw [heap_alloc3_new] at B2
  have hsz2 := hb2.size
  simp at hsz2
  obtain ⟨⟨x0, x1, x2, x3, x4, x5⟩, xf⟩ := row6 B1
  obtain ⟨⟨y0, y1, y2, y3, y4, y5⟩, yf⟩ := row6 B2
  have xf0 := xf 0
  have xf1 := xf 1
  have xf2 := xf 2
  have xf3 := xf 3
  have xf4 := xf 4
  have xf5 := xf 5
  have yf5 := yf 5
  have HB1 := Lib.hid B1
  have HB2 := Lib.hid B2
  clear B1 B2 xf yf
  go_wp2
  have hbase : Gr w w2 := Gr.tr (gr_alloc3 w _ _ _) hb2
  have B3 : (w2.setCell ⟨w.heap.size + 1 + 1, 5, none⟩ (.slice ua body.length uc)).heap[w.heap.size + 1]? = some _ := (Below.heap_setCell w2 _ _ _ (by show w.heap.size + 1 ≠ w.heap.size + 1 + 1; omega)).trans HB1.out
  refine bodyPost_ret (results_cell_row rfl _ _ (w.heap.size + 1) 38 _ (0, 0) _ rfl (heap_set6 B3) Tryd.underlying38 rfl (by kernel_rfl)) rfl ?_
  refine ⟨.slice ua body.length uc, rfl, ?_, ?_⟩
  · refine (ho.mono (by simp)).keep (fun b hb => ?_)
    have hbb := (ho.block b hb).1
    simp at hbb
    rw [Below.heap_setCell _ _ _ _ (by show b ≠ w.heap.size + 1; omega), Below.heap_setCell _ _ _ _ (by show b ≠ w.heap.size + 1; omega), Below.heap_setCell _ _ _ _ (by show b ≠ w.heap.size + 1; omega), Below.heap_setCell _ _ _ _ (by show b ≠ w.heap.size + 1; omega), Below.heap_setCell _ _ _ _ (by show b ≠ w.heap.size + 1; omega), Below.heap_setCell _ _ _ _ (by show b ≠ w.heap.size + 1; omega), Below.heap_setCell _ _ _ _ (by show b ≠ w.heap.size + 1 + 1; omega)]
  · exact ((((((hbase.setCell (by show w.heap.size ≤ w.heap.size + 1 + 1; omega) _).setCell (by show w.heap.size ≤ w.heap.size + 1; omega) _).setCell (by show w.heap.size ≤ w.heap.size + 1; omega) _).setCell (by show w.heap.size ≤ w.heap.size + 1; omega) _).setCell (by show w.heap.size ≤ w.heap.size + 1; omega) _).setCell (by show w.heap.size ≤ w.heap.size + 1; omega) _).setCell (by show w.heap.size ≤ w.heap.size + 1; omega) _
end Go.Proofs.YtomndnlpogikdaaDoor
