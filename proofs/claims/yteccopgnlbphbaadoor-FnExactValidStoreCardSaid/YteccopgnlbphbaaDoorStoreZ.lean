/-
  Walks: sizes, copies, comparisons of stores of what is compiled. Printed by storez.py.
-/
import Derived.Test.YteccopgnlbphbaaDoorStore
import Derived.Test.YteccopgnlbphbaaDoorTreeC
namespace Imp
open Go Go.RowKit
def okC (c : Cmp) : Prop := okI c.root ∧ c.mod.size ≤ maxLen ∧ okI c.mode ∧ okI c.stamp ∧ okI c.size ∧ okI c.hash ∧ ∀ s ∈ c.body, okSt s
def szC (c : Cmp) : Nat := c.mod.size + (c.body.length + totB c.body)
def totC : List CR → Nat
  | [] => 0
  | s :: r => szC s.1 + totC r
theorem totC_snoc : ∀ (l : List CR) (s : CR), totC (l ++ [s]) = totC l + szC s.1
  | [], s => by simp [totC]
  | x :: l, s => by rw [List.cons_append, totC, totC_snoc l s, totC]; omega
theorem totC_take {l : List CR} {k : Nat} (h : k < l.length) : totC (l.take (k + 1)) = totC (l.take k) + szC l[k].1 := by
  rw [List.take_succ_eq_append_getElem h, totC_snoc]
theorem totC_mem : ∀ {l : List CR} {s : CR}, s ∈ l → szC s.1 ≤ totC l
  | x :: l, s, h => by
    rw [List.mem_cons] at h
    rw [totC]
    rcases h with rfl | h
    · omega
    · have := totC_mem h; omega
def cmpAt (M : List CR) (j : Nat) : Value := ((M[j / 8]?).bind fun r => (eCp r)[j % 8]?).getD (.bool false)
theorem cmpAt_get {M : List CR} {k : Nat} (h : k < M.length) (r : Nat) {u : Value} (hu : (eCp M[k])[r]? = some u) : cmpAt M (k * 8 + r) = u := by
  have hr : r < 8 := (List.getElem?_eq_some_iff.1 hu).1
  unfold cmpAt
  rw [show (k * 8 + r) / 8 = k by omega, show (k * 8 + r) % 8 = r by omega, List.getElem?_eq_getElem h]
  simp [hu]
theorem cmpAt_old {M : List CR} {x : CR} {j : Nat} (h : j < M.length * 8) : cmpAt (M ++ [x]) j = cmpAt M j := by
  unfold cmpAt
  rw [List.getElem?_append_left (by omega)]
theorem cmpAt_new {M : List CR} {x : CR} (r : Nat) {u : Value} (hu : (eCp x)[r]? = some u) : cmpAt (M ++ [x]) (M.length * 8 + r) = u :=
  cmpAt_get (M := M ++ [x]) (k := M.length) (by simp) r (by simpa using hu)
theorem cmp_row {M : List CR} {k j : Nat} {x : CR} (hk : M.length = k) (f : Nat → Value) :
    (if j = k * 8 + 7 then x.2 else if j = k * 8 + 6 then Value.int .i64 x.1.hash else if j = k * 8 + 5 then Value.int .i64 x.1.size else if j = k * 8 + 4 then Value.int .i64 x.1.stamp else if j = k * 8 + 3 then Value.int .i64 x.1.mode else if j = k * 8 + 2 then Value.bool x.1.init else if j = k * 8 + 1 then Value.string x.1.mod else if j = k * 8 then Value.int .i64 x.1.root else if j < k * 8 then cmpAt M j else f j) =
    if j < (k + 1) * 8 then cmpAt (M ++ [x]) j else f j := by
  subst hk
  by_cases h7 : j = M.length * 8 + 7
  · subst h7; rw [if_pos rfl, if_pos (by omega), cmpAt_new 7 rfl]
  · rw [if_neg h7]
    by_cases h6 : j = M.length * 8 + 6
    · subst h6; rw [if_pos rfl, if_pos (by omega), cmpAt_new 6 rfl]
    · rw [if_neg h6]
      by_cases h5 : j = M.length * 8 + 5
      · subst h5; rw [if_pos rfl, if_pos (by omega), cmpAt_new 5 rfl]
      · rw [if_neg h5]
        by_cases h4 : j = M.length * 8 + 4
        · subst h4; rw [if_pos rfl, if_pos (by omega), cmpAt_new 4 rfl]
        · rw [if_neg h4]
          by_cases h3 : j = M.length * 8 + 3
          · subst h3; rw [if_pos rfl, if_pos (by omega), cmpAt_new 3 rfl]
          · rw [if_neg h3]
            by_cases h2 : j = M.length * 8 + 2
            · subst h2; rw [if_pos rfl, if_pos (by omega), cmpAt_new 2 rfl]
            · rw [if_neg h2]
              by_cases h1 : j = M.length * 8 + 1
              · subst h1; rw [if_pos rfl, if_pos (by omega), cmpAt_new 1 rfl]
              · rw [if_neg h1]
                by_cases h0 : j = M.length * 8
                · subst h0; rw [if_pos rfl, if_pos (by omega)]; exact (cmpAt_new 0 rfl).symm
                · rw [if_neg h0]
                  by_cases h : j < M.length * 8
                  · rw [if_pos h, if_pos (by omega), cmpAt_old h]
                  · rw [if_neg h, if_neg (by omega)]
theorem heap_set8_other {W : World} {g b o0 o1 o2 o3 o4 o5 o6 o7 : Nat} {u0 u1 u2 u3 u4 u5 u6 u7 : Value} (h : b ≠ g) :
    ((((((((W.setCell ⟨g, o0, none⟩ u0).setCell ⟨g, o1, none⟩ u1).setCell ⟨g, o2, none⟩ u2).setCell ⟨g, o3, none⟩ u3).setCell ⟨g, o4, none⟩ u4).setCell ⟨g, o5, none⟩ u5).setCell ⟨g, o6, none⟩ u6).setCell ⟨g, o7, none⟩ u7).heap[b]? = W.heap[b]? := by
  rw [Below.heap_setCell _ _ _ _ h, Below.heap_setCell _ _ _ _ h, Below.heap_setCell _ _ _ _ h, Below.heap_setCell _ _ _ _ h, Below.heap_setCell _ _ _ _ h, Below.heap_setCell _ _ _ _ h, Below.heap_setCell _ _ _ _ h, Below.heap_setCell _ _ _ _ h]
end Imp
namespace Go.Proofs.YteccopgnlbphbaaDoor
open Go Go.RowKit Imp
set_option linter.unusedVariables false
set_option linter.unusedSimpArgs false
theorem szCompiled_any {lo hi : Nat} (r : CR) (left : Int) (w : World) (hb : CmR w lo hi r) (hhi : hi ≤ w.heap.size) (hs : okC r.1) (h0 : 0 ≤ left) (h1 : left ≤ 1048576) :
    Calls Tryd.prog 22 #[vC r, .int .i64 left] w fun e w' => ∃ q : Int, e = .returned (.int .i64 q) ∧ (0 ≤ q → q + szC r.1 = left) ∧ q ≤ left ∧ Gr w w' := by
  obtain ⟨⟨root, mod, init, mode, stamp, size, hash, body⟩, bv⟩ := r
  obtain ⟨_, hm, _, _, _, _, hbs⟩ := hs
  simp only [szC, CmR] at *
  unfold maxLen at hm
  have hw1 : IntKind.i64.wrap (left - (mod.size : Int)) = left - (mod.size : Int) := IntWalk.i64_in _ (by omega)
  by_cases hneg : left - (mod.size : Int) < 0
  · go_enter Tryd.func22, Tryd.ntmps22
    go_wp2
    go_ret
    exact ⟨-1, rfl, by omega, by omega, gr_al _ _⟩
  · have hsz := fun o => szStmtS_any bv body (left - (mod.size : Int)) (w.alloc o) (SlR.below hb (gr_al w o) hhi) (by simp; omega) hbs (by omega) (by omega)
    have HSZ := Lib.hid hsz
    clear hsz
    go_enter Tryd.func22, Tryd.ntmps22
    go_wp2_with fail
    refine (HSZ.out _).mono ?_
    rintro e w2 ⟨r2, rfl, hr2, hrl2, hb2⟩
    by_cases hneg3 : r2 < 0
    · go_wp2
      go_ret
      exact ⟨-1, rfl, by omega, by omega, (gr_al _ _).tr hb2⟩
    · go_wp2
      go_ret
      exact ⟨r2, rfl, by omega, by omega, (gr_al _ _).tr hb2⟩
theorem szCompiledS_any {lo hi : Nat} (v : Value) (L : List CR) (left : Int) (w : World) (hv0 : StR w lo hi v L) (hhi : hi ≤ w.heap.size) (hs : ∀ s ∈ L, okC s.1) (h0 : 0 ≤ left) (h1 : left ≤ 1048576) :
    Calls Tryd.prog 16 #[v, .int .i64 left] w fun e w' => ∃ r : Int, e = .returned (.int .i64 r) ∧ (0 ≤ r → r + L.length + totC L = left) ∧ r ≤ left ∧ Gr w w' := by
  obtain ⟨hv, hbod⟩ := hv0
  obtain ⟨a, c, rfl, hc1, hc2, h3⟩ := hv
  unfold maxLen at hc2
  have hw1 : IntKind.i64.wrap (left - (L.length : Int)) = left - (L.length : Int) := IntWalk.i64_in _ (by omega)
  have HB := Lib.hid hbod
  clear hbod
  by_cases hneg : left - (L.length : Int) < 0
  · go_enter Tryd.func16, Tryd.ntmps16
    go_wp2
    go_ret
    exact ⟨-1, rfl, by omega, by omega, Gr.rfl' _⟩
  · go_enter Tryd.func16, Tryd.ntmps16
    go_wp2
    go_loopw [1, 5] (fun l i wr => ∃ k : Nat, ∃ r : Int, k ≤ L.length ∧ i = .int .i64 k ∧ l = .int .i64 r ∧ 0 ≤ r ∧ r + L.length + totC (L.take k) = left ∧ Gr w wr) (fun _ i _ => L.length - (intOf i).toNat)
    case atStart => exact ⟨0, _, Nat.zero_le _, rfl, rfl, by omega, by simp [totC], Gr.rfl' _⟩
    case round =>
      obtain ⟨k, r, hk, rfl, rfl, hr0, hr, hgr⟩ := hrel
      have HR := Lib.hid hr
      have hrl : r ≤ 1048576 := by omega
      clear hr
      by_cases hlt : k < L.length
      · obtain ⟨b, o, rfl, hbb, hc⟩ := h3 k hlt
        obtain ⟨x, hx⟩ : ∃ x, x = L[k] := ⟨_, rfl⟩
        obtain ⟨c0, c1, c2, c3, c4, c5, c6, c7⟩ := cells_cmp (w := wr) (b := b) (o := o) (k := k) (x := x) (fun j u hu => (hgr.cell (p := ⟨b, o + k * 8 + j, none⟩) (Nat.lt_of_lt_of_le hbb.2 hhi)).trans (hc j u (by rw [← hx]; exact hu)))
        have hxs := hs _ (List.getElem_mem hlt)
        rw [← hx] at hxs
        have hbx := HB.out _ (List.getElem_mem hlt)
        rw [← hx] at hbx
        have hgs := hgr.size
        have hsz := szCompiled_any x r wr (SlR.below hbx hgr hhi) (by omega) hxs hr0 (by omega)
        have ht := totC_take hlt
        rw [← hx] at ht
        have HT := Lib.hid ht
        have HSZ := Lib.hid hsz
        clear hc h3 hx ht hs hsz hbx hxs
        go_wp2_with fail
        refine HSZ.out.mono ?_
        rintro e w2 ⟨r2, rfl, hr2, hrl2, hb2⟩
        by_cases hneg2 : r2 < 0
        · go_wp2
          go_ret
          exact ⟨-1, rfl, by omega, by omega, hgr.tr hb2⟩
        · go_wp2
          go_roundw
          case rel => exact ⟨k + 1, r2, by omega, by go_num, rfl, by omega, by have := HR.out; have := hr2 (by omega); rw [HT.out]; omega, hgr.tr hb2⟩
          case measure => simp [intOf]; omega
      · go_wp2
        go_ret
        have := HR.out
        rw [List.take_of_length_le (by omega)] at this
        exact ⟨r, rfl, fun _ => this, by omega, hgr⟩
set_option maxHeartbeats 1600000 in
theorem toCompiled_own {lo hi : Nat} (r : CR) (w : World) (hb : CmR w lo hi r) (hhi : hi ≤ w.heap.size) (hn : r.1.body.length ≤ 1048576) :
    Calls Tryd.prog 25 #[vC r] w fun e w' => ∃ u, e = .returned (vC (r.1, u)) ∧ Own w' (w.heap.size + 3) 99 5 eSt u r.1.body ∧ Gr w w' := by
  obtain ⟨⟨root, mod, init, mode, stamp, size, hash, body⟩, bv⟩ := r
  simp only [CmR] at hb hn
  have h := fun A B C => toStmtS_own bv body (((w.alloc A).alloc B).alloc C) (SlR.below hb (gr_alloc3 w A B C) hhi) (by simp; omega) hn
  have H := Lib.hid h
  clear h
  go_enter Tryd.func25, Tryd.ntmps25
  go_wp2_with fail
  refine (H.out _ _ _).mono ?_
  rintro e w2 ⟨u, rfl, ho, hb2⟩
  obtain ⟨ua, uc, rfl, _, _⟩ := ho.form
  have B1 := hb2.block (w.heap.size + 1) (by simp <;> omega)
  have B2 := hb2.block (w.heap.size + 1 + 1) (by simp <;> omega)
  rw [heap_alloc3_mid] at B1
  rw [heap_alloc3_new] at B2
  have hsz2 := hb2.size
  simp at hsz2
  obtain ⟨⟨x0, x1, x2, x3, x4, x5, x6, x7⟩, xf0, xf1, xf2, xf3, xf4, xf5, xf6, xf7⟩ := rows8 B1
  obtain ⟨⟨y0, y1, y2, y3, y4, y5, y6, y7⟩, yf0, yf1, yf2, yf3, yf4, yf5, yf6, yf7⟩ := rows8 B2
  have HB1 := Lib.hid B1
  have HB2 := Lib.hid B2
  clear B1 B2
  go_wp2
  have hbase : Gr w w2 := Gr.tr (gr_alloc3 w _ _ _) hb2
  have B3 : (w2.setCell ⟨w.heap.size + 1 + 1, 7, none⟩ (.slice ua body.length uc)).heap[w.heap.size + 1]? = some _ := (Below.heap_setCell w2 _ _ _ (by show w.heap.size + 1 ≠ w.heap.size + 1 + 1; omega)).trans HB1.out
  have hput := put8 B3 (.int .i64 root) (.string mod) (.bool init) (.int .i64 mode) (.int .i64 stamp) (.int .i64 size) (.int .i64 hash) (.slice ua body.length uc)
  refine bodyPost_ret (results_cell_row rfl _ _ (w.heap.size + 1) 54 _ (0, 0) _ rfl hput.1 Tryd.underlying54 rfl (by kernel_rfl)) rfl ?_
  have hset : w2.grownBy (w2.setCell ⟨w.heap.size + 1 + 1, 7, none⟩ (.slice ua body.length uc)) (some (w.heap.size + 1 + 1)) := grown_set _ _ _ _
  refine ⟨.slice ua body.length uc, rfl, ?_, ?_⟩
  · refine (ho.mono (by simp)).keep (fun b hb => ?_)
    have hbb := ho.block b hb
    simp at hbb
    exact (hput.2.block b (by simp [World.setCell]; omega) (by intro q; injection q with q; omega)).trans (hset.block b hbb.2 (by intro q; injection q with q; omega))
  · exact (Below.grown hbase hset hbase.size (fun b hb => by injection hb with hb; omega)).grown hput.2 (by simp [World.setCell]; omega) (fun b hb => by injection hb with hb; omega)
def zCp : Value := .agg #[.int .i64 0, .string ByteArray.empty, .bool false, .int .i64 0, .int .i64 0, .int .i64 0, .int .i64 0, .slice none 0 0]
theorem toCompiledS_info : (Tryd.prog.info? 54).map (fun i => (i.zero, i.size, i.bytes)) = some (some zCp, 8, 88) := by kernel_rfl
theorem run_make_cmp (n : Nat) (h : n ≤ 1048576) (w : World) :
    (Instr.makeSlice 37 (.int .i64 (n : Int)) (.int .i64 (n : Int))).run Tryd.prog w = .ok (.slice (some ⟨w.heap.size, 0, none⟩) n n) (w.alloc (.cells (madeCells zCp.cells (n * 8)) 54)) := by
  obtain ⟨i, h0, h1, h2, h3⟩ := info_parts toCompiledS_info
  have := run_make (P := Tryd.prog) w 37 54 i zCp Tryd.underlying37 h0 h1 .i64 .i64 n n (by omega) (Int.le_refl _) (by rw [h3]; omega) (by omega)
  rw [h2] at this
  simpa using this
set_option maxHeartbeats 1600000 in
theorem toCompiledS_own {lo hi : Nat} (v : Value) (L : List CR) (w : World) (hv0 : StR w lo hi v L) (hhi : hi ≤ w.heap.size) (hn : L.length ≤ 1048576) (hbn : ∀ r ∈ L, r.1.body.length ≤ 1048576) :
    Calls Tryd.prog 18 #[v] w fun e w' => ∃ u, e = .returned u ∧ ∃ M : List CR, M.map (·.1) = L.map (·.1) ∧ StR w' w.heap.size w'.heap.size u M ∧ Gr w w' := by
  obtain ⟨hv, hbod⟩ := hv0
  obtain ⟨a, c, rfl, h1, h2, h3⟩ := hv
  unfold maxLen at h2
  have HB := Lib.hid hbod
  have HN := Lib.hid hbn
  clear hbod hbn
  have hmk := run_make_cmp L.length hn w
  have hst : (w.alloc (.cells (madeCells zCp.cells (L.length * 8)) 54)).rowIs w.heap.size 54 (L.length * 8) (fun j => zCp.cells[j % 8]!) := by
    have := World.rowIs_alloc w (madeCells zCp.cells (L.length * 8)) 54 (fun j => zCp.cells[j % 8]!) (fun i hi => by rw [size_madeCells] at hi; simp [madeCells, hi, zCp, Value.cells])
    rw [size_madeCells] at this; exact this
  generalize (madeCells zCp.cells (L.length * 8)) = C at hmk hst
  have HST := Lib.hid hst
  clear hst
  go_enter Tryd.func18, Tryd.ntmps18
  go_wp2
  go_loopw [4] (fun i wr => ∃ k : Nat, ∃ M : List CR, k ≤ L.length ∧ i = .int .i64 k ∧ M.length = k ∧ M.map (·.1) = (L.map (·.1)).take k ∧ wr.rowIs w.heap.size 54 (L.length * 8) (fun j => if j < k * 8 then cmpAt M j else zCp.cells[j % 8]!) ∧
      (∀ r ∈ M, Own wr (w.heap.size + 1) 99 5 eSt r.2 r.1.body) ∧ Below w.heap.size w wr)
    (fun i _ => L.length - (intOf i).toNat)
  case atStart => exact ⟨0, [], Nat.zero_le _, rfl, rfl, by simp, HST.out.congr (fun j _ => by simp), by simp, (Below.refl _ _).alloc (Nat.le_refl _) _⟩
  case round =>
    obtain ⟨k, M, hk, rfl, hMl, hMm, hrow, hMo, hbel⟩ := hrel
    have HR := Lib.hid hrow
    have HMm := Lib.hid hMm
    have HMo := Lib.hid hMo
    clear hmk hMm hMo
    have hws := HR.out.lt
    by_cases hlt : k < L.length
    · obtain ⟨b, o, rfl, hb, hc⟩ := h3 k hlt
      obtain ⟨x, hx⟩ : ∃ x, x = L[k] := ⟨_, rfl⟩
      obtain ⟨c0, c1, c2, c3, c4, c5, c6, c7⟩ := cells_cmp (w := wr) (b := b) (o := o) (k := k) (x := x) (fun j u hu => (hbel.cell (p := ⟨b, o + k * 8 + j, none⟩) (Nat.lt_of_lt_of_le hb.2 hhi)).trans (hc j u (by rw [← hx]; exact hu)))
      have hbx := HB.out _ (List.getElem_mem hlt)
      have hnx := HN.out _ (List.getElem_mem hlt)
      rw [← hx] at hbx hnx
      have hto := toCompiled_own x wr (SlR.below hbx hbel hhi) (Nat.le_trans hhi hbel.size) hnx
      have HTO := Lib.hid hto
      have HX := Lib.hid hx
      clear hc h3 hrow hx hto hbx
      go_wp2_with (go_at_call 25
                   refine HTO.out.mono ?_
                   rintro e w2 ⟨u, rfl, ho, hb2⟩
                   have r2 := HR.out.of_block (hb2.block w.heap.size HR.out.lt)
                   have e0 := r2.cell (i := k * 8) (by omega)
                   have e1 := r2.cell (i := k * 8 + 1) (by omega)
                   have e2 := r2.cell (i := k * 8 + 2) (by omega)
                   have e3 := r2.cell (i := k * 8 + 3) (by omega)
                   have e4 := r2.cell (i := k * 8 + 4) (by omega)
                   have e5 := r2.cell (i := k * 8 + 5) (by omega)
                   have e6 := r2.cell (i := k * 8 + 6) (by omega)
                   have e7 := r2.cell (i := k * 8 + 7) (by omega)
                   have f0 := r2.frozen (k * 8)
                   have f1 := r2.frozen (k * 8 + 1)
                   have f2 := r2.frozen (k * 8 + 2)
                   have f3 := r2.frozen (k * 8 + 3)
                   have f4 := r2.frozen (k * 8 + 4)
                   have f5 := r2.frozen (k * 8 + 5)
                   have f6 := r2.frozen (k * 8 + 6)
                   have f7 := r2.frozen (k * 8 + 7)
                   obtain ⟨ua, uc, rfl, _, _⟩ := ho.form
                   have R2 := Lib.hid r2
                   have HO := Lib.hid ho
                   clear r2 ho)
      go_roundw
      case rel =>
        have hg2 : Gr w w2 := Gr.tr hbel hb2
        refine ⟨k + 1, M ++ [(x.1, .slice ua x.1.body.length uc)], by omega, by go_num, by simp [hMl], ?_, ((((((((R2.out.set _ _).set _ _).set _ _).set _ _).set _ _).set _ _).set _ _).set _ _).congr (fun j hj => cmp_row (x := (x.1, .slice ua x.1.body.length uc)) hMl (fun j => zCp.cells[j % 8]!)), ?_, (((((((hg2.setCell (Nat.le_refl _) _).setCell (Nat.le_refl _) _).setCell (Nat.le_refl _) _).setCell (Nat.le_refl _) _).setCell (Nat.le_refl _) _).setCell (Nat.le_refl _) _).setCell (Nat.le_refl _) _).setCell (Nat.le_refl _) _⟩
        · rw [List.map_append, HMm.out, List.take_succ_eq_append_getElem (by rw [List.length_map]; exact hlt), List.getElem_map, HX.out]; rfl
        · intro r hr
          rw [List.mem_append] at hr
          rcases hr with hr | hr
          · have h := HMo.out r hr
            refine (h.keep (w' := w2) (fun b hb => hb2.block b (h.block b hb).2)).keep (fun b hb => heap_set8_other ?_)
            have := (h.block b hb).1; omega
          · rw [List.mem_singleton] at hr
            subst hr
            refine (HO.out.mono (by omega)).keep (fun b hb => heap_set8_other ?_)
            have := (HO.out.block b hb).1; omega
      case measure => simp [intOf]; omega
    · go_wp2
      go_ret
      have hkl : k = L.length := by omega
      refine ⟨_, rfl, M, ?_, ⟨?_, fun r hr => ((HMo.out r hr).mono (by omega)).reads (fun _ _ => rfl)⟩, hbel⟩
      · rw [HMm.out, List.take_of_length_le (by rw [List.length_map]; omega)]
      · have hML : L.length = M.length := by omega
        rw [hML]
        have hr := HR.out
        rw [hML] at hr
        exact (own_of_rows (base := w.heap.size) hr (Nat.le_refl _) (by unfold maxLen; omega) rfl (by decide) (fun _ _ => rfl) (fun i hi j u hu => by
          have hj : j < 8 := (List.getElem?_eq_some_iff.1 hu).1
          rw [if_pos (by omega), cmpAt_get hi j hu])).reads (fun _ _ => rfl)
theorem eqCompiledS_any {lo hi lo' hi' : Nat} (v u : Value) (L M : List CR) (w : World) (hv0 : StR w lo hi v L) (hu0 : StR w lo' hi' u M) (he : L.map (·.1) = M.map (·.1)) (hhi : hi ≤ w.heap.size) (hhi' : hi' ≤ w.heap.size) :
    Calls Tryd.prog 20 #[v, u] w fun e w' => e = .returned (.bool true) ∧ Gr w w' := by
  obtain ⟨hv, hvb⟩ := hv0
  obtain ⟨hu, hub⟩ := hu0
  obtain ⟨a, c, rfl, h1, h2, h3⟩ := hv
  obtain ⟨a', c', rfl, h1', h2', h3'⟩ := hu
  unfold maxLen at h2 h2'
  have hl : L.length = M.length := by have := congrArg List.length he; simpa using this
  have hl0 : ((L.length : Int) != (M.length : Int)) = false := by simp [hl]
  have hat : ∀ k (h : k < L.length) (h' : k < M.length), L[k].1 = M[k].1 := by
    intro k h h'
    have e1 : (L.map (·.1))[k]? = (M.map (·.1))[k]? := by rw [he]
    rw [List.getElem?_map, List.getElem?_map, List.getElem?_eq_getElem h, List.getElem?_eq_getElem h'] at e1
    injection e1
  have HAT := Lib.hid hat
  have HVB := Lib.hid hvb
  have HUB := Lib.hid hub
  have HL := Lib.hid hl
  clear hat hvb hub he hl
  go_enter Tryd.func20, Tryd.ntmps20
  go_wp2
  go_loopw [5] (fun i wr => ∃ k : Nat, k ≤ L.length ∧ i = .int .i64 k ∧ Gr w wr) (fun i _ => L.length - (intOf i).toNat)
  case atStart => exact ⟨0, Nat.zero_le _, rfl, Gr.rfl' _⟩
  case round =>
    obtain ⟨k, hk, rfl, hgr⟩ := hrel
    by_cases hlt : k < L.length
    · have hlm : k < M.length := by have := HL.out; omega
      have hki : (k : Int) < (L.length : Int) := by omega
      have hkm : (k : Int) < (M.length : Int) := by omega
      obtain ⟨b, o, rfl, hbb, hc⟩ := h3 k hlt
      obtain ⟨b', o', rfl, hbb', hc'⟩ := h3' k hlm
      obtain ⟨x, hx⟩ : ∃ x, x = L[k] := ⟨_, rfl⟩
      obtain ⟨y, hy⟩ : ∃ y, y = M[k] := ⟨_, rfl⟩
      have cc := fun W (h : Gr w W) => cells_cmp (w := W) (b := b) (o := o) (k := k) (x := x) (fun j u hu => (h.cell (p := ⟨b, o + k * 8 + j, none⟩) (Nat.lt_of_lt_of_le hbb.2 hhi)).trans (hc j u (by rw [← hx]; exact hu)))
      have dd := fun W (h : Gr w W) => cells_cmp (w := W) (b := b') (o := o') (k := k) (x := y) (fun j u hu => (h.cell (p := ⟨b', o' + k * 8 + j, none⟩) (Nat.lt_of_lt_of_le hbb'.2 hhi')).trans (hc' j u (by rw [← hy]; exact hu)))
      have hbx := HVB.out _ (List.getElem_mem hlt)
      have hby := HUB.out _ (List.getElem_mem hlm)
      rw [← hx] at hbx
      rw [← hy] at hby
      have hxy := HAT.out k hlt hlm
      rw [← hx, ← hy] at hxy
      obtain ⟨f, bx⟩ := x
      obtain ⟨g, by'⟩ := y
      simp only at hxy
      subst hxy
      have hcall := fun W (h : Gr w W) => eqCompiled_any f bx by' W (SlR.below hbx h hhi) (SlR.below hby h hhi') (Nat.le_trans hhi h.size) (Nat.le_trans hhi' h.size)
      simp only at cc dd
      have hall := fun W (h : Gr w W) => And.intro h (And.intro (cc W h) (dd W h))
      have HC := Lib.hid hcall
      have HALL := Lib.hid hall
      clear hc h3 hc' h3' hx hy hbx hby hcall cc dd hall
      go_wp2
      refine wp_region_held_drew (S := (fun W => Gr w W ∧ (W.cell? ⟨b, o + k * 8, none⟩ = some (.int .i64 f.root) ∧ W.cell? ⟨b, o + k * 8 + 1, none⟩ = some (.string f.mod) ∧ W.cell? ⟨b, o + k * 8 + 2, none⟩ = some (.bool f.init) ∧ W.cell? ⟨b, o + k * 8 + 3, none⟩ = some (.int .i64 f.mode) ∧ W.cell? ⟨b, o + k * 8 + 4, none⟩ = some (.int .i64 f.stamp) ∧ W.cell? ⟨b, o + k * 8 + 5, none⟩ = some (.int .i64 f.size) ∧ W.cell? ⟨b, o + k * 8 + 6, none⟩ = some (.int .i64 f.hash) ∧ W.cell? ⟨b, o + k * 8 + 7, none⟩ = some bx) ∧ (W.cell? ⟨b', o' + k * 8, none⟩ = some (.int .i64 f.root) ∧ W.cell? ⟨b', o' + k * 8 + 1, none⟩ = some (.string f.mod) ∧ W.cell? ⟨b', o' + k * 8 + 2, none⟩ = some (.bool f.init) ∧ W.cell? ⟨b', o' + k * 8 + 3, none⟩ = some (.int .i64 f.mode) ∧ W.cell? ⟨b', o' + k * 8 + 4, none⟩ = some (.int .i64 f.stamp) ∧ W.cell? ⟨b', o' + k * 8 + 5, none⟩ = some (.int .i64 f.size) ∧ W.cell? ⟨b', o' + k * 8 + 6, none⟩ = some (.int .i64 f.hash) ∧ W.cell? ⟨b', o' + k * 8 + 7, none⟩ = some by'))) (by kernel_rfl) (HALL.out _ (below_drewN hgr 1)) (fun hS0 => ?_)
      refine wpAnyH_take (i := 0) (v := ?_) rfl (by kernel_rfl) (by kernel_rfl) (by kernel_rfl) (fun _ _ _ h => h) (Or.inl ⟨by rfl, ?_⟩) hS0 ?_
      rotate_left
      · (intro W hSw; (try dsimp only at hSw); go_simp; try (with_reducible rfl))
      try simp only [Act.put, List.getElem_toArray, List.getElem_cons_succ, List.getElem_cons_zero, List.setIfInBounds_toArray, List.set_cons_zero, List.set_cons_succ]
      refine wpAnyH_take (i := 1) (v := ?_) rfl (by kernel_rfl) (by kernel_rfl) (by kernel_rfl) (fun _ _ _ h => h) (Or.inl ⟨by rfl, ?_⟩) hS0 ?_
      rotate_left
      · (intro W hSw; (try dsimp only at hSw); go_simp; try (with_reducible rfl))
      try simp only [Act.put, List.getElem_toArray, List.getElem_cons_succ, List.getElem_cons_zero, List.setIfInBounds_toArray, List.set_cons_zero, List.set_cons_succ]
      refine wpAnyH_take (i := 2) (v := ?_) rfl (by kernel_rfl) (by kernel_rfl) (by kernel_rfl) (fun _ _ _ h => h) (Or.inl ⟨by rfl, ?_⟩) hS0 ?_
      rotate_left
      · (intro W hSw; (try dsimp only at hSw); go_simp; try (with_reducible rfl))
      try simp only [Act.put, List.getElem_toArray, List.getElem_cons_succ, List.getElem_cons_zero, List.setIfInBounds_toArray, List.set_cons_zero, List.set_cons_succ]
      refine wpAnyH_take (i := 3) (v := ?_) rfl (by kernel_rfl) (by kernel_rfl) (by kernel_rfl) (fun _ _ _ h => h) (Or.inl ⟨by rfl, ?_⟩) hS0 ?_
      rotate_left
      · (intro W hSw; (try dsimp only at hSw); go_simp; try (with_reducible rfl))
      try simp only [Act.put, List.getElem_toArray, List.getElem_cons_succ, List.getElem_cons_zero, List.setIfInBounds_toArray, List.set_cons_zero, List.set_cons_succ]
      refine wpAnyH_take (i := 4) (v := ?_) rfl (by kernel_rfl) (by kernel_rfl) (by kernel_rfl) (fun _ _ _ h => h) (Or.inl ⟨by rfl, ?_⟩) hS0 ?_
      rotate_left
      · (intro W hSw; (try dsimp only at hSw); go_simp; try (with_reducible rfl))
      try simp only [Act.put, List.getElem_toArray, List.getElem_cons_succ, List.getElem_cons_zero, List.setIfInBounds_toArray, List.set_cons_zero, List.set_cons_succ]
      refine wpAnyH_take (i := 5) (v := ?_) rfl (by kernel_rfl) (by kernel_rfl) (by kernel_rfl) (fun _ _ _ h => h) (Or.inl ⟨by rfl, ?_⟩) hS0 ?_
      rotate_left
      · (intro W hSw; (try dsimp only at hSw); go_simp; try (with_reducible rfl))
      try simp only [Act.put, List.getElem_toArray, List.getElem_cons_succ, List.getElem_cons_zero, List.setIfInBounds_toArray, List.set_cons_zero, List.set_cons_succ]
      refine wpAnyH_take (i := 6) (v := ?_) rfl (by kernel_rfl) (by kernel_rfl) (by kernel_rfl) (fun _ _ _ h => h) (Or.inl ⟨by rfl, ?_⟩) hS0 ?_
      rotate_left
      · (intro W hSw; (try dsimp only at hSw); go_simp; try (with_reducible rfl))
      try simp only [Act.put, List.getElem_toArray, List.getElem_cons_succ, List.getElem_cons_zero, List.setIfInBounds_toArray, List.set_cons_zero, List.set_cons_succ]
      refine wpAnyH_take (i := 7) (v := ?_) rfl (by kernel_rfl) (by kernel_rfl) (by kernel_rfl) (fun _ _ _ h => h) (Or.inl ⟨by rfl, ?_⟩) hS0 ?_
      rotate_left
      · (intro W hSw; (try dsimp only at hSw); go_simp; try (with_reducible rfl))
      try simp only [Act.put, List.getElem_toArray, List.getElem_cons_succ, List.getElem_cons_zero, List.setIfInBounds_toArray, List.set_cons_zero, List.set_cons_succ]
      refine wpAnyH_ready (rs := [8]) (by kernel_rfl) (by simp) ?_
      refine AllReadyH.cons rfl (fun K hK => ?_) AllReadyH.nil
      go_simp
      refine (HC.out _ hS0.1).mono ?_
      rintro e w5 ⟨rfl, hb5⟩
      try go_wp2_with fail
      refine hK.out _ _ (HALL.out _ (hS0.1.tr hb5)) (fun hS1 => ?_)
      clear hK K
      try simp only [Act.put, List.getElem_toArray, List.getElem_cons_succ, List.getElem_cons_zero, List.setIfInBounds_toArray, List.set_cons_zero, List.set_cons_succ]
      refine wpAnyH_take (i := 9) (v := ?_) rfl (by kernel_rfl) (by kernel_rfl) (by kernel_rfl) (fun _ _ _ h => h) (Or.inl ⟨by rfl, ?_⟩) hS1 ?_
      rotate_left
      · (intro W hSw; (try dsimp only at hSw); go_simp; try (with_reducible rfl))
      try simp only [Act.put, List.getElem_toArray, List.getElem_cons_succ, List.getElem_cons_zero, List.setIfInBounds_toArray, List.set_cons_zero, List.set_cons_succ]
      refine wpAnyH_done (by kernel_rfl) ?_ _
      go_wp2
      go_roundw
      case rel => exact ⟨k + 1, by omega, by go_num, hS1.1⟩
      case measure => simp [intOf]; omega
    · go_wp2
      go_ret
      exact ⟨rfl, hgr⟩
end Go.Proofs.YteccopgnlbphbaaDoor
