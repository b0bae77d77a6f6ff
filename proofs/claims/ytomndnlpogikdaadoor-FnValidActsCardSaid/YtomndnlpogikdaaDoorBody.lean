/-
  Walks over statements: their size, copy, comparison, validity.
-/
import Derived.Test.YtomndnlpogikdaaDoorRows2
import Derived.Test.YtomndnlpogikdaaDoorStrs
namespace Imp
open Go Go.RowKit
abbrev vSt (s : Stm) : Value := .agg #[.int .i64 s.kind, .string s.mod, .int .i64 s.level, .string s.name, .int .i64 s.value]
def szSt (s : Stm) : Nat := s.mod.size + s.name.size
def totB : List Stm → Nat
  | [] => 0
  | s :: r => szSt s + totB r
theorem totB_snoc : ∀ (l : List Stm) (s : Stm), totB (l ++ [s]) = totB l + szSt s
  | [], s => by simp [totB]
  | x :: l, s => by rw [List.cons_append, totB, totB_snoc l s, totB]; omega
theorem totB_take {l : List Stm} {k : Nat} (h : k < l.length) : totB (l.take (k + 1)) = totB (l.take k) + szSt l[k] := by
  rw [List.take_succ_eq_append_getElem h, totB_snoc]
theorem totB_mem : ∀ {l : List Stm} {s : Stm}, s ∈ l → szSt s ≤ totB l
  | x :: l, s, h => by
    rw [List.mem_cons] at h
    rw [totB]
    rcases h with rfl | h
    · omega
    · have := totB_mem h; omega
/-- The five cells of a row. -/
theorem cells_stm {w : World} {b o k : Nat} {x : Stm} (h : ∀ j u, (eSt x)[j]? = some u → w.cell? ⟨b, o + k * 5 + j, none⟩ = some u) :
    w.cell? ⟨b, o + k * 5, none⟩ = some (.int .i64 x.kind) ∧ w.cell? ⟨b, o + k * 5 + 1, none⟩ = some (.string x.mod) ∧ w.cell? ⟨b, o + k * 5 + 2, none⟩ = some (.int .i64 x.level) ∧
    w.cell? ⟨b, o + k * 5 + 3, none⟩ = some (.string x.name) ∧ w.cell? ⟨b, o + k * 5 + 4, none⟩ = some (.int .i64 x.value) :=
  ⟨h 0 _ rfl, h 1 _ rfl, h 2 _ rfl, h 3 _ rfl, h 4 _ rfl⟩
end Imp
namespace Go.Proofs.YtomndnlpogikdaaDoor
open Go Go.RowKit Imp
set_option linter.unusedVariables false

theorem szStmt_any (s : Stm) (left : Int) (w : World) (hs : okSt s) (h0 : 0 ≤ left) (h1 : left ≤ 1048576) :
    Calls Tryd.prog 54 #[vSt s, .int .i64 left] w fun e w' => ∃ r : Int, e = .returned (.int .i64 r) ∧ (0 ≤ r → r + szSt s = left) ∧ r ≤ left ∧ Gr w w' := by
  obtain ⟨kind, mod, level, name, value⟩ := s
  obtain ⟨_, hm, _, hn, _⟩ := hs
  simp only [szSt] at *
  unfold maxLen at hm hn
  have hw1 : IntKind.i64.wrap (left - (mod.size : Int)) = left - (mod.size : Int) := IntWalk.i64_in _ (by omega)
  by_cases hneg : left - (mod.size : Int) < 0
  · go_enter Tryd.func54, Tryd.ntmps54
    go_wp2
    go_ret
    exact ⟨-1, rfl, by omega, by omega, (Below.refl _ _).alloc (Nat.le_refl _) _⟩
  · have hw2 : IntKind.i64.wrap (left - (mod.size : Int) - (name.size : Int)) = left - (mod.size : Int) - (name.size : Int) := IntWalk.i64_in _ (by omega)
    by_cases hneg2 : left - (mod.size : Int) - (name.size : Int) < 0
    · go_enter Tryd.func54, Tryd.ntmps54
      go_wp2
      go_ret
      exact ⟨-1, rfl, by omega, by omega, (Below.refl _ _).alloc (Nat.le_refl _) _⟩
    · go_enter Tryd.func54, Tryd.ntmps54
      go_wp2
      go_ret
      exact ⟨_, rfl, by omega, by omega, (Below.refl _ _).alloc (Nat.le_refl _) _⟩
theorem szStmtS_any {lo hi : Nat} (v : Value) (L : List Stm) (left : Int) (w : World) (hv : SlR w lo hi 5 eSt v L) (hhi : hi ≤ w.heap.size) (hs : ∀ s ∈ L, okSt s) (h0 : 0 ≤ left) (h1 : left ≤ 1048576) :
    Calls Tryd.prog 21 #[v, .int .i64 left] w fun e w' => ∃ r : Int, e = .returned (.int .i64 r) ∧ (0 ≤ r → r + L.length + totB L = left) ∧ r ≤ left ∧ Gr w w' := by
  obtain ⟨a, c, rfl, hc1, hc2, h3⟩ := hv
  unfold maxLen at hc2
  have hw1 : IntKind.i64.wrap (left - (L.length : Int)) = left - (L.length : Int) := IntWalk.i64_in _ (by omega)
  by_cases hneg : left - (L.length : Int) < 0
  · go_enter Tryd.func21, Tryd.ntmps21
    go_wp2
    go_ret
    exact ⟨-1, rfl, by omega, by omega, Gr.rfl' _⟩
  · go_enter Tryd.func21, Tryd.ntmps21
    go_wp2
    go_loopw [1, 5] (fun l i wr => ∃ k : Nat, ∃ r : Int, k ≤ L.length ∧ i = .int .i64 k ∧ l = .int .i64 r ∧ 0 ≤ r ∧ r + L.length + totB (L.take k) = left ∧ Gr w wr) (fun _ i _ => L.length - (intOf i).toNat)
    case atStart => exact ⟨0, _, Nat.zero_le _, rfl, rfl, by omega, by simp [totB], Gr.rfl' _⟩
    case round =>
      obtain ⟨k, r, hk, rfl, rfl, hr0, hr, hgr⟩ := hrel
      have HR := Lib.hid hr
      have hrl : r ≤ 1048576 := by omega
      clear hr
      by_cases hlt : k < L.length
      · obtain ⟨b, o, rfl, hbb, hc⟩ := h3 k hlt
        obtain ⟨x, hx⟩ : ∃ x, x = L[k] := ⟨_, rfl⟩
        obtain ⟨c0, c1, c2, c3, c4⟩ := cells_stm (w := wr) (b := b) (o := o) (k := k) (x := x) (fun j u hu => (hgr.cell (p := ⟨b, o + k * 5 + j, none⟩) (Nat.lt_of_lt_of_le hbb.2 hhi)).trans (hc j u (by rw [← hx]; exact hu)))
        have hxs := hs _ (List.getElem_mem hlt)
        rw [← hx] at hxs
        have ht := totB_take hlt
        rw [← hx] at ht
        have HT := Lib.hid ht
        have hgs := hgr.size
        clear hc h3 hx ht hs
        go_wp2_with fail
        refine (szStmt_any x _ _ hxs hr0 (by omega)).mono ?_
        rintro e w2 ⟨r2, rfl, hr2, hrl2, hb2⟩
        by_cases hneg2 : r2 < 0
        · go_wp2
          go_ret
          exact ⟨-1, rfl, by omega, by omega, hgr.tr hb2⟩
        · go_wp2
          go_roundw
          case rel => exact ⟨k + 1, r2, by omega, by go_num, rfl, by omega, by have := HR.out; have := hr2 (by omega); rw [HT.out]; omega, hgr.tr hb2⟩
          case measure => simp [intOf]; omega
      · go_wp2
        go_ret
        have := HR.out
        rw [List.take_of_length_le (by omega)] at this
        exact ⟨r, rfl, fun _ => this, by omega, hgr⟩
theorem heap_alloc3_mid (w : World) (A B C : Obj) : (((w.alloc A).alloc B).alloc C).heap[w.heap.size + 1]? = some B := by
  rw [Below.heap_alloc _ _ _ (by simp)]; exact heap_alloc2_new w A B
theorem gr_alloc3 (w : World) (A B C : Obj) : Gr w (((w.alloc A).alloc B).alloc C) :=
  (((Below.refl _ w).alloc (Nat.le_refl _) _).alloc (by simp) _).alloc (by simp; omega) _
theorem toStmt_any (s : Stm) (w : World) :
    Calls Tryd.prog 57 #[vSt s] w fun e w' => e = .returned (vSt s) ∧ Gr w w' := by
  obtain ⟨kind, mod, level, name, value⟩ := s
  go_enter Tryd.func57, Tryd.ntmps57
  go_wp2
  refine bodyPost_ret (results_cell_row rfl _ _ (w.heap.size + 1) 80 _ (0, 0) _ rfl (heap_alloc3_mid _ _ _ _) Tryd.underlying80 rfl (by kernel_rfl)) rfl ?_
  exact ⟨rfl, gr_alloc3 _ _ _ _⟩
def zSt : Value := .agg #[.int .i64 0, .string ByteArray.empty, .int .i64 0, .string ByteArray.empty, .int .i64 0]
theorem toStmtS_info : (Tryd.prog.info? 80).map (fun i => (i.zero, i.size, i.bytes)) = some (some zSt, 5, 56) := by kernel_rfl
theorem run_make_stm (n : Nat) (h : n ≤ 1048576) (w : World) :
    (Instr.makeSlice 36 (.int .i64 (n : Int)) (.int .i64 (n : Int))).run Tryd.prog w = .ok (.slice (some ⟨w.heap.size, 0, none⟩) n n) (w.alloc (.cells (madeCells zSt.cells (n * 5)) 80)) := by
  obtain ⟨i, h0, h1, h2, h3⟩ := info_parts toStmtS_info
  have := run_make (P := Tryd.prog) w 36 80 i zSt Tryd.underlying36 h0 h1 .i64 .i64 n n (by omega) (Int.le_refl _) (by rw [h3]; omega) (by omega)
  rw [h2] at this
  simpa using this
def stmAt (L : List Stm) (j : Nat) : Value := ((L[j / 5]?).bind fun s => (eSt s)[j % 5]?).getD (.bool false)
theorem stmAt_get {L : List Stm} {k : Nat} (h : k < L.length) (r : Nat) {u : Value} (hu : (eSt L[k])[r]? = some u) : stmAt L (k * 5 + r) = u := by
  have hr : r < 5 := (List.getElem?_eq_some_iff.1 hu).1
  unfold stmAt
  rw [show (k * 5 + r) / 5 = k by omega, show (k * 5 + r) % 5 = r by omega, List.getElem?_eq_getElem h]
  simp [hu]
theorem stm_row {L : List Stm} {k j : Nat} {x : Stm} (hk : k < L.length) (hx : x = L[k]) (f : Nat → Value) :
    (if j = k * 5 + 4 then Value.int .i64 x.value else if j = k * 5 + 3 then Value.string x.name else if j = k * 5 + 2 then Value.int .i64 x.level else if j = k * 5 + 1 then Value.string x.mod else if j = k * 5 then Value.int .i64 x.kind else if j < k * 5 then stmAt L j else f j) =
    if j < (k + 1) * 5 then stmAt L j else f j := by
  subst hx
  by_cases h4 : j = k * 5 + 4
  · subst h4; rw [if_pos rfl, if_pos (by omega), stmAt_get hk 4 rfl]
  · rw [if_neg h4]
    by_cases h3 : j = k * 5 + 3
    · subst h3; rw [if_pos rfl, if_pos (by omega), stmAt_get hk 3 rfl]
    · rw [if_neg h3]
      by_cases h2 : j = k * 5 + 2
      · subst h2; rw [if_pos rfl, if_pos (by omega), stmAt_get hk 2 rfl]
      · rw [if_neg h2]
        by_cases h1 : j = k * 5 + 1
        · subst h1; rw [if_pos rfl, if_pos (by omega), stmAt_get hk 1 rfl]
        · rw [if_neg h1]
          by_cases h0 : j = k * 5
          · subst h0; rw [if_pos rfl, if_pos (by omega)]; exact (stmAt_get hk 0 rfl).symm
          · rw [if_neg h0]
            by_cases h : j < k * 5
            · rw [if_pos h, if_pos (by omega)]
            · rw [if_neg h, if_neg (by omega)]
theorem toStmtS_any {lo hi : Nat} (v : Value) (L : List Stm) (w : World) (hv : SlR w lo hi 5 eSt v L) (hhi : hi ≤ w.heap.size) (hn : L.length ≤ 1048576) :
    Calls Tryd.prog 23 #[v] w fun e w' => ∃ u, e = .returned u ∧ SlR w' w.heap.size w'.heap.size 5 eSt u L ∧ Below w.heap.size w w' := by
  have hv0 := hv
  obtain ⟨a, c, rfl, h1, h2, h3⟩ := hv
  unfold maxLen at h2
  have hmk := run_make_stm L.length hn w
  have hst : (w.alloc (.cells (madeCells zSt.cells (L.length * 5)) 80)).rowIs w.heap.size 80 (L.length * 5) (fun j => zSt.cells[j % 5]!) := by
    have := World.rowIs_alloc w (madeCells zSt.cells (L.length * 5)) 80 (fun j => zSt.cells[j % 5]!) (fun i hi => by rw [size_madeCells] at hi; simp [madeCells, hi, zSt, Value.cells])
    rw [size_madeCells] at this; exact this
  generalize (madeCells zSt.cells (L.length * 5)) = C at hmk hst
  have HST := Lib.hid hst
  clear hst
  go_enter Tryd.func23, Tryd.ntmps23
  go_wp2
  go_loopw [4] (fun i wr => ∃ k : Nat, k ≤ L.length ∧ i = .int .i64 k ∧ wr.rowIs w.heap.size 80 (L.length * 5) (fun j => if j < k * 5 then stmAt L j else zSt.cells[j % 5]!) ∧ Below w.heap.size w wr)
    (fun i _ => L.length - (intOf i).toNat)
  case atStart => exact ⟨0, Nat.zero_le _, rfl, HST.out.congr (fun j _ => by simp), (Below.refl _ _).alloc (Nat.le_refl _) _⟩
  case round =>
    obtain ⟨k, hk, rfl, hrow, hbel⟩ := hrel
    have HR := Lib.hid hrow
    clear hmk
    by_cases hlt : k < L.length
    · obtain ⟨b, o, rfl, hb, hc⟩ := h3 k hlt
      obtain ⟨x, hx⟩ : ∃ x, x = L[k] := ⟨_, rfl⟩
      obtain ⟨c0, c1, c2, c3, c4⟩ := cells_stm (w := wr) (b := b) (o := o) (k := k) (x := x) (fun j u hu => (hbel.cell (p := ⟨b, o + k * 5 + j, none⟩) (Nat.lt_of_lt_of_le hb.2 hhi)).trans (hc j u (by rw [← hx]; exact hu)))
      have HX := Lib.hid hx
      clear hc h3 hrow hx
      go_wp2_with (go_at_call 57
                   refine (toStmt_any x _).mono ?_
                   rintro e w2 ⟨rfl, hb2⟩
                   have r2 := HR.out.of_block (hb2.block w.heap.size HR.out.lt)
                   have e0 := r2.cell (i := k * 5) (by omega)
                   have e1 := r2.cell (i := k * 5 + 1) (by omega)
                   have e2 := r2.cell (i := k * 5 + 2) (by omega)
                   have e3 := r2.cell (i := k * 5 + 3) (by omega)
                   have e4 := r2.cell (i := k * 5 + 4) (by omega)
                   have f0 := r2.frozen (k * 5)
                   have f1 := r2.frozen (k * 5 + 1)
                   have f2 := r2.frozen (k * 5 + 2)
                   have f3 := r2.frozen (k * 5 + 3)
                   have f4 := r2.frozen (k * 5 + 4)
                   have R2 := Lib.hid r2
                   clear r2)
      go_roundw
      case rel =>
        have hg2 : Gr w w2 := Gr.tr hbel hb2
        exact ⟨k + 1, by omega, by go_num, (((((R2.out.set _ _).set _ _).set _ _).set _ _).set _ _).congr (fun j hj => stm_row hlt HX.out (fun j => zSt.cells[j % 5]!)), ((((hg2.setCell (Nat.le_refl _) _).setCell (Nat.le_refl _) _).setCell (Nat.le_refl _) _).setCell (Nat.le_refl _) _).setCell (Nat.le_refl _) _⟩
      case measure => simp [intOf]; omega
    · go_wp2
      go_ret
      have hkl : k = L.length := by omega
      subst hkl
      refine ⟨_, rfl, ⟨_, _, rfl, Nat.le_refl _, by unfold maxLen; omega, fun i hi => ⟨w.heap.size, 0, rfl, ⟨Nat.le_refl _, HR.out.lt⟩, fun j u hu => ?_⟩⟩, hbel⟩
      have hj : j < 5 := (List.getElem?_eq_some_iff.1 hu).1
      rw [Nat.zero_add, HR.out.cell (by omega), if_pos (by omega), stmAt_get hi j hu]
theorem eqStmt_any (s t : Stm) (w : World) (h : s = t) :
    Calls Tryd.prog 60 #[vSt s, vSt t] w fun e w' => e = .returned (.bool true) ∧ Gr w w' := by
  subst h
  obtain ⟨kind, mod, level, name, value⟩ := s
  have q1 := beq_self_eq_true mod.toList
  have q2 : (mod.toList != mod.toList) = false := by simp
  have q3 : (name.toList != name.toList) = false := by simp
  have q4 : (kind != kind) = false := by simp
  have q5 : (level != level) = false := by simp
  have q6 : (value != value) = false := by simp
  go_enter Tryd.func60, Tryd.ntmps60
  go_wp2
  go_ret
  exact ⟨rfl, ((Below.refl _ _).alloc (Nat.le_refl _) _).alloc (by simp) _⟩
theorem eqStmtS_any {lo hi lo' hi' : Nat} (v u : Value) (L : List Stm) (w : World) (hv : SlR w lo hi 5 eSt v L) (hu : SlR w lo' hi' 5 eSt u L) (hhi : hi ≤ w.heap.size) (hhi' : hi' ≤ w.heap.size) :
    Calls Tryd.prog 25 #[v, u] w fun e w' => e = .returned (.bool true) ∧ Gr w w' := by
  obtain ⟨a, c, rfl, h1, h2, h3⟩ := hv
  obtain ⟨a', c', rfl, h1', h2', h3'⟩ := hu
  unfold maxLen at h2 h2'
  go_enter Tryd.func25, Tryd.ntmps25
  go_wp2
  go_loopw [5] (fun i wr => ∃ k : Nat, k ≤ L.length ∧ i = .int .i64 k ∧ Gr w wr) (fun i _ => L.length - (intOf i).toNat)
  case atStart => exact ⟨0, Nat.zero_le _, rfl, Gr.rfl' _⟩
  case round =>
    obtain ⟨k, hk, rfl, hgr⟩ := hrel
    by_cases hlt : k < L.length
    · obtain ⟨b, o, rfl, hbb, hc⟩ := h3 k hlt
      obtain ⟨b', o', rfl, hbb', hc'⟩ := h3' k hlt
      obtain ⟨x, hx⟩ : ∃ x, x = L[k] := ⟨_, rfl⟩
      obtain ⟨c0, c1, c2, c3, c4⟩ := cells_stm (w := wr) (b := b) (o := o) (k := k) (x := x) (fun j u hu => (hgr.cell (p := ⟨b, o + k * 5 + j, none⟩) (Nat.lt_of_lt_of_le hbb.2 hhi)).trans (hc j u (by rw [← hx]; exact hu)))
      obtain ⟨d0, d1, d2, d3, d4⟩ := cells_stm (w := wr) (b := b') (o := o') (k := k) (x := x) (fun j u hu => (hgr.cell (p := ⟨b', o' + k * 5 + j, none⟩) (Nat.lt_of_lt_of_le hbb'.2 hhi')).trans (hc' j u (by rw [← hx]; exact hu)))
      clear hc h3 hc' h3' hx
      go_wp2
      go_region_law (go_simp
                     go_at_call 60
                     refine (eqStmt_any x x _ rfl).mono ?_
                     rintro e w2 ⟨rfl, hb2⟩)
      all_goals go_wp2
      all_goals go_roundw
      all_goals first
        | exact ⟨k + 1, by omega, by go_num, Gr.tr (Below.drew hgr) hb2⟩
        | (simp [intOf]; omega)
    · go_wp2
      go_ret
      exact ⟨rfl, hgr⟩
end Go.Proofs.YtomndnlpogikdaaDoor
