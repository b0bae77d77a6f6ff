/-
  Walks over commands: their size, copy, comparison, validity; the law on them.
-/
import Derived.Test.YtonpfkfmkdaglaaDoorRows2
import Derived.Test.YtonpfkfmkdaglaaDoorBody
namespace Imp
open Go Go.RowKit
abbrev vCm (s : Cmd) : Value := .agg #[.int .i64 s.kind, .string s.name]
def totC : List Cmd → Nat
  | [] => 0
  | s :: r => s.name.size + totC r
theorem totC_snoc : ∀ (l : List Cmd) (s : Cmd), totC (l ++ [s]) = totC l + s.name.size
  | [], s => by simp [totC]
  | x :: l, s => by rw [List.cons_append, totC, totC_snoc l s, totC]; omega
theorem totC_take {l : List Cmd} {k : Nat} (h : k < l.length) : totC (l.take (k + 1)) = totC (l.take k) + l[k].name.size := by
  rw [List.take_succ_eq_append_getElem h, totC_snoc]
theorem totC_mem : ∀ {l : List Cmd} {s : Cmd}, s ∈ l → s.name.size ≤ totC l
  | x :: l, s, h => by
    rw [List.mem_cons] at h
    rw [totC]
    rcases h with rfl | h
    · omega
    · have := totC_mem h; omega
theorem cells_cmd {w : World} {b o k : Nat} {x : Cmd} (h : ∀ j u, (eCm x)[j]? = some u → w.cell? ⟨b, o + k * 2 + j, none⟩ = some u) :
    w.cell? ⟨b, o + k * 2, none⟩ = some (.int .i64 x.kind) ∧ w.cell? ⟨b, o + k * 2 + 1, none⟩ = some (.string x.name) := ⟨h 0 _ rfl, h 1 _ rfl⟩
def okCmd (c : Cmd) : Bool := (decide (0 ≤ c.kind) && decide (c.kind ≤ 2)) && vName (bs c.name)
def okCmds (l : List Cmd) : Bool := l.all okCmd && decide ((l.length : Int) ≤ 10)
end Imp
namespace Go.Proofs.YtonpfkfmkdaglaaDoor
open Go Go.RowKit Imp
set_option linter.unusedVariables false

theorem szCommand_any (s : Cmd) (left : Int) (w : World) (hs : okCm s) (h0 : 0 ≤ left) (h1 : left ≤ 1048576) :
    Calls Tryd.prog 65 #[vCm s, .int .i64 left] w fun e w' => ∃ r : Int, e = .returned (.int .i64 r) ∧ (0 ≤ r → r + s.name.size = left) ∧ r ≤ left ∧ Gr w w' := by
  obtain ⟨kind, name⟩ := s
  obtain ⟨_, hn⟩ := hs
  simp only at *
  unfold maxLen at hn
  have hw1 : IntKind.i64.wrap (left - (name.size : Int)) = left - (name.size : Int) := IntWalk.i64_in _ (by omega)
  by_cases hneg : left - (name.size : Int) < 0
  · go_enter Tryd.func65, Tryd.ntmps65
    go_wp2
    go_ret
    exact ⟨-1, rfl, by omega, by omega, (Below.refl _ _).alloc (Nat.le_refl _) _⟩
  · go_enter Tryd.func65, Tryd.ntmps65
    go_wp2
    go_ret
    exact ⟨_, rfl, by omega, by omega, (Below.refl _ _).alloc (Nat.le_refl _) _⟩
theorem szCommandS_any {lo hi : Nat} (v : Value) (L : List Cmd) (left : Int) (w : World) (hv : SlR w lo hi 2 eCm v L) (hhi : hi ≤ w.heap.size) (hs : ∀ s ∈ L, okCm s) (h0 : 0 ≤ left) (h1 : left ≤ 1048576) :
    Calls Tryd.prog 15 #[v, .int .i64 left] w fun e w' => ∃ r : Int, e = .returned (.int .i64 r) ∧ (0 ≤ r → r + L.length + totC L = left) ∧ r ≤ left ∧ Gr w w' := by
  obtain ⟨a, c, rfl, hc1, hc2, h3⟩ := hv
  unfold maxLen at hc2
  have hw1 : IntKind.i64.wrap (left - (L.length : Int)) = left - (L.length : Int) := IntWalk.i64_in _ (by omega)
  by_cases hneg : left - (L.length : Int) < 0
  · go_enter Tryd.func15, Tryd.ntmps15
    go_wp2
    go_ret
    exact ⟨-1, rfl, by omega, by omega, Gr.rfl' _⟩
  · go_enter Tryd.func15, Tryd.ntmps15
    go_wp2
    go_loopw [1, 5] (fun l i wr => ∃ k : Nat, ∃ r : Int, k ≤ L.length ∧ i = .int .i64 k ∧ l = .int .i64 r ∧ 0 ≤ r ∧ r + L.length + totC (L.take k) = left ∧ Gr w wr) (fun _ i _ => L.length - (intOf i).toNat)
    case atStart => exact ⟨0, _, Nat.zero_le _, rfl, rfl, by omega, by simp [totC], Gr.rfl' _⟩
    case round =>
      obtain ⟨k, r, hk, rfl, rfl, hr0, hr, hgr⟩ := hrel
      have HR := Lib.hid hr
      have hrl : r ≤ 1048576 := by omega
      clear hr
      by_cases hlt : k < L.length
      · obtain ⟨b, o, rfl, hbb, hc⟩ := h3 k hlt
        obtain ⟨x, hx⟩ : ∃ x, x = L[k] := ⟨_, rfl⟩
        obtain ⟨c0, c1⟩ := cells_cmd (w := wr) (b := b) (o := o) (k := k) (x := x) (fun j u hu => (hgr.cell (p := ⟨b, o + k * 2 + j, none⟩) (Nat.lt_of_lt_of_le hbb.2 hhi)).trans (hc j u (by rw [← hx]; exact hu)))
        have hxs := hs _ (List.getElem_mem hlt)
        rw [← hx] at hxs
        have ht := totC_take hlt
        rw [← hx] at ht
        have HT := Lib.hid ht
        have hgs := hgr.size
        clear hc h3 hx ht hs
        go_wp2_with fail
        refine (szCommand_any x _ _ hxs hr0 (by omega)).mono ?_
        rintro e w2 ⟨r2, rfl, hr2, hrl2, hb2⟩
        by_cases hneg2 : r2 < 0
        · go_wp2
          go_ret
          exact ⟨-1, rfl, by omega, by omega, hgr.tr hb2⟩
        · go_wp2
          go_roundw
          case rel => exact ⟨k + 1, r2, by omega, by go_num, rfl, by omega, by have := HR.out; have := hr2 (by omega); rw [HT.out]; omega, hgr.tr hb2⟩
          case measure => simp [intOf]; omega
      · go_wp2
        go_ret
        have := HR.out
        rw [List.take_of_length_le (by omega)] at this
        exact ⟨r, rfl, fun _ => this, by omega, hgr⟩
theorem toCommand_any (s : Cmd) (w : World) :
    Calls Tryd.prog 67 #[vCm s] w fun e w' => e = .returned (vCm s) ∧ Gr w w' := by
  obtain ⟨kind, name⟩ := s
  go_enter Tryd.func67, Tryd.ntmps67
  go_wp2
  refine bodyPost_ret (results_cell_row rfl _ _ (w.heap.size + 1) 83 _ (0, 0) _ rfl (heap_alloc3_mid _ _ _ _) Tryd.underlying83 rfl (by kernel_rfl)) rfl ?_
  exact ⟨rfl, gr_alloc3 _ _ _ _⟩
def zCm : Value := .agg #[.int .i64 0, .string ByteArray.empty]
theorem toCommandS_info : (Tryd.prog.info? 83).map (fun i => (i.zero, i.size, i.bytes)) = some (some zCm, 2, 24) := by kernel_rfl
theorem run_make_cmd (n : Nat) (h : n ≤ 1048576) (w : World) :
    (Instr.makeSlice 25 (.int .i64 (n : Int)) (.int .i64 (n : Int))).run Tryd.prog w = .ok (.slice (some ⟨w.heap.size, 0, none⟩) n n) (w.alloc (.cells (madeCells zCm.cells (n * 2)) 83)) := by
  obtain ⟨i, h0, h1, h2, h3⟩ := info_parts toCommandS_info
  have := run_make (P := Tryd.prog) w 25 83 i zCm Tryd.underlying25 h0 h1 .i64 .i64 n n (by omega) (Int.le_refl _) (by rw [h3]; omega) (by omega)
  rw [h2] at this
  simpa using this
def cmdAt (L : List Cmd) (j : Nat) : Value := ((L[j / 2]?).bind fun s => (eCm s)[j % 2]?).getD (.bool false)
theorem cmdAt_get {L : List Cmd} {k : Nat} (h : k < L.length) (r : Nat) {u : Value} (hu : (eCm L[k])[r]? = some u) : cmdAt L (k * 2 + r) = u := by
  have hr : r < 2 := (List.getElem?_eq_some_iff.1 hu).1
  unfold cmdAt
  rw [show (k * 2 + r) / 2 = k by omega, show (k * 2 + r) % 2 = r by omega, List.getElem?_eq_getElem h]
  simp [hu]
theorem cmd_row {L : List Cmd} {k j : Nat} {x : Cmd} (hk : k < L.length) (hx : x = L[k]) (f : Nat → Value) :
    (if j = k * 2 + 1 then Value.string x.name else if j = k * 2 then Value.int .i64 x.kind else if j < k * 2 then cmdAt L j else f j) =
    if j < (k + 1) * 2 then cmdAt L j else f j := by
  subst hx
  by_cases h1 : j = k * 2 + 1
  · subst h1; rw [if_pos rfl, if_pos (by omega), cmdAt_get hk 1 rfl]
  · rw [if_neg h1]
    by_cases h0 : j = k * 2
    · subst h0; rw [if_pos rfl, if_pos (by omega)]; exact (cmdAt_get hk 0 rfl).symm
    · rw [if_neg h0]
      by_cases h : j < k * 2
      · rw [if_pos h, if_pos (by omega)]
      · rw [if_neg h, if_neg (by omega)]
theorem toCommandS_any {lo hi : Nat} (v : Value) (L : List Cmd) (w : World) (hv : SlR w lo hi 2 eCm v L) (hhi : hi ≤ w.heap.size) (hn : L.length ≤ 1048576) :
    Calls Tryd.prog 17 #[v] w fun e w' => ∃ u, e = .returned u ∧ SlR w' w.heap.size w'.heap.size 2 eCm u L ∧ Below w.heap.size w w' := by
  have hv0 := hv
  obtain ⟨a, c, rfl, h1, h2, h3⟩ := hv
  unfold maxLen at h2
  have hmk := run_make_cmd L.length hn w
  have hst : (w.alloc (.cells (madeCells zCm.cells (L.length * 2)) 83)).rowIs w.heap.size 83 (L.length * 2) (fun j => zCm.cells[j % 2]!) := by
    have := World.rowIs_alloc w (madeCells zCm.cells (L.length * 2)) 83 (fun j => zCm.cells[j % 2]!) (fun i hi => by rw [size_madeCells] at hi; simp [madeCells, hi, zCm, Value.cells])
    rw [size_madeCells] at this; exact this
  generalize (madeCells zCm.cells (L.length * 2)) = C at hmk hst
  have HST := Lib.hid hst
  clear hst
  go_enter Tryd.func17, Tryd.ntmps17
  go_wp2
  go_loopw [4] (fun i wr => ∃ k : Nat, k ≤ L.length ∧ i = .int .i64 k ∧ wr.rowIs w.heap.size 83 (L.length * 2) (fun j => if j < k * 2 then cmdAt L j else zCm.cells[j % 2]!) ∧ Below w.heap.size w wr)
    (fun i _ => L.length - (intOf i).toNat)
  case atStart => exact ⟨0, Nat.zero_le _, rfl, HST.out.congr (fun j _ => by simp), (Below.refl _ _).alloc (Nat.le_refl _) _⟩
  case round =>
    obtain ⟨k, hk, rfl, hrow, hbel⟩ := hrel
    have HR := Lib.hid hrow
    clear hmk
    by_cases hlt : k < L.length
    · obtain ⟨b, o, rfl, hb, hc⟩ := h3 k hlt
      obtain ⟨x, hx⟩ : ∃ x, x = L[k] := ⟨_, rfl⟩
      obtain ⟨c0, c1⟩ := cells_cmd (w := wr) (b := b) (o := o) (k := k) (x := x) (fun j u hu => (hbel.cell (p := ⟨b, o + k * 2 + j, none⟩) (Nat.lt_of_lt_of_le hb.2 hhi)).trans (hc j u (by rw [← hx]; exact hu)))
      have HX := Lib.hid hx
      clear hc h3 hrow hx
      go_wp2_with (go_at_call 67
                   refine (toCommand_any x _).mono ?_
                   rintro e w2 ⟨rfl, hb2⟩
                   have r2 := HR.out.of_block (hb2.block w.heap.size HR.out.lt)
                   have e0 := r2.cell (i := k * 2) (by omega)
                   have e1 := r2.cell (i := k * 2 + 1) (by omega)
                   have f0 := r2.frozen (k * 2)
                   have f1 := r2.frozen (k * 2 + 1)
                   have R2 := Lib.hid r2
                   clear r2)
      go_roundw
      case rel =>
        have hg2 : Gr w w2 := Gr.tr hbel hb2
        exact ⟨k + 1, by omega, by go_num, ((R2.out.set _ _).set _ _).congr (fun j hj => cmd_row hlt HX.out (fun j => zCm.cells[j % 2]!)), (hg2.setCell (Nat.le_refl _) _).setCell (Nat.le_refl _) _⟩
      case measure => simp [intOf]; omega
    · go_wp2
      go_ret
      have hkl : k = L.length := by omega
      subst hkl
      refine ⟨_, rfl, ⟨_, _, rfl, Nat.le_refl _, by unfold maxLen; omega, fun i hi => ⟨w.heap.size, 0, rfl, ⟨Nat.le_refl _, HR.out.lt⟩, fun j u hu => ?_⟩⟩, hbel⟩
      have hj : j < 2 := (List.getElem?_eq_some_iff.1 hu).1
      rw [Nat.zero_add, HR.out.cell (by omega), if_pos (by omega), cmdAt_get hi j hu]
theorem eqCommand_any (s : Cmd) (w : World) :
    Calls Tryd.prog 69 #[vCm s, vCm s] w fun e w' => e = .returned (.bool true) ∧ Gr w w' := by
  obtain ⟨kind, name⟩ := s
  have q3 : (name.toList != name.toList) = false := by simp
  have q4 : (kind != kind) = false := by simp
  go_enter Tryd.func69, Tryd.ntmps69
  go_wp2
  go_ret
  exact ⟨rfl, ((Below.refl _ _).alloc (Nat.le_refl _) _).alloc (by simp) _⟩
theorem eqCommandS_any {lo hi lo' hi' : Nat} (v u : Value) (L : List Cmd) (w : World) (hv : SlR w lo hi 2 eCm v L) (hu : SlR w lo' hi' 2 eCm u L) (hhi : hi ≤ w.heap.size) (hhi' : hi' ≤ w.heap.size) :
    Calls Tryd.prog 19 #[v, u] w fun e w' => e = .returned (.bool true) ∧ Gr w w' := by
  obtain ⟨a, c, rfl, h1, h2, h3⟩ := hv
  obtain ⟨a', c', rfl, h1', h2', h3'⟩ := hu
  unfold maxLen at h2 h2'
  go_enter Tryd.func19, Tryd.ntmps19
  go_wp2
  go_loopw [5] (fun i wr => ∃ k : Nat, k ≤ L.length ∧ i = .int .i64 k ∧ Gr w wr) (fun i _ => L.length - (intOf i).toNat)
  case atStart => exact ⟨0, Nat.zero_le _, rfl, Gr.rfl' _⟩
  case round =>
    obtain ⟨k, hk, rfl, hgr⟩ := hrel
    by_cases hlt : k < L.length
    · obtain ⟨b, o, rfl, hbb, hc⟩ := h3 k hlt
      obtain ⟨b', o', rfl, hbb', hc'⟩ := h3' k hlt
      obtain ⟨x, hx⟩ : ∃ x, x = L[k] := ⟨_, rfl⟩
      obtain ⟨c0, c1⟩ := cells_cmd (w := wr) (b := b) (o := o) (k := k) (x := x) (fun j u hu => (hgr.cell (p := ⟨b, o + k * 2 + j, none⟩) (Nat.lt_of_lt_of_le hbb.2 hhi)).trans (hc j u (by rw [← hx]; exact hu)))
      obtain ⟨d0, d1⟩ := cells_cmd (w := wr) (b := b') (o := o') (k := k) (x := x) (fun j u hu => (hgr.cell (p := ⟨b', o' + k * 2 + j, none⟩) (Nat.lt_of_lt_of_le hbb'.2 hhi')).trans (hc' j u (by rw [← hx]; exact hu)))
      clear hc h3 hc' h3' hx
      go_wp2
      go_region_law (go_simp
                     go_at_call 69
                     refine (eqCommand_any x _).mono ?_
                     rintro e w2 ⟨rfl, hb2⟩)
      all_goals go_wp2
      all_goals go_roundw
      all_goals first
        | exact ⟨k + 1, by omega, by go_num, Gr.tr (Below.drew hgr) hb2⟩
        | (simp [intOf]; omega)
    · go_wp2
      go_ret
      exact ⟨rfl, hgr⟩
theorem svalidCommands_any {lo hi : Nat} (v : Value) (L : List Cmd) (w : World) (hv : SlR w lo hi 2 eCm v L) (hhi : hi ≤ w.heap.size) (hsm : ∀ s ∈ L, s.name.size ≤ 16777216) :
    Calls Tryd.prog 66 #[v] w fun e w' => e = .returned (.bool (okCmds L)) ∧ Gr w w' := by
  obtain ⟨a, c, rfl, h1, h2, h3⟩ := hv
  unfold maxLen at h2
  obtain ⟨R, hR⟩ : ∃ R, R = okCmds L := ⟨_, rfl⟩
  rw [← hR]
  have HR := Lib.hid hR
  have HM := Lib.hid hsm
  clear hsm hR
  go_enter Tryd.func66, Tryd.ntmps66
  go_wp2
  go_loopw [3] (fun i wr => ∃ k : Nat, k ≤ L.length ∧ i = .int .i64 k ∧ (L.take k).all okCmd = true ∧ Gr w wr) (fun i _ => L.length - (intOf i).toNat)
  case atStart => exact ⟨0, Nat.zero_le _, rfl, by simp, Gr.rfl' _⟩
  case round =>
    obtain ⟨k, hk, rfl, hall, hgr⟩ := hrel
    have H := Lib.hid hall
    clear hall
    by_cases hlt : k < L.length
    · obtain ⟨b, o, rfl, hbb, hc⟩ := h3 k hlt
      obtain ⟨x, hx⟩ : ∃ x, x = L[k] := ⟨_, rfl⟩
      obtain ⟨c0, c1⟩ := cells_cmd (w := wr) (b := b) (o := o) (k := k) (x := x) (fun j u hu => (hgr.cell (p := ⟨b, o + k * 2 + j, none⟩) (Nat.lt_of_lt_of_le hbb.2 hhi)).trans (hc j u (by rw [← hx]; exact hu)))
      have hpl := HM.out L[k] (List.getElem_mem hlt)
      rw [← hx] at hpl
      have hat := all_take_succ okCmd L k hlt
      rw [← hx] at hat
      have HX := Lib.hid hx
      have HA := Lib.hid hat
      clear hc h3 hat hx
      obtain ⟨kind, name⟩ := x
      simp only at c0 c1 hpl
      by_cases hin : (decide (0 ≤ kind) && decide (kind ≤ 2)) = true
      · by_cases hv : vName (bs name) = true
        · have hkx : okCmd ⟨kind, name⟩ = true := by simp only [okCmd, hin, hv]; rfl
          have HK := Lib.hid hkx
          clear hkx
          go_wp2_with (first
            | (go_at_call 92; refine (inRange_any _ _ _ _).mono ?_; rintro e w2 ⟨rfl, rfl⟩; rw [hin])
            | (go_at_call 84; refine (svalidName_any _ _ hpl).mono ?_; rintro e w2 ⟨rfl, hb2⟩))
          go_roundw
          case rel => exact ⟨k + 1, by omega, by go_num, by rw [HA.out, H.out, HK.out]; rfl, hgr.tr hb2⟩
          case measure => simp [intOf]; omega
        · have hv' : vName (bs name) = false := (Bool.not_eq_true _).mp hv
          have hkx : okCmd ⟨kind, name⟩ = false := by simp only [okCmd, hin, hv']; rfl
          have HK := Lib.hid hkx
          clear hkx
          go_wp2_with (first
            | (go_at_call 92; refine (inRange_any _ _ _ _).mono ?_; rintro e w2 ⟨rfl, rfl⟩; rw [hin])
            | (go_at_call 84; refine (svalidName_any _ _ hpl).mono ?_; rintro e w2 ⟨rfl, hb2⟩))
          go_ret
          exact ⟨ret_bool (by rw [HR.out, okCmds, all_false_at _ _ k hlt (by rw [← HX.out]; exact HK.out)]; rfl), hgr.tr hb2⟩
      · have hin' : (decide (0 ≤ kind) && decide (kind ≤ 2)) = false := (Bool.not_eq_true _).mp hin
        have hkx : okCmd ⟨kind, name⟩ = false := by simp only [okCmd, hin']; rfl
        have HK := Lib.hid hkx
        clear hkx
        go_wp2_with (go_at_call 92; refine (inRange_any _ _ _ _).mono ?_; rintro e w2 ⟨rfl, rfl⟩; rw [hin'])
        go_ret
        exact ⟨ret_bool (by rw [HR.out, okCmds, all_false_at _ _ k hlt (by rw [← HX.out]; exact HK.out)]; rfl), hgr⟩
    · have hall : L.all okCmd = true := by rw [← List.take_of_length_le (show L.length ≤ k by omega)]; exact H.out
      have hfin : R = decide ((L.length : Int) ≤ 10) := by rw [HR.out, okCmds, hall, Bool.true_and]
      have HF := Lib.hid hfin
      clear hall hfin
      go_wp2
      go_ret
      exact ⟨ret_bool (by rw [HF.out]), hgr⟩
theorem sValidCommands_any {lo hi : Nat} (v : Value) (L : List Cmd) (w : World) (hv : SlR w lo hi 2 eCm v L) (hhi : hi ≤ w.heap.size) (hsm : ∀ s ∈ L, s.name.size ≤ 16777216) :
    Calls Tryd.prog 16 #[v] w fun e w' => e = .returned (.bool (okCmds L)) ∧ Gr w w' := by
  have h := svalidCommands_any v L w hv hhi hsm
  generalize okCmds L = R at h
  go_enter Tryd.func16, Tryd.ntmps16
  go_wp2_with (go_at_call 66; refine h.mono ?_; rintro e w1 ⟨rfl, hb1⟩)
  go_ret
  exact ⟨rfl, hb1⟩
theorem iValidCommands_any {lo hi : Nat} (v : Value) (L : List Cmd) (w : World) (hv : SlR w lo hi 2 eCm v L) (hhi : hi ≤ w.heap.size) (hsm : ∀ s ∈ L, s.name.size ≤ 16777216) (hok : OkW w) :
    Calls Tryd.prog 18 #[v] w fun e w' => e = .returned (.bool (okCmds L)) ∧ Gr w w' := by
  obtain ⟨a, c, rfl, h1, h2, h3⟩ := hv
  unfold maxLen at h2
  obtain ⟨R, hR⟩ : ∃ R, R = okCmds L := ⟨_, rfl⟩
  rw [← hR]
  have HR := Lib.hid hR
  have HM := Lib.hid hsm
  clear hsm hR
  go_enter Tryd.func18, Tryd.ntmps18
  go_wp2
  go_loopw [7] (fun i wr => ∃ k : Nat, k ≤ L.length ∧ i = .int .i64 k ∧ (L.take k).all okCmd = true ∧ Gr w wr) (fun i _ => L.length - (intOf i).toNat)
  case atStart => exact ⟨0, Nat.zero_le _, rfl, by simp, Gr.rfl' _⟩
  case round =>
    obtain ⟨k, hk, rfl, hall, hgr⟩ := hrel
    have H := Lib.hid hall
    have hokr := hok.gr hgr
    clear hall
    by_cases hlt : k < L.length
    · obtain ⟨b, o, rfl, hbb, hc⟩ := h3 k hlt
      obtain ⟨x, hx⟩ : ∃ x, x = L[k] := ⟨_, rfl⟩
      obtain ⟨c0, c1⟩ := cells_cmd (w := wr) (b := b) (o := o) (k := k) (x := x) (fun j u hu => (hgr.cell (p := ⟨b, o + k * 2 + j, none⟩) (Nat.lt_of_lt_of_le hbb.2 hhi)).trans (hc j u (by rw [← hx]; exact hu)))
      have hpl := HM.out L[k] (List.getElem_mem hlt)
      rw [← hx] at hpl
      have hat := all_take_succ okCmd L k hlt
      rw [← hx] at hat
      have HX := Lib.hid hx
      have HA := Lib.hid hat
      have hgs := hgr.size
      have hga : ∀ o, Gr w (wr.alloc o) := fun o => hgr.alloc hgs o
      clear hc h3 hat hx
      obtain ⟨kind, name⟩ := x
      simp only at c0 c1 hpl
      by_cases hin : (decide (0 ≤ kind) && decide (kind ≤ 2)) = true
      · by_cases hv : vName (bs name) = true
        · have hkx : okCmd ⟨kind, name⟩ = true := by simp only [okCmd, hin, hv]; rfl
          have HK := Lib.hid hkx
          clear hkx
          go_wp2_with (first
            | (go_at_call 68; refine (within_any _ _ _ _).mono ?_; rintro e w2 ⟨rfl, rfl⟩; rw [hin])
            | (go_at_call 39; refine (iValidName_any _ _ hpl (hok.gr (hga _))).mono ?_; rintro e w2 ⟨rfl, hb2⟩))
          go_roundw
          case rel => exact ⟨k + 1, by omega, by go_num, by rw [HA.out, H.out, HK.out]; rfl, (hga _).tr hb2⟩
          case measure => simp [intOf]; omega
        · have hv' : vName (bs name) = false := (Bool.not_eq_true _).mp hv
          have hkx : okCmd ⟨kind, name⟩ = false := by simp only [okCmd, hin, hv']; rfl
          have HK := Lib.hid hkx
          clear hkx
          go_wp2_with (first
            | (go_at_call 68; refine (within_any _ _ _ _).mono ?_; rintro e w2 ⟨rfl, rfl⟩; rw [hin])
            | (go_at_call 39; refine (iValidName_any _ _ hpl (hok.gr (hga _))).mono ?_; rintro e w2 ⟨rfl, hb2⟩))
          go_ret
          exact ⟨ret_bool (by rw [HR.out, okCmds, all_false_at _ _ k hlt (by rw [← HX.out]; exact HK.out)]; rfl), (hga _).tr hb2⟩
      · have hin' : (decide (0 ≤ kind) && decide (kind ≤ 2)) = false := (Bool.not_eq_true _).mp hin
        have hkx : okCmd ⟨kind, name⟩ = false := by simp only [okCmd, hin']; rfl
        have HK := Lib.hid hkx
        clear hkx
        go_wp2_with (go_at_call 68; refine (within_any _ _ _ _).mono ?_; rintro e w2 ⟨rfl, rfl⟩; rw [hin'])
        go_ret
        exact ⟨ret_bool (by rw [HR.out, okCmds, all_false_at _ _ k hlt (by rw [← HX.out]; exact HK.out)]; rfl), hga _⟩
    · have hall : L.all okCmd = true := by rw [← List.take_of_length_le (show L.length ≤ k by omega)]; exact H.out
      have hfin : R = decide ((L.length : Int) ≤ 10) := by rw [HR.out, okCmds, hall, Bool.true_and]
      have HF := Lib.hid hfin
      clear hall hfin
      go_wp2
      go_ret
      exact ⟨ret_bool (by rw [HF.out]), hgr⟩
theorem walk_FnExactValidCommands (w : World) (hok : OkW w) (v : Value) (L : List Cmd) (hL : SlR w 0 w.heap.size 2 eCm v L ∧ ∀ s ∈ L, okCm s) :
    Calls Tryd.prog 3 #[v] w fun e w' => e = .returned (.bool true) ∧ Below w.heap.size w w' := by
  obtain ⟨hv, hsz⟩ := hL
  go_enter Tryd.func3, Tryd.ntmps3
  go_wp2_with fail
  refine (szCommandS_any _ L _ _ hv (Nat.le_refl _) hsz (by omega) (by omega)).mono ?_
  rintro e w0 ⟨r, rfl, hr, hrl, hb0⟩
  by_cases h0 : r < 0
  · go_wp2
    go_ret
    exact ⟨rfl, hb0⟩
  · have htot := hr (by omega)
    have hlen : L.length ≤ 1048576 := by omega
    have hsm : ∀ s ∈ L, s.name.size ≤ 16777216 := by
      intro s hs
      have := totC_mem hs
      omega
    have h1 := fun lo hi u W h h' => sValidCommands_any (lo := lo) (hi := hi) u L W h h' hsm
    have h2 := fun lo hi u W h h' k => iValidCommands_any (lo := lo) (hi := hi) u L W h h' hsm k
    generalize okCmds L = R at h1 h2
    have q2 : (R != R) = false := by simp
    clear hr hrl htot hsm
    go_wp2_with fail
    refine (toCommandS_any _ L _ (hv.below hb0 (Nat.le_refl _)) hb0.size hlen).mono ?_
    rintro e w1 ⟨u1, rfl, hu1, hb1⟩
    have hg1 : Gr w w1 := Gr.tr hb0 hb1
    go_wp2_with fail
    refine (h1 _ _ _ _ hu1 (Nat.le_refl _)).mono ?_
    rintro e w2 ⟨rfl, hb2⟩
    have hg2 : Gr w w2 := Gr.tr hg1 hb2
    go_wp2_with fail
    refine (toCommandS_any _ L _ (hv.below hg2 (Nat.le_refl _)) hg2.size hlen).mono ?_
    rintro e w3 ⟨u3, rfl, hu3, hb3⟩
    have hg3 : Gr w w3 := Gr.tr hg2 hb3
    go_wp2_with fail
    refine (h2 _ _ _ _ hu3 (Nat.le_refl _) (hok.gr hg3)).mono ?_
    rintro e w4 ⟨rfl, hb4⟩
    have hg4 : Gr w w4 := Gr.tr hg3 hb4
    have hu3 := hu3.below hb4 (Nat.le_refl _)
    go_wp2_with fail
    refine (toCommandS_any _ L _ (hv.below hg4 (Nat.le_refl _)) hg4.size hlen).mono ?_
    rintro e w5 ⟨u5, rfl, hu5, hb5⟩
    go_wp2_with fail
    refine (eqCommandS_any _ _ L _ (hu3.below hb5 hb4.size) hu5 (Nat.le_trans hb4.size hb5.size) (Nat.le_refl _)).mono ?_
    rintro e w6 ⟨rfl, hb6⟩
    go_wp2
    go_ret
    exact ⟨rfl, Gr.tr (Gr.tr hg4 hb5) hb6⟩
end Go.Proofs.YtonpfkfmkdaglaaDoor
