/-
  Walks over files and trees: whole copies that the call owns, each body in a block of its own.
-/
import Derived.Test.YtomndnlpogikdaaDoorTreeB
namespace Imp
open Go Go.RowKit
def filAt (M : List FR) (j : Nat) : Value := ((M[j / 6]?).bind fun r => (eF r)[j % 6]?).getD (.bool false)
theorem filAt_get {M : List FR} {k : Nat} (h : k < M.length) (r : Nat) {u : Value} (hu : (eF M[k])[r]? = some u) : filAt M (k * 6 + r) = u := by
  have hr : r < 6 := (List.getElem?_eq_some_iff.1 hu).1
  unfold filAt
  rw [show (k * 6 + r) / 6 = k by omega, show (k * 6 + r) % 6 = r by omega, List.getElem?_eq_getElem h]
  simp [hu]
theorem filAt_old {M : List FR} {x : FR} {j : Nat} (h : j < M.length * 6) : filAt (M ++ [x]) j = filAt M j := by
  unfold filAt
  rw [List.getElem?_append_left (by omega)]
theorem filAt_new {M : List FR} {x : FR} (r : Nat) {u : Value} (hu : (eF x)[r]? = some u) : filAt (M ++ [x]) (M.length * 6 + r) = u :=
  filAt_get (M := M ++ [x]) (k := M.length) (by simp) r (by simpa using hu)
theorem fil_row {M : List FR} {k j : Nat} {x : FR} (hk : M.length = k) (f : Nat → Value) :
    (if j = k * 6 + 5 then x.2 else if j = k * 6 + 4 then Value.int .i64 x.1.stamp else if j = k * 6 + 3 then Value.bool x.1.init else if j = k * 6 + 2 then Value.string x.1.name else if j = k * 6 + 1 then Value.string x.1.pkg else if j = k * 6 then Value.int .i64 x.1.root else if j < k * 6 then filAt M j else f j) =
    if j < (k + 1) * 6 then filAt (M ++ [x]) j else f j := by
  subst hk
  by_cases h5 : j = M.length * 6 + 5
  · subst h5; rw [if_pos rfl, if_pos (by omega), filAt_new 5 rfl]
  · rw [if_neg h5]
    by_cases h4 : j = M.length * 6 + 4
    · subst h4; rw [if_pos rfl, if_pos (by omega), filAt_new 4 rfl]
    · rw [if_neg h4]
      by_cases h3 : j = M.length * 6 + 3
      · subst h3; rw [if_pos rfl, if_pos (by omega), filAt_new 3 rfl]
      · rw [if_neg h3]
        by_cases h2 : j = M.length * 6 + 2
        · subst h2; rw [if_pos rfl, if_pos (by omega), filAt_new 2 rfl]
        · rw [if_neg h2]
          by_cases h1 : j = M.length * 6 + 1
          · subst h1; rw [if_pos rfl, if_pos (by omega), filAt_new 1 rfl]
          · rw [if_neg h1]
            by_cases h0 : j = M.length * 6
            · subst h0; rw [if_pos rfl, if_pos (by omega)]; exact (filAt_new 0 rfl).symm
            · rw [if_neg h0]
              by_cases h : j < M.length * 6
              · rw [if_pos h, if_pos (by omega), filAt_old h]
              · rw [if_neg h, if_neg (by omega)]
theorem heap_set6_other {W : World} {g b o0 o1 o2 o3 o4 o5 : Nat} {u0 u1 u2 u3 u4 u5 : Value} (h : b ≠ g) :
    ((((((W.setCell ⟨g, o0, none⟩ u0).setCell ⟨g, o1, none⟩ u1).setCell ⟨g, o2, none⟩ u2).setCell ⟨g, o3, none⟩ u3).setCell ⟨g, o4, none⟩ u4).setCell ⟨g, o5, none⟩ u5).heap[b]? = W.heap[b]? := by
  rw [Below.heap_setCell _ _ _ _ h, Below.heap_setCell _ _ _ _ h, Below.heap_setCell _ _ _ _ h, Below.heap_setCell _ _ _ _ h, Below.heap_setCell _ _ _ _ h, Below.heap_setCell _ _ _ _ h]
/-- No two of these files hold their bodies in one block. -/
def Apart (M : List FR) : Prop := M.Pairwise fun a b => ∀ i, a.2.ownBlock = some i → b.2.ownBlock ≠ some i
/-- A slice of files that the call owns, with all bodies; no two in one block. -/
def OwnT (w : World) (base tF tS : Nat) (v : Value) (M : List FR) : Prop :=
  Own w base tF 6 eF v M ∧ (∀ r ∈ M, Own w base tS 5 eSt r.2 r.1.body) ∧ Apart M ∧ ∀ r ∈ M, ∀ b, r.2.ownBlock = some b → v.ownBlock ≠ some b
theorem OwnT.reads {w : World} {base tF tS : Nat} {v : Value} {M : List FR} (h : OwnT w base tF tS v M) : FlR w base w.heap.size v M :=
  ⟨h.1.reads (fun _ _ => rfl), fun r hr => (h.2.1 r hr).reads (fun _ _ => rfl)⟩
end Imp
namespace Go.Proofs.YtomndnlpogikdaaDoor
open Go Go.RowKit Imp
set_option linter.unusedVariables false

def zFl : Value := .agg #[.int .i64 0, .string ByteArray.empty, .string ByteArray.empty, .bool false, .int .i64 0, .slice none 0 0]
theorem toFileS_info : (Tryd.prog.info? 38).map (fun i => (i.zero, i.size, i.bytes)) = some (some zFl, 6, 80) := by kernel_rfl
theorem run_make_fil (n : Nat) (h : n ≤ 1048576) (w : World) :
    (Instr.makeSlice 30 (.int .i64 (n : Int)) (.int .i64 (n : Int))).run Tryd.prog w = .ok (.slice (some ⟨w.heap.size, 0, none⟩) n n) (w.alloc (.cells (madeCells zFl.cells (n * 6)) 38)) := by
  obtain ⟨i, h0, h1, h2, h3⟩ := info_parts toFileS_info
  have := run_make (P := Tryd.prog) w 30 38 i zFl Tryd.underlying30 h0 h1 .i64 .i64 n n (by omega) (Int.le_refl _) (by rw [h3]; omega) (by omega)
  rw [h2] at this
  simpa using this
theorem toFileS_own {lo hi : Nat} (v : Value) (L : List FR) (w : World) (hv0 : FlR w lo hi v L) (hhi : hi ≤ w.heap.size) (hn : L.length ≤ 1048576) (hbn : ∀ r ∈ L, r.1.body.length ≤ 1048576) :
    Calls Tryd.prog 48 #[v] w fun e w' => ∃ u, e = .returned u ∧ ∃ M : List FR, M.map (·.1) = L.map (·.1) ∧ OwnT w' w.heap.size 38 80 u M ∧ Gr w w' := by
  obtain ⟨hv, hbod⟩ := hv0
  obtain ⟨a, c, rfl, h1, h2, h3⟩ := hv
  unfold maxLen at h2
  have HB := Lib.hid hbod
  have HN := Lib.hid hbn
  clear hbod hbn
  have hmk := run_make_fil L.length hn w
  have hst : (w.alloc (.cells (madeCells zFl.cells (L.length * 6)) 38)).rowIs w.heap.size 38 (L.length * 6) (fun j => zFl.cells[j % 6]!) := by
    have := World.rowIs_alloc w (madeCells zFl.cells (L.length * 6)) 38 (fun j => zFl.cells[j % 6]!) (fun i hi => by rw [size_madeCells] at hi; simp [madeCells, hi, zFl, Value.cells])
    rw [size_madeCells] at this; exact this
  generalize (madeCells zFl.cells (L.length * 6)) = C at hmk hst
  have HST := Lib.hid hst
  clear hst
  go_enter Tryd.func48, Tryd.ntmps48
  go_wp2
  go_loopw [4] (fun i wr => ∃ k : Nat, ∃ M : List FR, k ≤ L.length ∧ i = .int .i64 k ∧ M.length = k ∧ M.map (·.1) = (L.map (·.1)).take k ∧ wr.rowIs w.heap.size 38 (L.length * 6) (fun j => if j < k * 6 then filAt M j else zFl.cells[j % 6]!) ∧
      (∀ r ∈ M, Own wr (w.heap.size + 1) 80 5 eSt r.2 r.1.body) ∧ Apart M ∧ Below w.heap.size w wr)
    (fun i _ => L.length - (intOf i).toNat)
  case atStart => exact ⟨0, [], Nat.zero_le _, rfl, rfl, by simp, HST.out.congr (fun j _ => by simp), by simp, List.Pairwise.nil, (Below.refl _ _).alloc (Nat.le_refl _) _⟩
  case round =>
    obtain ⟨k, M, hk, rfl, hMl, hMm, hrow, hMo, hMa, hbel⟩ := hrel
    have HR := Lib.hid hrow
    have HMm := Lib.hid hMm
    have HMo := Lib.hid hMo
    have HMa := Lib.hid hMa
    clear hmk hMm hMo hMa
    have hws := HR.out.lt
    by_cases hlt : k < L.length
    · obtain ⟨b, o, rfl, hb, hc⟩ := h3 k hlt
      obtain ⟨x, hx⟩ : ∃ x, x = L[k] := ⟨_, rfl⟩
      obtain ⟨c0, c1, c2, c3, c4, c5⟩ := cells_fil (w := wr) (b := b) (o := o) (k := k) (x := x) (fun j u hu => (hbel.cell (p := ⟨b, o + k * 6 + j, none⟩) (Nat.lt_of_lt_of_le hb.2 hhi)).trans (hc j u (by rw [← hx]; exact hu)))
      have hbx := HB.out _ (List.getElem_mem hlt)
      have hnx := HN.out _ (List.getElem_mem hlt)
      rw [← hx] at hbx hnx
      have hto := toFile_own x wr (SlR.below hbx hbel hhi) (Nat.le_trans hhi hbel.size) hnx
      have HTO := Lib.hid hto
      have HX := Lib.hid hx
      clear hc h3 hrow hx hto hbx
      go_wp2_with (go_at_call 14
                   refine HTO.out.mono ?_
                   rintro e w2 ⟨u, rfl, ho, hb2⟩
                   have r2 := HR.out.of_block (hb2.block w.heap.size HR.out.lt)
                   have e0 := r2.cell (i := k * 6) (by omega)
                   have e1 := r2.cell (i := k * 6 + 1) (by omega)
                   have e2 := r2.cell (i := k * 6 + 2) (by omega)
                   have e3 := r2.cell (i := k * 6 + 3) (by omega)
                   have e4 := r2.cell (i := k * 6 + 4) (by omega)
                   have e5 := r2.cell (i := k * 6 + 5) (by omega)
                   have f0 := r2.frozen (k * 6)
                   have f1 := r2.frozen (k * 6 + 1)
                   have f2 := r2.frozen (k * 6 + 2)
                   have f3 := r2.frozen (k * 6 + 3)
                   have f4 := r2.frozen (k * 6 + 4)
                   have f5 := r2.frozen (k * 6 + 5)
                   obtain ⟨ua, uc, rfl, _, _⟩ := ho.form
                   have R2 := Lib.hid r2
                   have HO := Lib.hid ho
                   clear r2 ho)
      go_roundw
      case rel =>
        have hg2 : Gr w w2 := Gr.tr hbel hb2
        refine ⟨k + 1, M ++ [(x.1, .slice ua x.1.body.length uc)], by omega, by go_num, by simp [hMl], ?_, ((((((R2.out.set _ _).set _ _).set _ _).set _ _).set _ _).set _ _).congr (fun j hj => fil_row (x := (x.1, .slice ua x.1.body.length uc)) hMl (fun j => zFl.cells[j % 6]!)), ?_, ?_, (((((hg2.setCell (Nat.le_refl _) _).setCell (Nat.le_refl _) _).setCell (Nat.le_refl _) _).setCell (Nat.le_refl _) _).setCell (Nat.le_refl _) _).setCell (Nat.le_refl _) _⟩
        · rw [List.map_append, HMm.out, List.take_succ_eq_append_getElem (by rw [List.length_map]; exact hlt), List.getElem_map, HX.out]; rfl
        · intro r hr
          rw [List.mem_append] at hr
          rcases hr with hr | hr
          · have h := HMo.out r hr
            refine (h.keep (w' := w2) (fun b hb => hb2.block b (h.block b hb).2)).keep (fun b hb => heap_set6_other ?_)
            have := (h.block b hb).1; omega
          · rw [List.mem_singleton] at hr
            subst hr
            refine (HO.out.mono (by omega)).keep (fun b hb => heap_set6_other ?_)
            have := (HO.out.block b hb).1; omega
        · refine List.pairwise_append.2 ⟨HMa.out, List.pairwise_singleton _ _, fun a ha b hb i hi hj => ?_⟩
          rw [List.mem_singleton] at hb
          subst hb
          have h5 := ((HMo.out a ha).block i hi).2
          have h6 := (HO.out.block i hj).1
          omega
      case measure => simp [intOf]; omega
    · go_wp2
      go_ret
      have hkl : k = L.length := by omega
      refine ⟨_, rfl, M, ?_, ⟨?_, fun r hr => (HMo.out r hr).mono (by omega), HMa.out, fun r hr b hb => ?_⟩, hbel⟩
      · rw [HMm.out, List.take_of_length_le (by rw [List.length_map]; omega)]
      · have hML : L.length = M.length := by omega
        rw [hML]
        have hr := HR.out
        rw [hML] at hr
        exact own_of_rows hr (Nat.le_refl _) (by unfold maxLen; omega) rfl (by decide) (fun _ _ => rfl) (fun i hi j u hu => by
          have hj : j < 6 := (List.getElem?_eq_some_iff.1 hu).1
          rw [if_pos (by omega), filAt_get hi j hu])
      · have := ((HMo.out r hr).block b hb).1
        simp [Value.ownBlock]
        omega
theorem eqFileS_any {lo hi lo' hi' : Nat} (v u : Value) (L M : List FR) (w : World) (hv0 : FlR w lo hi v L) (hu0 : FlR w lo' hi' u M) (he : L.map (·.1) = M.map (·.1)) (hhi : hi ≤ w.heap.size) (hhi' : hi' ≤ w.heap.size) :
    Calls Tryd.prog 51 #[v, u] w fun e w' => e = .returned (.bool true) ∧ Gr w w' := by
  obtain ⟨hv, hvb⟩ := hv0
  obtain ⟨hu, hub⟩ := hu0
  obtain ⟨a, c, rfl, h1, h2, h3⟩ := hv
  obtain ⟨a', c', rfl, h1', h2', h3'⟩ := hu
  unfold maxLen at h2 h2'
  have hl : L.length = M.length := by have := congrArg List.length he; simpa using this
  have hl0 : ((L.length : Int) != (M.length : Int)) = false := by simp [hl]
  have hat : ∀ k (h : k < L.length) (h' : k < M.length), L[k].1 = M[k].1 := by
    intro k h h'
    have e1 : (L.map (·.1))[k]? = (M.map (·.1))[k]? := by rw [he]
    rw [List.getElem?_map, List.getElem?_map, List.getElem?_eq_getElem h, List.getElem?_eq_getElem h'] at e1
    injection e1
  have HAT := Lib.hid hat
  have HVB := Lib.hid hvb
  have HUB := Lib.hid hub
  have HL := Lib.hid hl
  clear hat hvb hub he hl
  go_enter Tryd.func51, Tryd.ntmps51
  go_wp2
  go_loopw [5] (fun i wr => ∃ k : Nat, k ≤ L.length ∧ i = .int .i64 k ∧ Gr w wr) (fun i _ => L.length - (intOf i).toNat)
  case atStart => exact ⟨0, Nat.zero_le _, rfl, Gr.rfl' _⟩
  case round =>
    obtain ⟨k, hk, rfl, hgr⟩ := hrel
    by_cases hlt : k < L.length
    · have hlm : k < M.length := by have := HL.out; omega
      obtain ⟨b, o, rfl, hbb, hc⟩ := h3 k hlt
      obtain ⟨b', o', rfl, hbb', hc'⟩ := h3' k hlm
      obtain ⟨x, hx⟩ : ∃ x, x = L[k] := ⟨_, rfl⟩
      obtain ⟨y, hy⟩ : ∃ y, y = M[k] := ⟨_, rfl⟩
      obtain ⟨c0, c1, c2, c3, c4, c5⟩ := cells_fil (w := wr) (b := b) (o := o) (k := k) (x := x) (fun j u hu => (hgr.cell (p := ⟨b, o + k * 6 + j, none⟩) (Nat.lt_of_lt_of_le hbb.2 hhi)).trans (hc j u (by rw [← hx]; exact hu)))
      obtain ⟨d0, d1, d2, d3, d4, d5⟩ := cells_fil (w := wr) (b := b') (o := o') (k := k) (x := y) (fun j u hu => (hgr.cell (p := ⟨b', o' + k * 6 + j, none⟩) (Nat.lt_of_lt_of_le hbb'.2 hhi')).trans (hc' j u (by rw [← hy]; exact hu)))
      have hbx := HVB.out _ (List.getElem_mem hlt)
      have hby := HUB.out _ (List.getElem_mem hlm)
      rw [← hx] at hbx
      rw [← hy] at hby
      have hxy := HAT.out k hlt hlm
      rw [← hx, ← hy] at hxy
      obtain ⟨f, bx⟩ := x
      obtain ⟨g, by'⟩ := y
      simp only at hxy
      subst hxy
      have hgs := hgr.size
      have hcall := fun n => eqFile_any f bx by' (wr.drewN n) (SlR.drewN (SlR.below hbx hgr hhi) n) (SlR.drewN (SlR.below hby hgr hhi') n) (by show hi ≤ wr.heap.size; omega) (by show hi' ≤ wr.heap.size; omega)
      have HC := Lib.hid hcall
      clear hc h3 hc' h3' hx hy hbx hby hcall
      go_wp2
      go_region_law (go_simp
                     go_at_call 17
                     refine (HC.out 1).mono ?_
                     rintro e w2 ⟨rfl, hb2⟩)
      all_goals go_wp2
      all_goals go_roundw
      all_goals first
        | exact ⟨k + 1, by omega, by go_num, Gr.tr (below_drewN hgr 1) hb2⟩
        | (simp [intOf]; omega)
    · go_wp2
      go_ret
      exact ⟨rfl, hgr⟩
theorem eqTree_any {lo hi lo' hi' : Nat} (v u : Value) (L M : List FR) (w : World) (hv : FlR w lo hi v L) (hu : FlR w lo' hi' u M) (he : L.map (·.1) = M.map (·.1)) (hhi : hi ≤ w.heap.size) (hhi' : hi' ≤ w.heap.size) :
    Calls Tryd.prog 16 #[.agg #[v], .agg #[u]] w fun e w' => e = .returned (.bool true) ∧ Gr w w' := by
  have h := fun A B => eqFileS_any v u L M ((w.alloc A).alloc B) (hv.below (gr_al2 w A B) hhi) (hu.below (gr_al2 w A B) hhi') he (by simp; omega) (by simp; omega)
  have H := Lib.hid h
  clear h
  go_enter Tryd.func16, Tryd.ntmps16
  go_wp2_with fail
  refine (H.out _ _).mono ?_
  rintro e w2 ⟨rfl, hb2⟩
  go_wp2
  go_ret
  exact ⟨rfl, (gr_al2 _ _ _).tr hb2⟩
end Go.Proofs.YtomndnlpogikdaaDoor
