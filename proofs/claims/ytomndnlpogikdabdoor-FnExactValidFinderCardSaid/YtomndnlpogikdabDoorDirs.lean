/-
  Walks: sizes, copies, comparisons of directories and finders. Printed by dirs.py.
-/
import Derived.Test.YtomndnlpogikdabDoorOwnN
import Derived.Test.YtomndnlpogikdabDoorStrs
import Derived.Test.YtomndnlpogikdabDoorTreeE
namespace Imp
open Go Go.RowKit
structure Dr where
  root : Int
  pkg : ByteArray
  stamp : Int
  names : List ByteArray
abbrev DR := Dr × Value
def eDr (r : DR) : List Value := [.int .i64 r.1.root, .string r.1.pkg, .int .i64 r.1.stamp, r.2]
abbrev vD (r : DR) : Value := .agg #[.int .i64 r.1.root, .string r.1.pkg, .int .i64 r.1.stamp, r.2]
abbrev NmR (w : World) (lo hi : Nat) (r : DR) : Prop := SlR w lo hi 1 eS r.2 r.1.names
def DsR (w : World) (lo hi : Nat) (v : Value) (L : List DR) : Prop := SlR w lo hi 4 eDr v L ∧ ∀ r ∈ L, NmR w lo hi r
theorem DsR.below {w w' : World} {lo hi B : Nat} {v : Value} {L : List DR} (h : DsR w lo hi v L) (hb : Below B w w') (hB : hi ≤ B) : DsR w' lo hi v L :=
  ⟨h.1.below hb hB, fun r hr => SlR.below (h.2 r hr) hb hB⟩
abbrev OwnD (w : World) (base tD tS : Nat) (v : Value) (M : List DR) : Prop := OwnN w base tD 4 eDr tS 1 eS Dr.names v M
theorem OwnD.reads {w : World} {base tD tS : Nat} {v : Value} {M : List DR} (h : OwnD w base tD tS v M) : DsR w base w.heap.size v M :=
  ⟨h.1.reads (fun _ _ => rfl), fun r hr => (h.2.1 r hr).reads (fun _ _ => rfl)⟩
/-- A finder: its directories, its fills, its hits. -/
abbrev vFd (u : Value) (fills hits : Int) : Value := .agg #[u, .int .i64 fills, .int .i64 hits]
def okD (d : Dr) : Prop := okI d.root ∧ d.pkg.size ≤ maxLen ∧ okI d.stamp ∧ ∀ s ∈ d.names, s.size ≤ maxLen
def szD (d : Dr) : Nat := d.pkg.size + (d.names.length + totS d.names)
def totD : List DR → Nat
  | [] => 0
  | s :: r => szD s.1 + totD r
theorem totD_snoc : ∀ (l : List DR) (s : DR), totD (l ++ [s]) = totD l + szD s.1
  | [], s => by simp [totD]
  | x :: l, s => by rw [List.cons_append, totD, totD_snoc l s, totD]; omega
theorem totD_take {l : List DR} {k : Nat} (h : k < l.length) : totD (l.take (k + 1)) = totD (l.take k) + szD l[k].1 := by
  rw [List.take_succ_eq_append_getElem h, totD_snoc]
theorem totD_mem : ∀ {l : List DR} {s : DR}, s ∈ l → szD s.1 ≤ totD l
  | x :: l, s, h => by
    rw [List.mem_cons] at h
    rw [totD]
    rcases h with rfl | h
    · omega
    · have := totD_mem h; omega
theorem cells_dir {w : World} {b o k : Nat} {x : DR} (h : ∀ j u, (eDr x)[j]? = some u → w.cell? ⟨b, o + k * 4 + j, none⟩ = some u) :
    w.cell? ⟨b, o + k * 4, none⟩ = some (.int .i64 x.1.root) ∧ w.cell? ⟨b, o + k * 4 + 1, none⟩ = some (.string x.1.pkg) ∧ w.cell? ⟨b, o + k * 4 + 2, none⟩ = some (.int .i64 x.1.stamp) ∧ w.cell? ⟨b, o + k * 4 + 3, none⟩ = some x.2 :=
  ⟨h 0 _ rfl, h 1 _ rfl, h 2 _ rfl, h 3 _ rfl⟩
def dirAt (M : List DR) (j : Nat) : Value := ((M[j / 4]?).bind fun r => (eDr r)[j % 4]?).getD (.bool false)
theorem dirAt_get {M : List DR} {k : Nat} (h : k < M.length) (r : Nat) {u : Value} (hu : (eDr M[k])[r]? = some u) : dirAt M (k * 4 + r) = u := by
  have hr : r < 4 := (List.getElem?_eq_some_iff.1 hu).1
  unfold dirAt
  rw [show (k * 4 + r) / 4 = k by omega, show (k * 4 + r) % 4 = r by omega, List.getElem?_eq_getElem h]
  simp [hu]
theorem dirAt_old {M : List DR} {x : DR} {j : Nat} (h : j < M.length * 4) : dirAt (M ++ [x]) j = dirAt M j := by
  unfold dirAt
  rw [List.getElem?_append_left (by omega)]
theorem dirAt_new {M : List DR} {x : DR} (r : Nat) {u : Value} (hu : (eDr x)[r]? = some u) : dirAt (M ++ [x]) (M.length * 4 + r) = u :=
  dirAt_get (M := M ++ [x]) (k := M.length) (by simp) r (by simpa using hu)
theorem dir_row {M : List DR} {k j : Nat} {x : DR} (hk : M.length = k) (f : Nat → Value) :
    (if j = k * 4 + 3 then x.2 else if j = k * 4 + 2 then Value.int .i64 x.1.stamp else if j = k * 4 + 1 then Value.string x.1.pkg else if j = k * 4 then Value.int .i64 x.1.root else if j < k * 4 then dirAt M j else f j) =
    if j < (k + 1) * 4 then dirAt (M ++ [x]) j else f j := by
  subst hk
  by_cases h3 : j = M.length * 4 + 3
  · subst h3; rw [if_pos rfl, if_pos (by omega), dirAt_new 3 rfl]
  · rw [if_neg h3]
    by_cases h2 : j = M.length * 4 + 2
    · subst h2; rw [if_pos rfl, if_pos (by omega), dirAt_new 2 rfl]
    · rw [if_neg h2]
      by_cases h1 : j = M.length * 4 + 1
      · subst h1; rw [if_pos rfl, if_pos (by omega), dirAt_new 1 rfl]
      · rw [if_neg h1]
        by_cases h0 : j = M.length * 4
        · subst h0; rw [if_pos rfl, if_pos (by omega)]; exact (dirAt_new 0 rfl).symm
        · rw [if_neg h0]
          by_cases h : j < M.length * 4
          · rw [if_pos h, if_pos (by omega), dirAt_old h]
          · rw [if_neg h, if_neg (by omega)]
theorem heap_set4_other {W : World} {g b o0 o1 o2 o3 : Nat} {u0 u1 u2 u3 : Value} (h : b ≠ g) :
    ((((W.setCell ⟨g, o0, none⟩ u0).setCell ⟨g, o1, none⟩ u1).setCell ⟨g, o2, none⟩ u2).setCell ⟨g, o3, none⟩ u3).heap[b]? = W.heap[b]? := by
  rw [Below.heap_setCell _ _ _ _ h, Below.heap_setCell _ _ _ _ h, Below.heap_setCell _ _ _ _ h, Below.heap_setCell _ _ _ _ h]
theorem put4 {w : World} {b t : Nat} {a0 a1 a2 a3 : Value} (h : w.heap[b]? = some (.cells #[a0, a1, a2, a3] t (0, 0))) (v0 v1 v2 v3 : Value) :
    ((((w.setCell ⟨b, 0, none⟩ v0).setCell ⟨b, 1, none⟩ v1).setCell ⟨b, 2, none⟩ v2).setCell ⟨b, 3, none⟩ v3).heap[b]? = some (.cells #[v0, v1, v2, v3] t (0, 0)) ∧ w.grownBy ((((w.setCell ⟨b, 0, none⟩ v0).setCell ⟨b, 1, none⟩ v1).setCell ⟨b, 2, none⟩ v2).setCell ⟨b, 3, none⟩ v3) (some b) := by
  refine ⟨heap_setCell_same _ b 3 _ _ v3 (heap_setCell_same _ b 2 _ _ v2 (heap_setCell_same _ b 1 _ _ v1 (heap_setCell_same _ b 0 _ _ v0 h))), ?_⟩
  exact grown_tr (grown_tr (grown_tr (grown_set _ _ _ _) (grown_set _ _ _ _)) (grown_set _ _ _ _)) (grown_set _ _ _ _)
theorem rows4 {w : World} {b t : Nat} {a0 a1 a2 a3 : Value} (h : w.heap[b]? = some (.cells #[a0, a1, a2, a3] t (0, 0))) :
    (w.cell? ⟨b, 0, none⟩ = some a0 ∧ w.cell? ⟨b, 1, none⟩ = some a1 ∧ w.cell? ⟨b, 2, none⟩ = some a2 ∧ w.cell? ⟨b, 3, none⟩ = some a3) ∧
    (w.frozen? ⟨b, 0, none⟩ = false ∧ w.frozen? ⟨b, 1, none⟩ = false ∧ w.frozen? ⟨b, 2, none⟩ = false ∧ w.frozen? ⟨b, 3, none⟩ = false) :=
  ⟨⟨by rw [cell_of_row w b 0 _ _ _ h]; rfl, by rw [cell_of_row w b 1 _ _ _ h]; rfl, by rw [cell_of_row w b 2 _ _ _ h]; rfl, by rw [cell_of_row w b 3 _ _ _ h]; rfl⟩,
   ⟨frozen_of_row w b 0 _ _ h, frozen_of_row w b 1 _ _ h, frozen_of_row w b 2 _ _ h, frozen_of_row w b 3 _ _ h⟩⟩
theorem put3 {w : World} {b t : Nat} {a0 a1 a2 : Value} (h : w.heap[b]? = some (.cells #[a0, a1, a2] t (0, 0))) (v0 v1 v2 : Value) :
    (((w.setCell ⟨b, 0, none⟩ v0).setCell ⟨b, 1, none⟩ v1).setCell ⟨b, 2, none⟩ v2).heap[b]? = some (.cells #[v0, v1, v2] t (0, 0)) ∧ w.grownBy (((w.setCell ⟨b, 0, none⟩ v0).setCell ⟨b, 1, none⟩ v1).setCell ⟨b, 2, none⟩ v2) (some b) := by
  refine ⟨heap_setCell_same _ b 2 _ _ v2 (heap_setCell_same _ b 1 _ _ v1 (heap_setCell_same _ b 0 _ _ v0 h)), ?_⟩
  exact grown_tr (grown_tr (grown_set _ _ _ _) (grown_set _ _ _ _)) (grown_set _ _ _ _)
theorem set_other3 {W : World} {b b' o0 o1 o2 : Nat} {v0 v1 v2 : Value} {ob : Obj} (h : W.heap[b]? = some ob) (hne : b ≠ b') : (((W.setCell ⟨b', o0, none⟩ v0).setCell ⟨b', o1, none⟩ v1).setCell ⟨b', o2, none⟩ v2).heap[b]? = some ob :=
  (Below.heap_setCell _ _ _ b hne).trans ((Below.heap_setCell _ _ _ b hne).trans ((Below.heap_setCell _ _ _ b hne).trans h))
theorem rows3 {w : World} {b t : Nat} {a0 a1 a2 : Value} (h : w.heap[b]? = some (.cells #[a0, a1, a2] t (0, 0))) :
    (w.cell? ⟨b, 0, none⟩ = some a0 ∧ w.cell? ⟨b, 1, none⟩ = some a1 ∧ w.cell? ⟨b, 2, none⟩ = some a2) ∧
    (w.frozen? ⟨b, 0, none⟩ = false ∧ w.frozen? ⟨b, 1, none⟩ = false ∧ w.frozen? ⟨b, 2, none⟩ = false) :=
  ⟨⟨by rw [cell_of_row w b 0 _ _ _ h]; rfl, by rw [cell_of_row w b 1 _ _ _ h]; rfl, by rw [cell_of_row w b 2 _ _ _ h]; rfl⟩,
   ⟨frozen_of_row w b 0 _ _ h, frozen_of_row w b 1 _ _ h, frozen_of_row w b 2 _ _ h⟩⟩
end Imp
namespace Go.Proofs.YtomndnlpogikdabDoor
open Go Go.RowKit Imp
set_option linter.unusedVariables false
set_option linter.unusedSimpArgs false
theorem szDir_any {lo hi : Nat} (r : DR) (left : Int) (w : World) (hb : NmR w lo hi r) (hhi : hi ≤ w.heap.size) (hs : okD r.1) (h0 : 0 ≤ left) (h1 : left ≤ 1048576) :
    Calls Tryd.prog 34 #[vD r, .int .i64 left] w fun e w' => ∃ q : Int, e = .returned (.int .i64 q) ∧ (0 ≤ q → q + szD r.1 = left) ∧ q ≤ left ∧ Gr w w' := by
  obtain ⟨⟨root, pkg, stamp, names⟩, bv⟩ := r
  obtain ⟨_, hm, _, hbs⟩ := hs
  simp only [szD, NmR] at *
  unfold maxLen at hm
  have hw1 : IntKind.i64.wrap (left - (pkg.size : Int)) = left - (pkg.size : Int) := IntWalk.i64_in _ (by omega)
  by_cases hneg : left - (pkg.size : Int) < 0
  · go_enter Tryd.func34, Tryd.ntmps34
    go_wp2
    go_ret
    exact ⟨-1, rfl, by omega, by omega, gr_al _ _⟩
  · have hsz := fun o => szStringS_any bv names (left - (pkg.size : Int)) (w.alloc o) (SlR.below hb (gr_al w o) hhi) hbs (by omega) (by omega)
    have HSZ := Lib.hid hsz
    clear hsz
    go_enter Tryd.func34, Tryd.ntmps34
    go_wp2_with fail
    refine (HSZ.out _).mono ?_
    rintro e w2 ⟨r2, rfl, hr2, hrl2, rfl⟩
    by_cases hneg3 : r2 < 0
    · go_wp2
      go_ret
      exact ⟨-1, rfl, by omega, by omega, gr_al _ _⟩
    · go_wp2
      go_ret
      exact ⟨r2, rfl, by omega, by omega, gr_al _ _⟩
theorem szDirS_any {lo hi : Nat} (v : Value) (L : List DR) (left : Int) (w : World) (hv0 : DsR w lo hi v L) (hhi : hi ≤ w.heap.size) (hs : ∀ s ∈ L, okD s.1) (h0 : 0 ≤ left) (h1 : left ≤ 1048576) :
    Calls Tryd.prog 17 #[v, .int .i64 left] w fun e w' => ∃ r : Int, e = .returned (.int .i64 r) ∧ (0 ≤ r → r + L.length + totD L = left) ∧ r ≤ left ∧ Gr w w' := by
  obtain ⟨hv, hbod⟩ := hv0
  obtain ⟨a, c, rfl, hc1, hc2, h3⟩ := hv
  unfold maxLen at hc2
  have hw1 : IntKind.i64.wrap (left - (L.length : Int)) = left - (L.length : Int) := IntWalk.i64_in _ (by omega)
  have HB := Lib.hid hbod
  clear hbod
  by_cases hneg : left - (L.length : Int) < 0
  · go_enter Tryd.func17, Tryd.ntmps17
    go_wp2
    go_ret
    exact ⟨-1, rfl, by omega, by omega, Gr.rfl' _⟩
  · go_enter Tryd.func17, Tryd.ntmps17
    go_wp2
    go_loopw [1, 5] (fun l i wr => ∃ k : Nat, ∃ r : Int, k ≤ L.length ∧ i = .int .i64 k ∧ l = .int .i64 r ∧ 0 ≤ r ∧ r + L.length + totD (L.take k) = left ∧ Gr w wr) (fun _ i _ => L.length - (intOf i).toNat)
    case atStart => exact ⟨0, _, Nat.zero_le _, rfl, rfl, by omega, by simp [totD], Gr.rfl' _⟩
    case round =>
      obtain ⟨k, r, hk, rfl, rfl, hr0, hr, hgr⟩ := hrel
      have HR := Lib.hid hr
      have hrl : r ≤ 1048576 := by omega
      clear hr
      by_cases hlt : k < L.length
      · obtain ⟨b, o, rfl, hbb, hc⟩ := h3 k hlt
        obtain ⟨x, hx⟩ : ∃ x, x = L[k] := ⟨_, rfl⟩
        obtain ⟨c0, c1, c2, c3⟩ := cells_dir (w := wr) (b := b) (o := o) (k := k) (x := x) (fun j u hu => (hgr.cell (p := ⟨b, o + k * 4 + j, none⟩) (Nat.lt_of_lt_of_le hbb.2 hhi)).trans (hc j u (by rw [← hx]; exact hu)))
        have hxs := hs _ (List.getElem_mem hlt)
        rw [← hx] at hxs
        have hbx := HB.out _ (List.getElem_mem hlt)
        rw [← hx] at hbx
        have hgs := hgr.size
        have hsz := szDir_any x r wr (SlR.below hbx hgr hhi) (by omega) hxs hr0 (by omega)
        have ht := totD_take hlt
        rw [← hx] at ht
        have HT := Lib.hid ht
        have HSZ := Lib.hid hsz
        clear hc h3 hx ht hs hsz hbx hxs
        go_wp2_with fail
        refine HSZ.out.mono ?_
        rintro e w2 ⟨r2, rfl, hr2, hrl2, hb2⟩
        by_cases hneg2 : r2 < 0
        · go_wp2
          go_ret
          exact ⟨-1, rfl, by omega, by omega, hgr.tr hb2⟩
        · go_wp2
          go_roundw
          case rel => exact ⟨k + 1, r2, by omega, by go_num, rfl, by omega, by have := HR.out; have := hr2 (by omega); rw [HT.out]; omega, hgr.tr hb2⟩
          case measure => simp [intOf]; omega
      · go_wp2
        go_ret
        have := HR.out
        rw [List.take_of_length_le (by omega)] at this
        exact ⟨r, rfl, fun _ => this, by omega, hgr⟩
theorem szFinder_any {lo hi : Nat} (v : Value) (L : List DR) (fills hits : Int) (left : Int) (w : World) (hv : DsR w lo hi v L) (hhi : hi ≤ w.heap.size) (hs : ∀ s ∈ L, okD s.1) (h0 : 0 ≤ left) (h1 : left ≤ 1048576) :
    Calls Tryd.prog 6 #[vFd v fills hits, .int .i64 left] w fun e w' => ∃ r : Int, e = .returned (.int .i64 r) ∧ (0 ≤ r → r + L.length + totD L = left) ∧ r ≤ left ∧ Gr w w' := by
  have h := fun o => szDirS_any v L left (w.alloc o) (hv.below (gr_al w o) hhi) (by simp; omega) hs h0 h1
  have H := Lib.hid h
  clear h
  go_enter Tryd.func6, Tryd.ntmps6
  go_wp2_with fail
  refine (H.out _).mono ?_
  rintro e w2 ⟨r2, rfl, hr2, hrl2, hb2⟩
  by_cases hneg3 : r2 < 0
  · go_wp2
    go_ret
    exact ⟨-1, rfl, by omega, by omega, (gr_al _ _).tr hb2⟩
  · go_wp2
    go_ret
    exact ⟨r2, rfl, hr2, hrl2, (gr_al _ _).tr hb2⟩
theorem toStringS_own {lo hi : Nat} (v : Value) (L : List ByteArray) (w : World) (hv : SlR w lo hi 1 eS v L) (hhi : hi ≤ w.heap.size) (hn : L.length ≤ 1048576) :
    Calls Tryd.prog 49 #[v] w fun e w' => ∃ u, e = .returned u ∧ Own w' w.heap.size 9 1 eS u L ∧ Below w.heap.size w w' := by
  have hv0 := hv
  obtain ⟨a, c, rfl, h1, h2, h3⟩ := hv
  unfold maxLen at h2
  have hmk := run_make_row' (P := Tryd.prog) 42 9 (.string ByteArray.empty) 16 Tryd.underlying42 toStringS_info rfl .i64 .i64 L.length (by omega) (by omega)
  go_enter Tryd.func49, Tryd.ntmps49
  go_wp2
  go_loopw [4] (fun i wr => ∃ k : Nat, k ≤ L.length ∧ i = .int .i64 k ∧ wr.rowIs w.heap.size 9 L.length (fun j => if j < k then .string (L.getD j ByteArray.empty) else .string ByteArray.empty) ∧ Below w.heap.size w wr)
    (fun i _ => L.length - (intOf i).toNat)
  case atStart => exact ⟨0, Nat.zero_le _, rfl, (World.rowIs_made w _ _ _).congr (fun j _ => by simp), (Below.refl _ _).alloc (Nat.le_refl _) _⟩
  case round =>
    obtain ⟨k, hk, rfl, hrow, hbel⟩ := hrel
    have HR := Lib.hid hrow
    clear hmk
    by_cases hlt : k < L.length
    · obtain ⟨b, o, rfl, hb, hc⟩ := h3 k hlt
      obtain ⟨x, hx⟩ : ∃ x, x = L[k] := ⟨_, rfl⟩
      have c0 : wr.cell? ⟨b, o + k, none⟩ = some (.string x) := (hbel.cell (p := ⟨b, o + k, none⟩) (Nat.lt_of_lt_of_le hb.2 hhi)).trans (by rw [hx]; have := hc 0 _ rfl; simpa using this)
      have cB := hrow.cell hlt
      have fB := hrow.frozen k
      have hset := hrow.set k (.string x)
      have HS := Lib.hid hset
      have HX := Lib.hid hx
      clear hc h3 hrow hset hx
      go_wp2
      go_roundw
      case rel =>
        refine ⟨k + 1, by omega, by go_num, HS.out.congr (fun j hj => ?_), hbel.setCell (Nat.le_refl _) _⟩
        by_cases e : j = k
        · subst e; simp [HX.out, List.getElem?_eq_getElem hlt]
        · simp only [if_neg e]
          by_cases h : j < k
          · rw [if_pos h, if_pos (by omega)]
          · rw [if_neg h, if_neg (by omega)]
      case measure => simp [intOf]; omega
    · go_wp2
      go_ret
      have hkl : k = L.length := by omega
      subst hkl
      refine ⟨_, rfl, own_of_rowIs HR.out (Nat.le_refl _) (Nat.le_refl _) (by unfold maxLen; omega) rfl (fun _ _ => rfl) (fun i hi => ?_), hbel⟩
      simp [eS, hi]
set_option maxHeartbeats 1600000 in
theorem toDir_own {lo hi : Nat} (r : DR) (w : World) (hb : NmR w lo hi r) (hhi : hi ≤ w.heap.size) (hn : r.1.names.length ≤ 1048576) :
    Calls Tryd.prog 36 #[vD r] w fun e w' => ∃ u, e = .returned (vD (r.1, u)) ∧ Own w' (w.heap.size + 3) 9 1 eS u r.1.names ∧ Gr w w' := by
  obtain ⟨⟨root, pkg, stamp, names⟩, bv⟩ := r
  simp only [NmR] at hb hn
  have h := fun A B C => toStringS_own bv names (((w.alloc A).alloc B).alloc C) (SlR.below hb (gr_alloc3 w A B C) hhi) (by simp; omega) hn
  have H := Lib.hid h
  clear h
  go_enter Tryd.func36, Tryd.ntmps36
  go_wp2_with fail
  refine (H.out _ _ _).mono ?_
  rintro e w2 ⟨u, rfl, ho, hb2⟩
  obtain ⟨ua, uc, rfl, _, _⟩ := ho.form
  have B1 := hb2.block (w.heap.size + 1) (by simp <;> omega)
  have B2 := hb2.block (w.heap.size + 1 + 1) (by simp <;> omega)
  rw [heap_alloc3_mid] at B1
  rw [heap_alloc3_new] at B2
  have hsz2 := hb2.size
  simp at hsz2
  obtain ⟨⟨x0, x1, x2, x3⟩, xf0, xf1, xf2, xf3⟩ := rows4 B1
  obtain ⟨⟨y0, y1, y2, y3⟩, yf0, yf1, yf2, yf3⟩ := rows4 B2
  have HB1 := Lib.hid B1
  have HB2 := Lib.hid B2
  clear B1 B2
  go_wp2
  have hbase : Gr w w2 := Gr.tr (gr_alloc3 w _ _ _) hb2
  have B3 : (w2.setCell ⟨w.heap.size + 1 + 1, 3, none⟩ (.slice ua names.length uc)).heap[w.heap.size + 1]? = some _ := (Below.heap_setCell w2 _ _ _ (by show w.heap.size + 1 ≠ w.heap.size + 1 + 1; omega)).trans HB1.out
  have hput := put4 B3 (.int .i64 root) (.string pkg) (.int .i64 stamp) (.slice ua names.length uc)
  refine bodyPost_ret (results_cell_row rfl _ _ (w.heap.size + 1) 44 _ (0, 0) _ rfl hput.1 Tryd.underlying44 rfl (by kernel_rfl)) rfl ?_
  have hset : w2.grownBy (w2.setCell ⟨w.heap.size + 1 + 1, 3, none⟩ (.slice ua names.length uc)) (some (w.heap.size + 1 + 1)) := grown_set _ _ _ _
  refine ⟨.slice ua names.length uc, rfl, ?_, ?_⟩
  · refine (ho.mono (by simp)).keep (fun b hb => ?_)
    have hbb := ho.block b hb
    simp at hbb
    exact (hput.2.block b (by simp [World.setCell]; omega) (by intro q; injection q with q; omega)).trans (hset.block b hbb.2 (by intro q; injection q with q; omega))
  · exact (Below.grown hbase hset hbase.size (fun b hb => by injection hb with hb; omega)).grown hput.2 (by simp [World.setCell]; omega) (fun b hb => by injection hb with hb; omega)
def zDr : Value := .agg #[.int .i64 0, .string ByteArray.empty, .int .i64 0, .slice none 0 0]
theorem toDirS_info : (Tryd.prog.info? 44).map (fun i => (i.zero, i.size, i.bytes)) = some (some zDr, 4, 56) := by kernel_rfl
theorem run_make_dir (n : Nat) (h : n ≤ 1048576) (w : World) :
    (Instr.makeSlice 27 (.int .i64 (n : Int)) (.int .i64 (n : Int))).run Tryd.prog w = .ok (.slice (some ⟨w.heap.size, 0, none⟩) n n) (w.alloc (.cells (madeCells zDr.cells (n * 4)) 44)) := by
  obtain ⟨i, h0, h1, h2, h3⟩ := info_parts toDirS_info
  have := run_make (P := Tryd.prog) w 27 44 i zDr Tryd.underlying27 h0 h1 .i64 .i64 n n (by omega) (Int.le_refl _) (by rw [h3]; omega) (by omega)
  rw [h2] at this
  simpa using this
set_option maxHeartbeats 1600000 in
theorem toDirS_own {lo hi : Nat} (v : Value) (L : List DR) (w : World) (hv0 : DsR w lo hi v L) (hhi : hi ≤ w.heap.size) (hn : L.length ≤ 1048576) (hbn : ∀ r ∈ L, r.1.names.length ≤ 1048576) :
    Calls Tryd.prog 19 #[v] w fun e w' => ∃ u, e = .returned u ∧ ∃ M : List DR, M.map (·.1) = L.map (·.1) ∧ OwnD w' w.heap.size 44 9 u M ∧ Gr w w' := by
  obtain ⟨hv, hbod⟩ := hv0
  obtain ⟨a, c, rfl, h1, h2, h3⟩ := hv
  unfold maxLen at h2
  have HB := Lib.hid hbod
  have HN := Lib.hid hbn
  clear hbod hbn
  have hmk := run_make_dir L.length hn w
  have hst : (w.alloc (.cells (madeCells zDr.cells (L.length * 4)) 44)).rowIs w.heap.size 44 (L.length * 4) (fun j => zDr.cells[j % 4]!) := by
    have := World.rowIs_alloc w (madeCells zDr.cells (L.length * 4)) 44 (fun j => zDr.cells[j % 4]!) (fun i hi => by rw [size_madeCells] at hi; simp [madeCells, hi, zDr, Value.cells])
    rw [size_madeCells] at this; exact this
  generalize (madeCells zDr.cells (L.length * 4)) = C at hmk hst
  have HST := Lib.hid hst
  clear hst
  go_enter Tryd.func19, Tryd.ntmps19
  go_wp2
  go_loopw [4] (fun i wr => ∃ k : Nat, ∃ M : List DR, k ≤ L.length ∧ i = .int .i64 k ∧ M.length = k ∧ M.map (·.1) = (L.map (·.1)).take k ∧ wr.rowIs w.heap.size 44 (L.length * 4) (fun j => if j < k * 4 then dirAt M j else zDr.cells[j % 4]!) ∧
      (∀ r ∈ M, Own wr (w.heap.size + 1) 9 1 eS r.2 r.1.names) ∧ ApartN M ∧ Below w.heap.size w wr)
    (fun i _ => L.length - (intOf i).toNat)
  case atStart => exact ⟨0, [], Nat.zero_le _, rfl, rfl, by simp, HST.out.congr (fun j _ => by simp), by simp, List.Pairwise.nil, (Below.refl _ _).alloc (Nat.le_refl _) _⟩
  case round =>
    obtain ⟨k, M, hk, rfl, hMl, hMm, hrow, hMo, hMa, hbel⟩ := hrel
    have HR := Lib.hid hrow
    have HMm := Lib.hid hMm
    have HMo := Lib.hid hMo
    have HMa := Lib.hid hMa
    clear hmk hMm hMo hMa
    have hws := HR.out.lt
    by_cases hlt : k < L.length
    · obtain ⟨b, o, rfl, hb, hc⟩ := h3 k hlt
      obtain ⟨x, hx⟩ : ∃ x, x = L[k] := ⟨_, rfl⟩
      obtain ⟨c0, c1, c2, c3⟩ := cells_dir (w := wr) (b := b) (o := o) (k := k) (x := x) (fun j u hu => (hbel.cell (p := ⟨b, o + k * 4 + j, none⟩) (Nat.lt_of_lt_of_le hb.2 hhi)).trans (hc j u (by rw [← hx]; exact hu)))
      have hbx := HB.out _ (List.getElem_mem hlt)
      have hnx := HN.out _ (List.getElem_mem hlt)
      rw [← hx] at hbx hnx
      have hto := toDir_own x wr (SlR.below hbx hbel hhi) (Nat.le_trans hhi hbel.size) hnx
      have HTO := Lib.hid hto
      have HX := Lib.hid hx
      clear hc h3 hrow hx hto hbx
      go_wp2_with (go_at_call 36
                   refine HTO.out.mono ?_
                   rintro e w2 ⟨u, rfl, ho, hb2⟩
                   have r2 := HR.out.of_block (hb2.block w.heap.size HR.out.lt)
                   have e0 := r2.cell (i := k * 4) (by omega)
                   have e1 := r2.cell (i := k * 4 + 1) (by omega)
                   have e2 := r2.cell (i := k * 4 + 2) (by omega)
                   have e3 := r2.cell (i := k * 4 + 3) (by omega)
                   have f0 := r2.frozen (k * 4)
                   have f1 := r2.frozen (k * 4 + 1)
                   have f2 := r2.frozen (k * 4 + 2)
                   have f3 := r2.frozen (k * 4 + 3)
                   obtain ⟨ua, uc, rfl, _, _⟩ := ho.form
                   have R2 := Lib.hid r2
                   have HO := Lib.hid ho
                   clear r2 ho)
      go_roundw
      case rel =>
        have hg2 : Gr w w2 := Gr.tr hbel hb2
        refine ⟨k + 1, M ++ [(x.1, .slice ua x.1.names.length uc)], by omega, by go_num, by simp [hMl], ?_, ((((R2.out.set _ _).set _ _).set _ _).set _ _).congr (fun j hj => dir_row (x := (x.1, .slice ua x.1.names.length uc)) hMl (fun j => zDr.cells[j % 4]!)), ?_, ?_, (((hg2.setCell (Nat.le_refl _) _).setCell (Nat.le_refl _) _).setCell (Nat.le_refl _) _).setCell (Nat.le_refl _) _⟩
        · rw [List.map_append, HMm.out, List.take_succ_eq_append_getElem (by rw [List.length_map]; exact hlt), List.getElem_map, HX.out]; rfl
        · intro r hr
          rw [List.mem_append] at hr
          rcases hr with hr | hr
          · have h := HMo.out r hr
            refine (h.keep (w' := w2) (fun b hb => hb2.block b (h.block b hb).2)).keep (fun b hb => heap_set4_other ?_)
            have := (h.block b hb).1; omega
          · rw [List.mem_singleton] at hr
            subst hr
            refine (HO.out.mono (by omega)).keep (fun b hb => heap_set4_other ?_)
            have := (HO.out.block b hb).1; omega
        · refine List.pairwise_append.2 ⟨HMa.out, List.pairwise_singleton _ _, fun a ha b hb i hi hj => ?_⟩
          rw [List.mem_singleton] at hb
          subst hb
          have h5 := ((HMo.out a ha).block i hi).2
          have h6 := (HO.out.block i hj).1
          omega
      case measure => simp [intOf]; omega
    · go_wp2
      go_ret
      have hkl : k = L.length := by omega
      refine ⟨_, rfl, M, ?_, ⟨?_, fun r hr => (HMo.out r hr).mono (by omega), HMa.out, fun r hr b hb => ?_⟩, hbel⟩
      · rw [HMm.out, List.take_of_length_le (by rw [List.length_map]; omega)]
      · have hML : L.length = M.length := by omega
        rw [hML]
        have hr := HR.out
        rw [hML] at hr
        exact own_of_rows hr (Nat.le_refl _) (by unfold maxLen; omega) rfl (by decide) (fun _ _ => rfl) (fun i hi j u hu => by
          have hj : j < 4 := (List.getElem?_eq_some_iff.1 hu).1
          rw [if_pos (by omega), dirAt_get hi j hu])
      · have := ((HMo.out r hr).block b hb).1
        simp [Value.ownBlock]
        omega
theorem toFinder_own {lo hi : Nat} (v : Value) (L : List DR) (fills hits : Int) (w : World) (hv : DsR w lo hi v L) (hhi : hi ≤ w.heap.size) (hn : L.length ≤ 1048576) (hbn : ∀ r ∈ L, r.1.names.length ≤ 1048576) :
    Calls Tryd.prog 8 #[vFd v fills hits] w fun e w' => ∃ u, e = .returned (vFd u fills hits) ∧ ∃ M : List DR, M.map (·.1) = L.map (·.1) ∧ OwnD w' (w.heap.size + 3) 44 9 u M ∧ Gr w w' := by
  have h := fun A B C => toDirS_own v L (((w.alloc A).alloc B).alloc C) (hv.below (gr_alloc3 w A B C) hhi) (by simp; omega) hn hbn
  have H := Lib.hid h
  clear h hbn
  go_enter Tryd.func8, Tryd.ntmps8
  go_wp2_with fail
  refine (H.out _ _ _).mono ?_
  rintro e w2 ⟨u, rfl, M, hM, ho, hb2⟩
  obtain ⟨ua, uc, hu, _, _⟩ := ho.1.form
  have B0 := hb2.block w.heap.size (by simp <;> omega)
  have B1 := hb2.block (w.heap.size + 1) (by simp <;> omega)
  have B2 := hb2.block (w.heap.size + 1 + 1) (by simp <;> omega)
  rw [Below.heap_alloc _ _ w.heap.size (by simp <;> omega), Below.heap_alloc _ _ w.heap.size (by simp <;> omega), heap_alloc_new] at B0
  rw [heap_alloc3_mid] at B1
  rw [heap_alloc3_new] at B2
  have hsz2 := hb2.size
  simp at hsz2
  obtain ⟨⟨z0, z1, z2⟩, _⟩ := rows3 B0
  obtain ⟨⟨x0, x1, x2⟩, xf0, xf1, xf2⟩ := rows3 B1
  obtain ⟨⟨y0, y1, y2⟩, yf0, yf1, yf2⟩ := rows3 B2
  have HB1 := Lib.hid B1
  have HM := Lib.hid hM
  have HO := Lib.hid ho
  clear B0 B1 B2 hM ho
  subst hu
  have hbase : Gr w w2 := Gr.tr (gr_alloc3 w _ _ _) hb2
  go_wp2
  have B3 : (((w2.setCell ⟨w.heap.size + 1 + 1, 0, none⟩ (.slice ua M.length uc)).setCell ⟨w.heap.size + 1 + 1, 1, none⟩ (.int .i64 fills)).setCell ⟨w.heap.size + 1 + 1, 2, none⟩ (.int .i64 hits)).heap[w.heap.size + 1]? = some _ :=
    set_other3 HB1.out (by omega)
  have hput := put3 B3 (.slice ua M.length uc) (.int .i64 fills) (.int .i64 hits)
  refine bodyPost_ret (results_cell_row rfl _ _ (w.heap.size + 1) 29 _ (0, 0) _ rfl hput.1 Tryd.underlying29 rfl (by kernel_rfl)) rfl ?_
  have hset : w2.grownBy (((w2.setCell ⟨w.heap.size + 1 + 1, 0, none⟩ (.slice ua M.length uc)).setCell ⟨w.heap.size + 1 + 1, 1, none⟩ (.int .i64 fills)).setCell ⟨w.heap.size + 1 + 1, 2, none⟩ (.int .i64 hits)) (some (w.heap.size + 1 + 1)) :=
    grown_tr (grown_tr (grown_set _ _ _ _) (grown_set _ _ _ _)) (grown_set _ _ _ _)
  refine ⟨.slice ua M.length uc, rfl, M, HM.out, ?_, ?_⟩
  · refine OwnN.chg ((HO.out.mono (by simp)).chg (ChgN.of_grown hset (p := fun b => b = w.heap.size + 1 + 1) (fun i q => by injection q with q; exact q.symm)) ?_) (ChgN.of_grown hput.2 (p := fun b => b = w.heap.size + 1) (fun i q => by injection q with q; exact q.symm)) ?_
    · intro b hb q
      have := (HO.out.block b hb).1
      simp at this
      omega
    · intro b hb q
      have := (HO.out.block b hb).1
      simp at this
      omega
  · exact (Below.grown hbase hset hbase.size (fun b hb => by injection hb with hb; omega)).grown hput.2 (by simp [World.setCell]; omega) (fun b hb => by injection hb with hb; omega)
theorem eqDir_any {lo hi lo' hi' : Nat} (d : Dr) (u v : Value) (w : World) (hu : SlR w lo hi 1 eS u d.names) (hv : SlR w lo' hi' 1 eS v d.names) (hhi : hi ≤ w.heap.size) (hhi' : hi' ≤ w.heap.size) :
    Calls Tryd.prog 38 #[vD (d, u), vD (d, v)] w fun e w' => e = .returned (.bool true) ∧ Gr w w' := by
  have h : ∀ o o', Calls Tryd.prog 52 #[u, v] ((w.alloc o).alloc o') fun e w' => e = .returned (.bool true) ∧ Gr ((w.alloc o).alloc o') w' := fun o o' =>
    (eqStringS_any u v d.names d.names ((w.alloc o).alloc o') (SlR.below hu (gr_al2 w o o') hhi) (SlR.below hv (gr_al2 w o o') hhi')).mono (by
      rintro e w' ⟨rfl, n, rfl⟩
      exact ⟨by simp, below_drewN (Gr.rfl' _) n⟩)
  have H := Lib.hid h
  clear h
  obtain ⟨root, pkg, stamp, names⟩ := d
  obtain ⟨ua, uc, rfl, _, _⟩ := hu.form
  obtain ⟨va, vc, rfl, _, _⟩ := hv.form
  have q2 : (pkg.toList != pkg.toList) = false := by simp
  have q4 : (root != root) = false := by simp
  have q6 : (stamp != stamp) = false := by simp
  go_enter Tryd.func38, Tryd.ntmps38
  go_wp2_with fail
  refine (H.out _ _).mono ?_
  rintro e w2 ⟨rfl, hb2⟩
  go_wp2
  go_ret
  exact ⟨rfl, (gr_al2 _ _ _).tr hb2⟩
theorem eqDirS_any {lo hi lo' hi' : Nat} (v u : Value) (L M : List DR) (w : World) (hv0 : DsR w lo hi v L) (hu0 : DsR w lo' hi' u M) (he : L.map (·.1) = M.map (·.1)) (hhi : hi ≤ w.heap.size) (hhi' : hi' ≤ w.heap.size) :
    Calls Tryd.prog 22 #[v, u] w fun e w' => e = .returned (.bool true) ∧ Gr w w' := by
  obtain ⟨hv, hvb⟩ := hv0
  obtain ⟨hu, hub⟩ := hu0
  obtain ⟨a, c, rfl, h1, h2, h3⟩ := hv
  obtain ⟨a', c', rfl, h1', h2', h3'⟩ := hu
  unfold maxLen at h2 h2'
  have hl : L.length = M.length := by have := congrArg List.length he; simpa using this
  have hl0 : ((L.length : Int) != (M.length : Int)) = false := by simp [hl]
  have hat : ∀ k (h : k < L.length) (h' : k < M.length), L[k].1 = M[k].1 := by
    intro k h h'
    have e1 : (L.map (·.1))[k]? = (M.map (·.1))[k]? := by rw [he]
    rw [List.getElem?_map, List.getElem?_map, List.getElem?_eq_getElem h, List.getElem?_eq_getElem h'] at e1
    injection e1
  have HAT := Lib.hid hat
  have HVB := Lib.hid hvb
  have HUB := Lib.hid hub
  have HL := Lib.hid hl
  clear hat hvb hub he hl
  go_enter Tryd.func22, Tryd.ntmps22
  go_wp2
  go_loopw [5] (fun i wr => ∃ k : Nat, k ≤ L.length ∧ i = .int .i64 k ∧ Gr w wr) (fun i _ => L.length - (intOf i).toNat)
  case atStart => exact ⟨0, Nat.zero_le _, rfl, Gr.rfl' _⟩
  case round =>
    obtain ⟨k, hk, rfl, hgr⟩ := hrel
    by_cases hlt : k < L.length
    · have hlm : k < M.length := by have := HL.out; omega
      have hki : (k : Int) < (L.length : Int) := by omega
      have hkm : (k : Int) < (M.length : Int) := by omega
      obtain ⟨b, o, rfl, hbb, hc⟩ := h3 k hlt
      obtain ⟨b', o', rfl, hbb', hc'⟩ := h3' k hlm
      obtain ⟨x, hx⟩ : ∃ x, x = L[k] := ⟨_, rfl⟩
      obtain ⟨y, hy⟩ : ∃ y, y = M[k] := ⟨_, rfl⟩
      have cc := fun W (h : Gr w W) => cells_dir (w := W) (b := b) (o := o) (k := k) (x := x) (fun j u hu => (h.cell (p := ⟨b, o + k * 4 + j, none⟩) (Nat.lt_of_lt_of_le hbb.2 hhi)).trans (hc j u (by rw [← hx]; exact hu)))
      have dd := fun W (h : Gr w W) => cells_dir (w := W) (b := b') (o := o') (k := k) (x := y) (fun j u hu => (h.cell (p := ⟨b', o' + k * 4 + j, none⟩) (Nat.lt_of_lt_of_le hbb'.2 hhi')).trans (hc' j u (by rw [← hy]; exact hu)))
      have hbx := HVB.out _ (List.getElem_mem hlt)
      have hby := HUB.out _ (List.getElem_mem hlm)
      rw [← hx] at hbx
      rw [← hy] at hby
      have hxy := HAT.out k hlt hlm
      rw [← hx, ← hy] at hxy
      obtain ⟨f, bx⟩ := x
      obtain ⟨g, by'⟩ := y
      simp only at hxy
      subst hxy
      have hcall := fun W (h : Gr w W) => eqDir_any f bx by' W (SlR.below hbx h hhi) (SlR.below hby h hhi') (Nat.le_trans hhi h.size) (Nat.le_trans hhi' h.size)
      simp only at cc dd
      have hall := fun W (h : Gr w W) => And.intro h (And.intro (cc W h) (dd W h))
      have HC := Lib.hid hcall
      have HALL := Lib.hid hall
      clear hc h3 hc' h3' hx hy hbx hby hcall cc dd hall
      go_wp2
      refine wp_region_held_drew (S := (fun W => Gr w W ∧ (W.cell? ⟨b, o + k * 4, none⟩ = some (.int .i64 f.root) ∧ W.cell? ⟨b, o + k * 4 + 1, none⟩ = some (.string f.pkg) ∧ W.cell? ⟨b, o + k * 4 + 2, none⟩ = some (.int .i64 f.stamp) ∧ W.cell? ⟨b, o + k * 4 + 3, none⟩ = some bx) ∧ (W.cell? ⟨b', o' + k * 4, none⟩ = some (.int .i64 f.root) ∧ W.cell? ⟨b', o' + k * 4 + 1, none⟩ = some (.string f.pkg) ∧ W.cell? ⟨b', o' + k * 4 + 2, none⟩ = some (.int .i64 f.stamp) ∧ W.cell? ⟨b', o' + k * 4 + 3, none⟩ = some by'))) (by kernel_rfl) (HALL.out _ (below_drewN hgr 1)) (fun hS0 => ?_)
      refine wpAnyH_take (i := 0) (v := ?_) rfl (by kernel_rfl) (by kernel_rfl) (by kernel_rfl) (fun _ _ _ h => h) (Or.inl ⟨by rfl, ?_⟩) hS0 ?_
      rotate_left
      · (intro W hSw; (try dsimp only at hSw); go_simp; try (with_reducible rfl))
      try simp only [Act.put, List.getElem_toArray, List.getElem_cons_succ, List.getElem_cons_zero, List.setIfInBounds_toArray, List.set_cons_zero, List.set_cons_succ]
      refine wpAnyH_take (i := 1) (v := ?_) rfl (by kernel_rfl) (by kernel_rfl) (by kernel_rfl) (fun _ _ _ h => h) (Or.inl ⟨by rfl, ?_⟩) hS0 ?_
      rotate_left
      · (intro W hSw; (try dsimp only at hSw); go_simp; try (with_reducible rfl))
      try simp only [Act.put, List.getElem_toArray, List.getElem_cons_succ, List.getElem_cons_zero, List.setIfInBounds_toArray, List.set_cons_zero, List.set_cons_succ]
      refine wpAnyH_take (i := 2) (v := ?_) rfl (by kernel_rfl) (by kernel_rfl) (by kernel_rfl) (fun _ _ _ h => h) (Or.inl ⟨by rfl, ?_⟩) hS0 ?_
      rotate_left
      · (intro W hSw; (try dsimp only at hSw); go_simp; try (with_reducible rfl))
      try simp only [Act.put, List.getElem_toArray, List.getElem_cons_succ, List.getElem_cons_zero, List.setIfInBounds_toArray, List.set_cons_zero, List.set_cons_succ]
      refine wpAnyH_take (i := 3) (v := ?_) rfl (by kernel_rfl) (by kernel_rfl) (by kernel_rfl) (fun _ _ _ h => h) (Or.inl ⟨by rfl, ?_⟩) hS0 ?_
      rotate_left
      · (intro W hSw; (try dsimp only at hSw); go_simp; try (with_reducible rfl))
      try simp only [Act.put, List.getElem_toArray, List.getElem_cons_succ, List.getElem_cons_zero, List.setIfInBounds_toArray, List.set_cons_zero, List.set_cons_succ]
      refine wpAnyH_take (i := 4) (v := ?_) rfl (by kernel_rfl) (by kernel_rfl) (by kernel_rfl) (fun _ _ _ h => h) (Or.inl ⟨by rfl, ?_⟩) hS0 ?_
      rotate_left
      · (intro W hSw; (try dsimp only at hSw); go_simp; try (with_reducible rfl))
      try simp only [Act.put, List.getElem_toArray, List.getElem_cons_succ, List.getElem_cons_zero, List.setIfInBounds_toArray, List.set_cons_zero, List.set_cons_succ]
      refine wpAnyH_take (i := 5) (v := ?_) rfl (by kernel_rfl) (by kernel_rfl) (by kernel_rfl) (fun _ _ _ h => h) (Or.inl ⟨by rfl, ?_⟩) hS0 ?_
      rotate_left
      · (intro W hSw; (try dsimp only at hSw); go_simp; try (with_reducible rfl))
      try simp only [Act.put, List.getElem_toArray, List.getElem_cons_succ, List.getElem_cons_zero, List.setIfInBounds_toArray, List.set_cons_zero, List.set_cons_succ]
      refine wpAnyH_take (i := 6) (v := ?_) rfl (by kernel_rfl) (by kernel_rfl) (by kernel_rfl) (fun _ _ _ h => h) (Or.inl ⟨by rfl, ?_⟩) hS0 ?_
      rotate_left
      · (intro W hSw; (try dsimp only at hSw); go_simp; try (with_reducible rfl))
      try simp only [Act.put, List.getElem_toArray, List.getElem_cons_succ, List.getElem_cons_zero, List.setIfInBounds_toArray, List.set_cons_zero, List.set_cons_succ]
      refine wpAnyH_take (i := 7) (v := ?_) rfl (by kernel_rfl) (by kernel_rfl) (by kernel_rfl) (fun _ _ _ h => h) (Or.inl ⟨by rfl, ?_⟩) hS0 ?_
      rotate_left
      · (intro W hSw; (try dsimp only at hSw); go_simp; try (with_reducible rfl))
      try simp only [Act.put, List.getElem_toArray, List.getElem_cons_succ, List.getElem_cons_zero, List.setIfInBounds_toArray, List.set_cons_zero, List.set_cons_succ]
      refine wpAnyH_ready (rs := [8]) (by kernel_rfl) (by simp) ?_
      refine AllReadyH.cons rfl (fun K hK => ?_) AllReadyH.nil
      go_simp
      refine (HC.out _ hS0.1).mono ?_
      rintro e w5 ⟨rfl, hb5⟩
      try go_wp2_with fail
      refine hK.out _ _ (HALL.out _ (hS0.1.tr hb5)) (fun hS1 => ?_)
      clear hK K
      try simp only [Act.put, List.getElem_toArray, List.getElem_cons_succ, List.getElem_cons_zero, List.setIfInBounds_toArray, List.set_cons_zero, List.set_cons_succ]
      refine wpAnyH_take (i := 9) (v := ?_) rfl (by kernel_rfl) (by kernel_rfl) (by kernel_rfl) (fun _ _ _ h => h) (Or.inl ⟨by rfl, ?_⟩) hS1 ?_
      rotate_left
      · (intro W hSw; (try dsimp only at hSw); go_simp; try (with_reducible rfl))
      try simp only [Act.put, List.getElem_toArray, List.getElem_cons_succ, List.getElem_cons_zero, List.setIfInBounds_toArray, List.set_cons_zero, List.set_cons_succ]
      refine wpAnyH_done (by kernel_rfl) ?_ _
      go_wp2
      go_roundw
      case rel => exact ⟨k + 1, by omega, by go_num, hS1.1⟩
      case measure => simp [intOf]; omega
    · go_wp2
      go_ret
      exact ⟨rfl, hgr⟩
theorem eqFinder_any {lo hi lo' hi' : Nat} (v u : Value) (L M : List DR) (fills hits : Int) (w : World) (hv : DsR w lo hi v L) (hu : DsR w lo' hi' u M) (he : L.map (·.1) = M.map (·.1)) (hhi : hi ≤ w.heap.size) (hhi' : hi' ≤ w.heap.size) :
    Calls Tryd.prog 10 #[vFd v fills hits, vFd u fills hits] w fun e w' => e = .returned (.bool true) ∧ Gr w w' := by
  have h := fun A B => eqDirS_any v u L M ((w.alloc A).alloc B) (hv.below (gr_al2 w A B) hhi) (hu.below (gr_al2 w A B) hhi') he (by simp; omega) (by simp; omega)
  have H := Lib.hid h
  clear h
  have q1 : (fills != fills) = false := by simp
  have q2 : (hits != hits) = false := by simp
  obtain ⟨va, vc, rfl, _, _⟩ := hv.1.form
  obtain ⟨ua, uc, rfl, _, _⟩ := hu.1.form
  have hA := heap_alloc_new w (.cells #[.slice va L.length vc, .int .i64 fills, .int .i64 hits] 29)
  have hA2 := (Below.heap_alloc (w.alloc (.cells #[.slice va L.length vc, .int .i64 fills, .int .i64 hits] 29)) (.cells #[.slice ua M.length uc, .int .i64 fills, .int .i64 hits] 29) w.heap.size (by simp)).trans hA
  have hB2 := heap_alloc2_new w (.cells #[.slice va L.length vc, .int .i64 fills, .int .i64 hits] 29) (.cells #[.slice ua M.length uc, .int .i64 fills, .int .i64 hits] 29)
  go_enter Tryd.func10, Tryd.ntmps10
  go_wp2_with fail
  refine (H.out _ _).mono ?_
  rintro e w2 ⟨rfl, hb2⟩
  obtain ⟨⟨z0, z1, z2⟩, _⟩ := rows3 ((hb2.block w.heap.size (by simp <;> omega)).trans hA2)
  obtain ⟨⟨y0, y1, y2⟩, _⟩ := rows3 ((hb2.block (w.heap.size + 1) (by simp <;> omega)).trans hB2)
  clear hA hA2 hB2
  go_wp2
  go_ret
  exact ⟨rfl, (gr_al2 _ _ _).tr hb2⟩
end Go.Proofs.YtomndnlpogikdabDoor
