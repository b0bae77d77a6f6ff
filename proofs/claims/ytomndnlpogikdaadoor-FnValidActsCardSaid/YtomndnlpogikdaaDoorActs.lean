/-
  Walks over acts: their size, copy, comparison. Printed by acts.py.
-/
import Derived.Test.YtomndnlpogikdaaDoorTreeD
namespace Imp
open Go Go.RowKit
structure Acc where
  kind : Int
  file : Fil
  index : Int
  nm : ByteArray
/-- An act and the slice value that its file's body is. -/
abbrev AR := Acc × Value
def eA (r : AR) : List Value := [.int .i64 r.1.kind, .int .i64 r.1.file.root, .string r.1.file.pkg, .string r.1.file.name, .bool r.1.file.init, .int .i64 r.1.file.stamp, r.2, .int .i64 r.1.index, .string r.1.nm]
abbrev vA (r : AR) : Value := .agg #[.int .i64 r.1.kind, .int .i64 r.1.file.root, .string r.1.file.pkg, .string r.1.file.name, .bool r.1.file.init, .int .i64 r.1.file.stamp, r.2, .int .i64 r.1.index, .string r.1.nm]
def ABody (w : World) (lo hi : Nat) (r : AR) : Prop := SlR w lo hi 5 eSt r.2 r.1.file.body
/-- A slice of acts reads as the list, its bodies too. -/
def AlR (w : World) (lo hi : Nat) (v : Value) (L : List AR) : Prop := SlR w lo hi 9 eA v L ∧ ∀ r ∈ L, ABody w lo hi r
def okA (a : Acc) : Prop := okI a.kind ∧ okF a.file ∧ okI a.index ∧ a.nm.size ≤ maxLen
def szA (a : Acc) : Nat := szF a.file + a.nm.size
def totA : List AR → Nat
  | [] => 0
  | s :: r => szA s.1 + totA r
theorem totA_snoc : ∀ (l : List AR) (s : AR), totA (l ++ [s]) = totA l + szA s.1
  | [], s => by simp [totA]
  | x :: l, s => by rw [List.cons_append, totA, totA_snoc l s, totA]; omega
theorem totA_take {l : List AR} {k : Nat} (h : k < l.length) : totA (l.take (k + 1)) = totA (l.take k) + szA l[k].1 := by
  rw [List.take_succ_eq_append_getElem h, totA_snoc]
theorem totA_mem : ∀ {l : List AR} {s : AR}, s ∈ l → szA s.1 ≤ totA l
  | x :: l, s, h => by
    rw [List.mem_cons] at h
    rw [totA]
    rcases h with rfl | h
    · omega
    · have := totA_mem h; omega
theorem cells_act {w : World} {b o k : Nat} {x : AR} (h : ∀ j u, (eA x)[j]? = some u → w.cell? ⟨b, o + k * 9 + j, none⟩ = some u) :
    w.cell? ⟨b, o + k * 9, none⟩ = some (.int .i64 x.1.kind) ∧ w.cell? ⟨b, o + k * 9 + 1, none⟩ = some (.int .i64 x.1.file.root) ∧ w.cell? ⟨b, o + k * 9 + 2, none⟩ = some (.string x.1.file.pkg) ∧ w.cell? ⟨b, o + k * 9 + 3, none⟩ = some (.string x.1.file.name) ∧ w.cell? ⟨b, o + k * 9 + 4, none⟩ = some (.bool x.1.file.init) ∧ w.cell? ⟨b, o + k * 9 + 5, none⟩ = some (.int .i64 x.1.file.stamp) ∧ w.cell? ⟨b, o + k * 9 + 6, none⟩ = some (x.2) ∧ w.cell? ⟨b, o + k * 9 + 7, none⟩ = some (.int .i64 x.1.index) ∧ w.cell? ⟨b, o + k * 9 + 8, none⟩ = some (.string x.1.nm) :=
  ⟨h 0 _ rfl, h 1 _ rfl, h 2 _ rfl, h 3 _ rfl, h 4 _ rfl, h 5 _ rfl, h 6 _ rfl, h 7 _ rfl, h 8 _ rfl⟩
theorem AlR.below {w w' : World} {lo hi B : Nat} {v : Value} {L : List AR} (h : AlR w lo hi v L) (hb : Below B w w') (hB : hi ≤ B) : AlR w' lo hi v L :=
  ⟨h.1.below hb hB, fun r hr => SlR.below (h.2 r hr) hb hB⟩
def actAt (M : List AR) (j : Nat) : Value := ((M[j / 9]?).bind fun r => (eA r)[j % 9]?).getD (.bool false)
theorem actAt_get {M : List AR} {k : Nat} (h : k < M.length) (r : Nat) {u : Value} (hu : (eA M[k])[r]? = some u) : actAt M (k * 9 + r) = u := by
  have hr : r < 9 := (List.getElem?_eq_some_iff.1 hu).1
  unfold actAt
  rw [show (k * 9 + r) / 9 = k by omega, show (k * 9 + r) % 9 = r by omega, List.getElem?_eq_getElem h]
  simp [hu]
theorem actAt_old {M : List AR} {x : AR} {j : Nat} (h : j < M.length * 9) : actAt (M ++ [x]) j = actAt M j := by
  unfold actAt
  rw [List.getElem?_append_left (by omega)]
theorem actAt_new {M : List AR} {x : AR} (r : Nat) {u : Value} (hu : (eA x)[r]? = some u) : actAt (M ++ [x]) (M.length * 9 + r) = u :=
  actAt_get (M := M ++ [x]) (k := M.length) (by simp) r (by simpa using hu)
theorem act_row {M : List AR} {k j : Nat} {x : AR} (hk : M.length = k) (f : Nat → Value) :
    (if j = k * 9 + 8 then Value.string x.1.nm else if j = k * 9 + 7 then Value.int .i64 x.1.index else if j = k * 9 + 6 then x.2 else if j = k * 9 + 5 then Value.int .i64 x.1.file.stamp else if j = k * 9 + 4 then Value.bool x.1.file.init else if j = k * 9 + 3 then Value.string x.1.file.name else if j = k * 9 + 2 then Value.string x.1.file.pkg else if j = k * 9 + 1 then Value.int .i64 x.1.file.root else if j = k * 9 then Value.int .i64 x.1.kind else if j < k * 9 then actAt M j else f j) =
    if j < (k + 1) * 9 then actAt (M ++ [x]) j else f j := by
  subst hk
  by_cases h8 : j = M.length * 9 + 8
  · subst h8; rw [if_pos rfl, if_pos (by omega), actAt_new 8 rfl]
  · rw [if_neg h8]
    by_cases h7 : j = M.length * 9 + 7
    · subst h7; rw [if_pos rfl, if_pos (by omega), actAt_new 7 rfl]
    · rw [if_neg h7]
      by_cases h6 : j = M.length * 9 + 6
      · subst h6; rw [if_pos rfl, if_pos (by omega), actAt_new 6 rfl]
      · rw [if_neg h6]
        by_cases h5 : j = M.length * 9 + 5
        · subst h5; rw [if_pos rfl, if_pos (by omega), actAt_new 5 rfl]
        · rw [if_neg h5]
          by_cases h4 : j = M.length * 9 + 4
          · subst h4; rw [if_pos rfl, if_pos (by omega), actAt_new 4 rfl]
          · rw [if_neg h4]
            by_cases h3 : j = M.length * 9 + 3
            · subst h3; rw [if_pos rfl, if_pos (by omega), actAt_new 3 rfl]
            · rw [if_neg h3]
              by_cases h2 : j = M.length * 9 + 2
              · subst h2; rw [if_pos rfl, if_pos (by omega), actAt_new 2 rfl]
              · rw [if_neg h2]
                by_cases h1 : j = M.length * 9 + 1
                · subst h1; rw [if_pos rfl, if_pos (by omega), actAt_new 1 rfl]
                · rw [if_neg h1]
                  by_cases h0 : j = M.length * 9
                  · subst h0; rw [if_pos rfl, if_pos (by omega)]; exact (actAt_new 0 rfl).symm
                  · rw [if_neg h0]
                    by_cases h : j < M.length * 9
                    · rw [if_pos h, if_pos (by omega), actAt_old h]
                    · rw [if_neg h, if_neg (by omega)]
theorem heap_set9 {W : World} {g T : Nat} {a0 b0 a1 b1 a2 b2 a3 b3 a4 b4 a5 b5 a6 b6 a7 b7 a8 b8 : Value} (h : W.heap[g]? = some (.cells #[a0, a1, a2, a3, a4, a5, a6, a7, a8] T (0, 0))) :
    (((((((((W.setCell ⟨g, 0, none⟩ b0).setCell ⟨g, 1, none⟩ b1).setCell ⟨g, 2, none⟩ b2).setCell ⟨g, 3, none⟩ b3).setCell ⟨g, 4, none⟩ b4).setCell ⟨g, 5, none⟩ b5).setCell ⟨g, 6, none⟩ b6).setCell ⟨g, 7, none⟩ b7).setCell ⟨g, 8, none⟩ b8).heap[g]? = some (.cells #[b0, b1, b2, b3, b4, b5, b6, b7, b8] T (0, 0)) := by
  simp [World.setCell, Array.getElem?_modify, h]
theorem row9 {w : World} {g T : Nat} {a0 a1 a2 a3 a4 a5 a6 a7 a8 : Value} (h : w.heap[g]? = some (.cells #[a0, a1, a2, a3, a4, a5, a6, a7, a8] T (0, 0))) :
    (w.cell? ⟨g, 0, none⟩ = some a0 ∧ w.cell? ⟨g, 1, none⟩ = some a1 ∧ w.cell? ⟨g, 2, none⟩ = some a2 ∧ w.cell? ⟨g, 3, none⟩ = some a3 ∧ w.cell? ⟨g, 4, none⟩ = some a4 ∧ w.cell? ⟨g, 5, none⟩ = some a5 ∧ w.cell? ⟨g, 6, none⟩ = some a6 ∧ w.cell? ⟨g, 7, none⟩ = some a7 ∧ w.cell? ⟨g, 8, none⟩ = some a8) ∧ (∀ j, w.frozen? ⟨g, j, none⟩ = false) := by
  refine ⟨⟨?_, ?_, ?_, ?_, ?_, ?_, ?_, ?_, ?_⟩, fun j => by simp [World.frozen?, h]⟩ <;> (rw [cell_of_row w g _ _ _ _ h]; rfl)
theorem heap_set9_other {W : World} {g b o0 o1 o2 o3 o4 o5 o6 o7 o8 : Nat} {u0 u1 u2 u3 u4 u5 u6 u7 u8 : Value} (h : b ≠ g) :
    (((((((((W.setCell ⟨g, o0, none⟩ u0).setCell ⟨g, o1, none⟩ u1).setCell ⟨g, o2, none⟩ u2).setCell ⟨g, o3, none⟩ u3).setCell ⟨g, o4, none⟩ u4).setCell ⟨g, o5, none⟩ u5).setCell ⟨g, o6, none⟩ u6).setCell ⟨g, o7, none⟩ u7).setCell ⟨g, o8, none⟩ u8).heap[b]? = W.heap[b]? := by
  rw [Below.heap_setCell _ _ _ _ h, Below.heap_setCell _ _ _ _ h, Below.heap_setCell _ _ _ _ h, Below.heap_setCell _ _ _ _ h, Below.heap_setCell _ _ _ _ h, Below.heap_setCell _ _ _ _ h, Below.heap_setCell _ _ _ _ h, Below.heap_setCell _ _ _ _ h, Below.heap_setCell _ _ _ _ h]
/-- A slice of acts that the call owns, with all bodies. -/
def OwnAct (w : World) (base tA tS : Nat) (v : Value) (M : List AR) : Prop :=
  Own w base tA 9 eA v M ∧ ∀ r ∈ M, Own w base tS 5 eSt r.2 r.1.file.body
theorem OwnAct.reads {w : World} {base tA tS : Nat} {v : Value} {M : List AR} (h : OwnAct w base tA tS v M) : AlR w base w.heap.size v M :=
  ⟨h.1.reads (fun _ _ => rfl), fun r hr => (h.2 r hr).reads (fun _ _ => rfl)⟩
end Imp
namespace Go.Proofs.YtomndnlpogikdaaDoor
open Go Go.RowKit Imp
set_option linter.unusedVariables false
set_option linter.unusedSimpArgs false
set_option maxRecDepth 20000

theorem szAct_any {lo hi : Nat} (r : AR) (left : Int) (w : World) (hb : ABody w lo hi r) (hhi : hi ≤ w.heap.size) (hs : okA r.1) (h0 : 0 ≤ left) (h1 : left ≤ 1048576) :
    Calls Tryd.prog 73 #[vA r, .int .i64 left] w fun e w' => ∃ q : Int, e = .returned (.int .i64 q) ∧ (0 ≤ q → q + szA r.1 = left) ∧ q ≤ left ∧ Gr w w' := by
  obtain ⟨⟨kind, f, index, nm⟩, bv⟩ := r
  obtain ⟨_, hf, _, hn⟩ := hs
  have hb : SlR w lo hi 5 eSt bv f.body := hb
  obtain ⟨ba, bc, rfl, _, _⟩ := hb.form
  simp only [szA] at *
  unfold maxLen at hn
  have hsz := szFile_any (f, .slice ba f.body.length bc) left (w.alloc (.cells #[.int .i64 kind, .int .i64 f.root, .string f.pkg, .string f.name, .bool f.init, .int .i64 f.stamp, .slice ba f.body.length bc, .int .i64 index, .string nm] 101)) (SlR.below hb (gr_al w _) hhi) (by simp; omega) hf h0 h1
  have HSZ := Lib.hid hsz
  have hz := heap_alloc_new w (.cells #[.int .i64 kind, .int .i64 f.root, .string f.pkg, .string f.name, .bool f.init, .int .i64 f.stamp, .slice ba f.body.length bc, .int .i64 index, .string nm] 101)
  have HZ := Lib.hid hz
  clear hsz hb hz
  go_enter Tryd.func73, Tryd.ntmps73
  go_wp2_with fail
  refine HSZ.out.mono ?_
  rintro e w2 ⟨r2, rfl, hr2, hrl2, hb2⟩
  obtain ⟨⟨x0, x1, x2, x3, x4, x5, x6, x7, x8⟩, _⟩ := row9 ((hb2.block _ (lt_of_block HZ.out)).trans HZ.out)
  by_cases hneg : r2 < 0
  · go_wp2
    go_ret
    exact ⟨-1, rfl, by omega, by omega, (gr_al _ _).tr hb2⟩
  · have hw1 : IntKind.i64.wrap (r2 - (nm.size : Int)) = r2 - (nm.size : Int) := IntWalk.i64_in _ (by omega)
    by_cases hneg2 : r2 - (nm.size : Int) < 0
    · go_wp2
      go_ret
      exact ⟨-1, rfl, by omega, by omega, (gr_al _ _).tr hb2⟩
    · go_wp2
      go_ret
      exact ⟨_, rfl, by have := hr2 (by omega); intro _; omega, by omega, (gr_al _ _).tr hb2⟩
theorem szActS_any {lo hi : Nat} (v : Value) (L : List AR) (left : Int) (w : World) (hv0 : AlR w lo hi v L) (hhi : hi ≤ w.heap.size) (hs : ∀ s ∈ L, okA s.1) (h0 : 0 ≤ left) (h1 : left ≤ 1048576) :
    Calls Tryd.prog 37 #[v, .int .i64 left] w fun e w' => ∃ r : Int, e = .returned (.int .i64 r) ∧ (0 ≤ r → r + L.length + totA L = left) ∧ r ≤ left ∧ Gr w w' := by
  obtain ⟨hv, hbod⟩ := hv0
  obtain ⟨a, c, rfl, hc1, hc2, h3⟩ := hv
  unfold maxLen at hc2
  have hw1 : IntKind.i64.wrap (left - (L.length : Int)) = left - (L.length : Int) := IntWalk.i64_in _ (by omega)
  have HB := Lib.hid hbod
  clear hbod
  by_cases hneg : left - (L.length : Int) < 0
  · go_enter Tryd.func37, Tryd.ntmps37
    go_wp2
    go_ret
    exact ⟨-1, rfl, by omega, by omega, Gr.rfl' _⟩
  · go_enter Tryd.func37, Tryd.ntmps37
    go_wp2
    go_loopw [1, 5] (fun l i wr => ∃ k : Nat, ∃ r : Int, k ≤ L.length ∧ i = .int .i64 k ∧ l = .int .i64 r ∧ 0 ≤ r ∧ r + L.length + totA (L.take k) = left ∧ Gr w wr) (fun _ i _ => L.length - (intOf i).toNat)
    case atStart => exact ⟨0, _, Nat.zero_le _, rfl, rfl, by omega, by simp [totA], Gr.rfl' _⟩
    case round =>
      obtain ⟨k, r, hk, rfl, rfl, hr0, hr, hgr⟩ := hrel
      have HR := Lib.hid hr
      have hrl : r ≤ 1048576 := by omega
      clear hr
      by_cases hlt : k < L.length
      · obtain ⟨b, o, rfl, hbb, hc⟩ := h3 k hlt
        obtain ⟨x, hx⟩ : ∃ x, x = L[k] := ⟨_, rfl⟩
        obtain ⟨c0, c1, c2, c3, c4, c5, c6, c7, c8⟩ := cells_act (w := wr) (b := b) (o := o) (k := k) (x := x) (fun j u hu => (hgr.cell (p := ⟨b, o + k * 9 + j, none⟩) (Nat.lt_of_lt_of_le hbb.2 hhi)).trans (hc j u (by rw [← hx]; exact hu)))
        have hxs := hs _ (List.getElem_mem hlt)
        rw [← hx] at hxs
        have hbx := HB.out _ (List.getElem_mem hlt)
        rw [← hx] at hbx
        have hgs := hgr.size
        have hsz := szAct_any x r wr (SlR.below hbx hgr hhi) (by omega) hxs hr0 (by omega)
        have ht := totA_take hlt
        rw [← hx] at ht
        have HT := Lib.hid ht
        have HSZ := Lib.hid hsz
        clear hc h3 hx ht hs hsz hbx hxs
        go_wp2_with fail
        refine HSZ.out.mono ?_
        rintro e w2 ⟨r2, rfl, hr2, hrl2, hb2⟩
        by_cases hneg2 : r2 < 0
        · go_wp2
          go_ret
          exact ⟨-1, rfl, by omega, by omega, hgr.tr hb2⟩
        · go_wp2
          go_roundw
          case rel => exact ⟨k + 1, r2, by omega, by go_num, rfl, by omega, by have := HR.out; have := hr2 (by omega); rw [HT.out]; omega, hgr.tr hb2⟩
          case measure => simp [intOf]; omega
      · go_wp2
        go_ret
        have := HR.out
        rw [List.take_of_length_le (by omega)] at this
        exact ⟨r, rfl, fun _ => this, by omega, hgr⟩
theorem toAct_own {lo hi : Nat} (r : AR) (w : World) (hb : ABody w lo hi r) (hhi : hi ≤ w.heap.size) (hn : r.1.file.body.length ≤ 1048576) :
    Calls Tryd.prog 74 #[vA r] w fun e w' => ∃ u, e = .returned (vA (r.1, u)) ∧ Own w' (w.heap.size + 3) 80 5 eSt u r.1.file.body ∧ Gr w w' := by
  obtain ⟨⟨kind, f, index, nm⟩, bv⟩ := r
  have hb : SlR w lo hi 5 eSt bv f.body := hb
  have hn : f.body.length ≤ 1048576 := hn
  obtain ⟨ba, bc, rfl, _, _⟩ := hb.form
  have h := fun W (g : Gr w W) => toFile_own (f, .slice ba f.body.length bc) W (SlR.below hb g hhi) (Nat.le_trans hhi g.size) hn
  have H := Lib.hid h
  clear h hb
  go_enter Tryd.func74, Tryd.ntmps74
  go_wp2_with fail
  refine (H.out _ (gr_alloc3 w _ _ _)).mono ?_
  rintro e w2 ⟨u, rfl, ho, hb2⟩
  obtain ⟨ua, uc, rfl, _, _⟩ := ho.form
  have B0 := hb2.block w.heap.size (by simp <;> omega)
  have B1 := hb2.block (w.heap.size + 1) (by simp <;> omega)
  have B2 := hb2.block (w.heap.size + 1 + 1) (by simp <;> omega)
  rw [heap_alloc3_mid] at B1
  rw [heap_alloc3_new] at B2
  have B0' : w2.heap[w.heap.size]? = some (.cells #[.int .i64 kind, .int .i64 f.root, .string f.pkg, .string f.name, .bool f.init, .int .i64 f.stamp, .slice ba f.body.length bc, .int .i64 index, .string nm] 101) := B0.trans (((gr_al ((w.alloc _).alloc _) _).block w.heap.size (by simp <;> omega)).trans ((Below.heap_alloc (w.alloc _) _ w.heap.size (by simp)).trans (heap_alloc_new w _)))
  have hsz2 := hb2.size
  simp at hsz2
  obtain ⟨⟨p0, p1, p2, p3, p4, p5, p6, p7, p8⟩, _⟩ := row9 B0'
  obtain ⟨⟨x0, x1, x2, x3, x4, x5, x6, x7, x8⟩, xf⟩ := row9 B1
  obtain ⟨⟨y0, y1, y2, y3, y4, y5, y6, y7, y8⟩, yf⟩ := row9 B2
  have xf0 := xf 0
  have yf0 := yf 0
  have xf1 := xf 1
  have yf1 := yf 1
  have xf2 := xf 2
  have yf2 := yf 2
  have xf3 := xf 3
  have yf3 := yf 3
  have xf4 := xf 4
  have yf4 := yf 4
  have xf5 := xf 5
  have yf5 := yf 5
  have xf6 := xf 6
  have yf6 := yf 6
  have xf7 := xf 7
  have yf7 := yf 7
  have xf8 := xf 8
  have yf8 := yf 8
  have HB1 := Lib.hid B1
  have HB2 := Lib.hid B2
  clear B0 B0' B1 B2 xf yf
  go_wp2
  have hbase : Gr w w2 := Gr.tr (gr_alloc3 w _ _ _) hb2
  have B3 : ((((((((w2.setCell ⟨w.heap.size + 1 + 1, 1, none⟩ (.int .i64 f.root)).setCell ⟨w.heap.size + 1 + 1, 2, none⟩ (.string f.pkg)).setCell ⟨w.heap.size + 1 + 1, 3, none⟩ (.string f.name)).setCell ⟨w.heap.size + 1 + 1, 4, none⟩ (.bool f.init)).setCell ⟨w.heap.size + 1 + 1, 5, none⟩ (.int .i64 f.stamp)).setCell ⟨w.heap.size + 1 + 1, 6, none⟩ (.slice ua f.body.length uc)).setCell ⟨w.heap.size + 1 + 1, 7, none⟩ (.int .i64 index)).setCell ⟨w.heap.size + 1 + 1, 8, none⟩ (.string nm)).heap[w.heap.size + 1]? = some _ := (by rw [Below.heap_setCell _ _ _ _ (by show w.heap.size + 1 ≠ w.heap.size + 1 + 1; omega), Below.heap_setCell _ _ _ _ (by show w.heap.size + 1 ≠ w.heap.size + 1 + 1; omega), Below.heap_setCell _ _ _ _ (by show w.heap.size + 1 ≠ w.heap.size + 1 + 1; omega), Below.heap_setCell _ _ _ _ (by show w.heap.size + 1 ≠ w.heap.size + 1 + 1; omega), Below.heap_setCell _ _ _ _ (by show w.heap.size + 1 ≠ w.heap.size + 1 + 1; omega), Below.heap_setCell _ _ _ _ (by show w.heap.size + 1 ≠ w.heap.size + 1 + 1; omega), Below.heap_setCell _ _ _ _ (by show w.heap.size + 1 ≠ w.heap.size + 1 + 1; omega), Below.heap_setCell _ _ _ _ (by show w.heap.size + 1 ≠ w.heap.size + 1 + 1; omega)]; exact HB1.out)
  refine bodyPost_ret (results_cell_row rfl _ _ (w.heap.size + 1) 95 _ (0, 0) _ rfl (heap_set9 B3) Tryd.underlying95 rfl (by kernel_rfl)) rfl ?_
  refine ⟨.slice ua f.body.length uc, rfl, ?_, ?_⟩
  · refine (ho.mono (by simp)).keep (fun b hb => ?_)
    have hbb := (ho.block b hb).1
    simp at hbb
    rw [Below.heap_setCell _ _ _ _ (by show b ≠ w.heap.size + 1; omega), Below.heap_setCell _ _ _ _ (by show b ≠ w.heap.size + 1; omega), Below.heap_setCell _ _ _ _ (by show b ≠ w.heap.size + 1; omega), Below.heap_setCell _ _ _ _ (by show b ≠ w.heap.size + 1; omega), Below.heap_setCell _ _ _ _ (by show b ≠ w.heap.size + 1; omega), Below.heap_setCell _ _ _ _ (by show b ≠ w.heap.size + 1; omega), Below.heap_setCell _ _ _ _ (by show b ≠ w.heap.size + 1; omega), Below.heap_setCell _ _ _ _ (by show b ≠ w.heap.size + 1; omega), Below.heap_setCell _ _ _ _ (by show b ≠ w.heap.size + 1; omega), Below.heap_setCell _ _ _ _ (by show b ≠ w.heap.size + 1 + 1; omega), Below.heap_setCell _ _ _ _ (by show b ≠ w.heap.size + 1 + 1; omega), Below.heap_setCell _ _ _ _ (by show b ≠ w.heap.size + 1 + 1; omega), Below.heap_setCell _ _ _ _ (by show b ≠ w.heap.size + 1 + 1; omega), Below.heap_setCell _ _ _ _ (by show b ≠ w.heap.size + 1 + 1; omega), Below.heap_setCell _ _ _ _ (by show b ≠ w.heap.size + 1 + 1; omega), Below.heap_setCell _ _ _ _ (by show b ≠ w.heap.size + 1 + 1; omega), Below.heap_setCell _ _ _ _ (by show b ≠ w.heap.size + 1 + 1; omega)]
  · exact (((((((((((((((((hbase.setCell (by show w.heap.size ≤ w.heap.size + 1 + 1; omega) _).setCell (by show w.heap.size ≤ w.heap.size + 1 + 1; omega) _).setCell (by show w.heap.size ≤ w.heap.size + 1 + 1; omega) _).setCell (by show w.heap.size ≤ w.heap.size + 1 + 1; omega) _).setCell (by show w.heap.size ≤ w.heap.size + 1 + 1; omega) _).setCell (by show w.heap.size ≤ w.heap.size + 1 + 1; omega) _).setCell (by show w.heap.size ≤ w.heap.size + 1 + 1; omega) _).setCell (by show w.heap.size ≤ w.heap.size + 1 + 1; omega) _).setCell (by show w.heap.size ≤ w.heap.size + 1; omega) _).setCell (by show w.heap.size ≤ w.heap.size + 1; omega) _).setCell (by show w.heap.size ≤ w.heap.size + 1; omega) _).setCell (by show w.heap.size ≤ w.heap.size + 1; omega) _).setCell (by show w.heap.size ≤ w.heap.size + 1; omega) _).setCell (by show w.heap.size ≤ w.heap.size + 1; omega) _).setCell (by show w.heap.size ≤ w.heap.size + 1; omega) _).setCell (by show w.heap.size ≤ w.heap.size + 1; omega) _).setCell (by show w.heap.size ≤ w.heap.size + 1; omega) _)
def zAc : Value := .agg #[.int .i64 0, .int .i64 0, .string ByteArray.empty, .string ByteArray.empty, .bool false, .int .i64 0, .slice none 0 0, .int .i64 0, .string ByteArray.empty]
theorem toActS_info : (Tryd.prog.info? 95).map (fun i => (i.zero, i.size, i.bytes)) = some (some zAc, 9, 112) := by kernel_rfl
theorem run_make_act (n : Nat) (h : n ≤ 1048576) (w : World) :
    (Instr.makeSlice 56 (.int .i64 (n : Int)) (.int .i64 (n : Int))).run Tryd.prog w = .ok (.slice (some ⟨w.heap.size, 0, none⟩) n n) (w.alloc (.cells (madeCells zAc.cells (n * 9)) 95)) := by
  obtain ⟨i, h0, h1, h2, h3⟩ := info_parts toActS_info
  have := run_make (P := Tryd.prog) w 56 95 i zAc Tryd.underlying56 h0 h1 .i64 .i64 n n (by omega) (Int.le_refl _) (by rw [h3]; omega) (by omega)
  rw [h2] at this
  simpa using this
set_option maxHeartbeats 1600000 in
theorem toActS_own {lo hi : Nat} (v : Value) (L : List AR) (w : World) (hv0 : AlR w lo hi v L) (hhi : hi ≤ w.heap.size) (hn : L.length ≤ 1048576) (hbn : ∀ r ∈ L, r.1.file.body.length ≤ 1048576) :
    Calls Tryd.prog 38 #[v] w fun e w' => ∃ u, e = .returned u ∧ ∃ M : List AR, M.map (·.1) = L.map (·.1) ∧ OwnAct w' w.heap.size 95 80 u M ∧ Gr w w' := by
  obtain ⟨hv, hbod⟩ := hv0
  obtain ⟨a, c, rfl, h1, h2, h3⟩ := hv
  unfold maxLen at h2
  have HB := Lib.hid hbod
  have HN := Lib.hid hbn
  clear hbod hbn
  have hmk := run_make_act L.length hn w
  have hst : (w.alloc (.cells (madeCells zAc.cells (L.length * 9)) 95)).rowIs w.heap.size 95 (L.length * 9) (fun j => zAc.cells[j % 9]!) := by
    have := World.rowIs_alloc w (madeCells zAc.cells (L.length * 9)) 95 (fun j => zAc.cells[j % 9]!) (fun i hi => by rw [size_madeCells] at hi; simp [madeCells, hi, zAc, Value.cells])
    rw [size_madeCells] at this; exact this
  generalize (madeCells zAc.cells (L.length * 9)) = C at hmk hst
  have HST := Lib.hid hst
  clear hst
  go_enter Tryd.func38, Tryd.ntmps38
  go_wp2
  go_loopw [4] (fun i wr => ∃ k : Nat, ∃ M : List AR, k ≤ L.length ∧ i = .int .i64 k ∧ M.length = k ∧ M.map (·.1) = (L.map (·.1)).take k ∧ wr.rowIs w.heap.size 95 (L.length * 9) (fun j => if j < k * 9 then actAt M j else zAc.cells[j % 9]!) ∧
      (∀ r ∈ M, Own wr (w.heap.size + 1) 80 5 eSt r.2 r.1.file.body) ∧ Below w.heap.size w wr)
    (fun i _ => L.length - (intOf i).toNat)
  case atStart => exact ⟨0, [], Nat.zero_le _, rfl, rfl, by simp, HST.out.congr (fun j _ => by simp), by simp, (Below.refl _ _).alloc (Nat.le_refl _) _⟩
  case round =>
    obtain ⟨k, M, hk, rfl, hMl, hMm, hrow, hMo, hbel⟩ := hrel
    have HR := Lib.hid hrow
    have HMm := Lib.hid hMm
    have HMl := Lib.hid hMl
    have HMo := Lib.hid hMo
    clear hmk hMm hMo hMl
    have hws := HR.out.lt
    by_cases hlt : k < L.length
    · obtain ⟨b, o, rfl, hb, hc⟩ := h3 k hlt
      obtain ⟨x, hx⟩ : ∃ x, x = L[k] := ⟨_, rfl⟩
      obtain ⟨c0, c1, c2, c3, c4, c5, c6, c7, c8⟩ := cells_act (w := wr) (b := b) (o := o) (k := k) (x := x) (fun j u hu => (hbel.cell (p := ⟨b, o + k * 9 + j, none⟩) (Nat.lt_of_lt_of_le hb.2 hhi)).trans (hc j u (by rw [← hx]; exact hu)))
      have hbx := HB.out _ (List.getElem_mem hlt)
      have hnx := HN.out _ (List.getElem_mem hlt)
      rw [← hx] at hbx hnx
      have hto := toAct_own x wr (SlR.below hbx hbel hhi) (Nat.le_trans hhi hbel.size) hnx
      have HTO := Lib.hid hto
      have HX := Lib.hid hx
      clear hc h3 hrow hx hto hbx
      go_wp2_with (go_at_call 74
                   refine HTO.out.mono ?_
                   rintro e w2 ⟨u, rfl, ho, hb2⟩
                   have r2 := HR.out.of_block (hb2.block w.heap.size HR.out.lt)
                   have e0 := r2.cell (i := k * 9) (by omega)
                   have f0 := r2.frozen (k * 9)
                   have e1 := r2.cell (i := k * 9 + 1) (by omega)
                   have f1 := r2.frozen (k * 9 + 1)
                   have e2 := r2.cell (i := k * 9 + 2) (by omega)
                   have f2 := r2.frozen (k * 9 + 2)
                   have e3 := r2.cell (i := k * 9 + 3) (by omega)
                   have f3 := r2.frozen (k * 9 + 3)
                   have e4 := r2.cell (i := k * 9 + 4) (by omega)
                   have f4 := r2.frozen (k * 9 + 4)
                   have e5 := r2.cell (i := k * 9 + 5) (by omega)
                   have f5 := r2.frozen (k * 9 + 5)
                   have e6 := r2.cell (i := k * 9 + 6) (by omega)
                   have f6 := r2.frozen (k * 9 + 6)
                   have e7 := r2.cell (i := k * 9 + 7) (by omega)
                   have f7 := r2.frozen (k * 9 + 7)
                   have e8 := r2.cell (i := k * 9 + 8) (by omega)
                   have f8 := r2.frozen (k * 9 + 8)
                   obtain ⟨ua, uc, rfl, _, _⟩ := ho.form
                   have R2 := Lib.hid r2
                   have HO := Lib.hid ho
                   clear r2 ho)
      go_roundw
      case rel =>
        have hg2 : Gr w w2 := Gr.tr hbel hb2
        refine ⟨k + 1, M ++ [(x.1, .slice ua x.1.file.body.length uc)], by omega, by go_num, by simp [HMl.out], ?_, (((((((((R2.out.set _ _).set _ _).set _ _).set _ _).set _ _).set _ _).set _ _).set _ _).set _ _).congr (fun j hj => act_row (x := (x.1, .slice ua x.1.file.body.length uc)) HMl.out (fun j => zAc.cells[j % 9]!)), ?_, (((((((((hg2.setCell (Nat.le_refl _) _).setCell (Nat.le_refl _) _).setCell (Nat.le_refl _) _).setCell (Nat.le_refl _) _).setCell (Nat.le_refl _) _).setCell (Nat.le_refl _) _).setCell (Nat.le_refl _) _).setCell (Nat.le_refl _) _).setCell (Nat.le_refl _) _)⟩
        · rw [List.map_append, HMm.out, List.take_succ_eq_append_getElem (by rw [List.length_map]; exact hlt), List.getElem_map, HX.out]; rfl
        · intro r hr
          rw [List.mem_append] at hr
          rcases hr with hr | hr
          · have h := HMo.out r hr
            refine (h.keep (w' := w2) (fun b hb => hb2.block b (h.block b hb).2)).keep (fun b hb => heap_set9_other ?_)
            have := (h.block b hb).1; omega
          · rw [List.mem_singleton] at hr
            subst hr
            refine (HO.out.mono (by omega)).keep (fun b hb => heap_set9_other ?_)
            have := (HO.out.block b hb).1; omega
      case measure => simp [intOf]; omega
    · go_wp2
      go_ret
      have hkl : k = L.length := by omega
      have hML : L.length = M.length := by have := HMl.out; omega
      refine ⟨_, rfl, M, ?_, ⟨?_, fun r hr => (HMo.out r hr).mono (by omega)⟩, hbel⟩
      · rw [HMm.out, List.take_of_length_le (by rw [List.length_map]; omega)]
      · rw [hML]
        have hr := HR.out
        rw [hML] at hr
        exact own_of_rows hr (Nat.le_refl _) (by unfold maxLen; omega) rfl (by decide) (fun _ _ => rfl) (fun i hi j u hu => by
          have hj : j < 9 := (List.getElem?_eq_some_iff.1 hu).1
          rw [if_pos (by omega), actAt_get hi j hu])
theorem eqAct_any {lo hi lo' hi' : Nat} (c : Acc) (u v : Value) (w : World) (hu : SlR w lo hi 5 eSt u c.file.body) (hv : SlR w lo' hi' 5 eSt v c.file.body) (hhi : hi ≤ w.heap.size) (hhi' : hi' ≤ w.heap.size) :
    Calls Tryd.prog 75 #[vA (c, u), vA (c, v)] w fun e w' => e = .returned (.bool true) ∧ Gr w w' := by
  obtain ⟨kind, f, index, nm⟩ := c
  have hu : SlR w lo hi 5 eSt u f.body := hu
  have hv : SlR w lo' hi' 5 eSt v f.body := hv
  obtain ⟨ua, uc, rfl, _, _⟩ := hu.form
  obtain ⟨va, vc, rfl, _, _⟩ := hv.form
  have h := fun W (g : Gr w W) => eqFile_any f (.slice ua f.body.length uc) (.slice va f.body.length vc) W (SlR.below hu g hhi) (SlR.below hv g hhi') (Nat.le_trans hhi g.size) (Nat.le_trans hhi' g.size)
  have H := Lib.hid h
  have hz0 := (Below.heap_alloc (w.alloc (.cells #[.int .i64 kind, .int .i64 f.root, .string f.pkg, .string f.name, .bool f.init, .int .i64 f.stamp, .slice ua f.body.length uc, .int .i64 index, .string nm] 95)) (.cells #[.int .i64 kind, .int .i64 f.root, .string f.pkg, .string f.name, .bool f.init, .int .i64 f.stamp, .slice va f.body.length vc, .int .i64 index, .string nm] 95) w.heap.size (by simp)).trans (heap_alloc_new w (.cells #[.int .i64 kind, .int .i64 f.root, .string f.pkg, .string f.name, .bool f.init, .int .i64 f.stamp, .slice ua f.body.length uc, .int .i64 index, .string nm] 95))
  have hz1 := heap_alloc2_new w (.cells #[.int .i64 kind, .int .i64 f.root, .string f.pkg, .string f.name, .bool f.init, .int .i64 f.stamp, .slice ua f.body.length uc, .int .i64 index, .string nm] 95) (.cells #[.int .i64 kind, .int .i64 f.root, .string f.pkg, .string f.name, .bool f.init, .int .i64 f.stamp, .slice va f.body.length vc, .int .i64 index, .string nm] 95)
  have HZ0 := Lib.hid hz0
  have HZ1 := Lib.hid hz1
  clear h hu hv hz0 hz1
  have q2 : (nm.toList != nm.toList) = false := by simp
  have q4 : (kind != kind) = false := by simp
  have q6 : (index != index) = false := by simp
  go_enter Tryd.func75, Tryd.ntmps75
  go_wp2_with fail
  refine (H.out _ (gr_al2 w _ _)).mono ?_
  rintro e w2 ⟨rfl, hb2⟩
  obtain ⟨⟨x0, x1, x2, x3, x4, x5, x6, x7, x8⟩, _⟩ := row9 ((hb2.block _ (lt_of_block HZ0.out)).trans HZ0.out)
  obtain ⟨⟨y0, y1, y2, y3, y4, y5, y6, y7, y8⟩, _⟩ := row9 ((hb2.block _ (lt_of_block HZ1.out)).trans HZ1.out)
  go_wp2
  go_ret
  exact ⟨rfl, (gr_al2 _ _ _).tr hb2⟩
set_option maxHeartbeats 1600000 in
theorem eqActS_any {lo hi lo' hi' : Nat} (v u : Value) (L M : List AR) (w : World) (hv0 : AlR w lo hi v L) (hu0 : AlR w lo' hi' u M) (he : L.map (·.1) = M.map (·.1)) (hhi : hi ≤ w.heap.size) (hhi' : hi' ≤ w.heap.size) :
    Calls Tryd.prog 39 #[v, u] w fun e w' => e = .returned (.bool true) ∧ Gr w w' := by
  obtain ⟨hv, hvb⟩ := hv0
  obtain ⟨hu, hub⟩ := hu0
  obtain ⟨a, c, rfl, h1, h2, h3⟩ := hv
  obtain ⟨a', c', rfl, h1', h2', h3'⟩ := hu
  unfold maxLen at h2 h2'
  have hl : L.length = M.length := by have := congrArg List.length he; simpa using this
  have hl0 : ((L.length : Int) != (M.length : Int)) = false := by simp [hl]
  have hat : ∀ k (h : k < L.length) (h' : k < M.length), L[k].1 = M[k].1 := by
    intro k h h'
    have e1 : (L.map (·.1))[k]? = (M.map (·.1))[k]? := by rw [he]
    rw [List.getElem?_map, List.getElem?_map, List.getElem?_eq_getElem h, List.getElem?_eq_getElem h'] at e1
    injection e1
  have HAT := Lib.hid hat
  have HVB := Lib.hid hvb
  have HUB := Lib.hid hub
  have HL := Lib.hid hl
  clear hat hvb hub he hl
  go_enter Tryd.func39, Tryd.ntmps39
  go_wp2
  go_loopw [5] (fun i wr => ∃ k : Nat, k ≤ L.length ∧ i = .int .i64 k ∧ Gr w wr) (fun i _ => L.length - (intOf i).toNat)
  case atStart => exact ⟨0, Nat.zero_le _, rfl, Gr.rfl' _⟩
  case round =>
    obtain ⟨k, hk, rfl, hgr⟩ := hrel
    by_cases hlt : k < L.length
    · have hlm : k < M.length := by have := HL.out; omega
      obtain ⟨b, o, rfl, hbb, hc⟩ := h3 k hlt
      obtain ⟨b', o', rfl, hbb', hc'⟩ := h3' k hlm
      obtain ⟨x, hx⟩ : ∃ x, x = L[k] := ⟨_, rfl⟩
      obtain ⟨y, hy⟩ : ∃ y, y = M[k] := ⟨_, rfl⟩
      obtain ⟨c0, c1, c2, c3, c4, c5, c6, c7, c8⟩ := cells_act (w := wr) (b := b) (o := o) (k := k) (x := x) (fun j u hu => (hgr.cell (p := ⟨b, o + k * 9 + j, none⟩) (Nat.lt_of_lt_of_le hbb.2 hhi)).trans (hc j u (by rw [← hx]; exact hu)))
      obtain ⟨d0, d1, d2, d3, d4, d5, d6, d7, d8⟩ := cells_act (w := wr) (b := b') (o := o') (k := k) (x := y) (fun j u hu => (hgr.cell (p := ⟨b', o' + k * 9 + j, none⟩) (Nat.lt_of_lt_of_le hbb'.2 hhi')).trans (hc' j u (by rw [← hy]; exact hu)))
      have hbx := HVB.out _ (List.getElem_mem hlt)
      have hby := HUB.out _ (List.getElem_mem hlm)
      rw [← hx] at hbx
      rw [← hy] at hby
      have hxy := HAT.out k hlt hlm
      rw [← hx, ← hy] at hxy
      obtain ⟨f, bx⟩ := x
      obtain ⟨g, by'⟩ := y
      simp only at hxy
      subst hxy
      have hgs := hgr.size
      have hcall := fun n => eqAct_any f bx by' (wr.drewN n) (SlR.drewN (SlR.below hbx hgr hhi) n) (SlR.drewN (SlR.below hby hgr hhi') n) (by show hi ≤ wr.heap.size; omega) (by show hi' ≤ wr.heap.size; omega)
      have HC := Lib.hid hcall
      clear hc h3 hc' h3' hx hy hbx hby hcall
      go_wp2
      go_region_law (go_simp
                     go_at_call 75
                     refine (HC.out 1).mono ?_
                     rintro e w2 ⟨rfl, hb2⟩)
      all_goals go_wp2
      all_goals go_roundw
      all_goals first
        | exact ⟨k + 1, by omega, by go_num, Gr.tr (below_drewN hgr 1) hb2⟩
        | (simp [intOf]; omega)
    · go_wp2
      go_ret
      exact ⟨rfl, hgr⟩
end Go.Proofs.YtomndnlpogikdaaDoor
