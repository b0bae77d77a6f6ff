/-
  Walks over files and trees: their size, copy, comparison.
-/
import Derived.Test.YtomndnlpogikdaaDoorBodyC
namespace Imp
open Go Go.RowKit
structure Fil where
  root : Int
  pkg : ByteArray
  name : ByteArray
  init : Bool
  stamp : Int
  body : List Stm
/-- A file and the slice value that its body is. -/
abbrev FR := Fil × Value
def eF (r : FR) : List Value := [.int .i64 r.1.root, .string r.1.pkg, .string r.1.name, .bool r.1.init, .int .i64 r.1.stamp, r.2]
abbrev vF (r : FR) : Value := .agg #[.int .i64 r.1.root, .string r.1.pkg, .string r.1.name, .bool r.1.init, .int .i64 r.1.stamp, r.2]
abbrev BodyR (w : World) (lo hi : Nat) (r : FR) : Prop := SlR w lo hi 5 eSt r.2 r.1.body
/-- A slice of files reads as the list, its bodies too. -/
def FlR (w : World) (lo hi : Nat) (v : Value) (L : List FR) : Prop := SlR w lo hi 6 eF v L ∧ ∀ r ∈ L, BodyR w lo hi r
def okF (f : Fil) : Prop := okI f.root ∧ f.pkg.size ≤ maxLen ∧ f.name.size ≤ maxLen ∧ okI f.stamp ∧ ∀ s ∈ f.body, okSt s
def szF (f : Fil) : Nat := f.pkg.size + f.name.size + (f.body.length + totB f.body)
def totF : List FR → Nat
  | [] => 0
  | s :: r => szF s.1 + totF r
theorem totF_snoc : ∀ (l : List FR) (s : FR), totF (l ++ [s]) = totF l + szF s.1
  | [], s => by simp [totF]
  | x :: l, s => by rw [List.cons_append, totF, totF_snoc l s, totF]; omega
theorem totF_take {l : List FR} {k : Nat} (h : k < l.length) : totF (l.take (k + 1)) = totF (l.take k) + szF l[k].1 := by
  rw [List.take_succ_eq_append_getElem h, totF_snoc]
theorem totF_mem : ∀ {l : List FR} {s : FR}, s ∈ l → szF s.1 ≤ totF l
  | x :: l, s, h => by
    rw [List.mem_cons] at h
    rw [totF]
    rcases h with rfl | h
    · omega
    · have := totF_mem h; omega
theorem cells_fil {w : World} {b o k : Nat} {x : FR} (h : ∀ j u, (eF x)[j]? = some u → w.cell? ⟨b, o + k * 6 + j, none⟩ = some u) :
    w.cell? ⟨b, o + k * 6, none⟩ = some (.int .i64 x.1.root) ∧ w.cell? ⟨b, o + k * 6 + 1, none⟩ = some (.string x.1.pkg) ∧ w.cell? ⟨b, o + k * 6 + 2, none⟩ = some (.string x.1.name) ∧
    w.cell? ⟨b, o + k * 6 + 3, none⟩ = some (.bool x.1.init) ∧ w.cell? ⟨b, o + k * 6 + 4, none⟩ = some (.int .i64 x.1.stamp) ∧ w.cell? ⟨b, o + k * 6 + 5, none⟩ = some x.2 :=
  ⟨h 0 _ rfl, h 1 _ rfl, h 2 _ rfl, h 3 _ rfl, h 4 _ rfl, h 5 _ rfl⟩
theorem FlR.below {w w' : World} {lo hi B : Nat} {v : Value} {L : List FR} (h : FlR w lo hi v L) (hb : Below B w w') (hB : hi ≤ B) : FlR w' lo hi v L :=
  ⟨h.1.below hb hB, fun r hr => SlR.below (h.2 r hr) hb hB⟩
end Imp
namespace Go.Proofs.YtomndnlpogikdaaDoor
open Go Go.RowKit Imp
set_option linter.unusedVariables false

theorem szFile_any {lo hi : Nat} (r : FR) (left : Int) (w : World) (hb : BodyR w lo hi r) (hhi : hi ≤ w.heap.size) (hs : okF r.1) (h0 : 0 ≤ left) (h1 : left ≤ 1048576) :
    Calls Tryd.prog 11 #[vF r, .int .i64 left] w fun e w' => ∃ q : Int, e = .returned (.int .i64 q) ∧ (0 ≤ q → q + szF r.1 = left) ∧ q ≤ left ∧ Gr w w' := by
  obtain ⟨⟨root, pkg, name, init, stamp, body⟩, bv⟩ := r
  obtain ⟨_, hm, hn, _, hbs⟩ := hs
  simp only [szF, BodyR] at *
  unfold maxLen at hm hn
  have hw1 : IntKind.i64.wrap (left - (pkg.size : Int)) = left - (pkg.size : Int) := IntWalk.i64_in _ (by omega)
  by_cases hneg : left - (pkg.size : Int) < 0
  · go_enter Tryd.func11, Tryd.ntmps11
    go_wp2
    go_ret
    exact ⟨-1, rfl, by omega, by omega, gr_al _ _⟩
  · have hw2 : IntKind.i64.wrap (left - (pkg.size : Int) - (name.size : Int)) = left - (pkg.size : Int) - (name.size : Int) := IntWalk.i64_in _ (by omega)
    by_cases hneg2 : left - (pkg.size : Int) - (name.size : Int) < 0
    · go_enter Tryd.func11, Tryd.ntmps11
      go_wp2
      go_ret
      exact ⟨-1, rfl, by omega, by omega, gr_al _ _⟩
    · have hsz := fun o => szStmtS_any bv body (left - (pkg.size : Int) - (name.size : Int)) (w.alloc o) (SlR.below hb (gr_al w o) hhi) (by simp; omega) hbs (by omega) (by omega)
      have HSZ := Lib.hid hsz
      clear hsz
      go_enter Tryd.func11, Tryd.ntmps11
      go_wp2_with fail
      refine (HSZ.out _).mono ?_
      rintro e w2 ⟨r2, rfl, hr2, hrl2, hb2⟩
      by_cases hneg3 : r2 < 0
      · go_wp2
        go_ret
        exact ⟨-1, rfl, by omega, by omega, (gr_al _ _).tr hb2⟩
      · go_wp2
        go_ret
        exact ⟨r2, rfl, by omega, by omega, (gr_al _ _).tr hb2⟩
theorem szFileS_any {lo hi : Nat} (v : Value) (L : List FR) (left : Int) (w : World) (hv0 : FlR w lo hi v L) (hhi : hi ≤ w.heap.size) (hs : ∀ s ∈ L, okF s.1) (h0 : 0 ≤ left) (h1 : left ≤ 1048576) :
    Calls Tryd.prog 44 #[v, .int .i64 left] w fun e w' => ∃ r : Int, e = .returned (.int .i64 r) ∧ (0 ≤ r → r + L.length + totF L = left) ∧ r ≤ left ∧ Gr w w' := by
  obtain ⟨hv, hbod⟩ := hv0
  obtain ⟨a, c, rfl, hc1, hc2, h3⟩ := hv
  unfold maxLen at hc2
  have hw1 : IntKind.i64.wrap (left - (L.length : Int)) = left - (L.length : Int) := IntWalk.i64_in _ (by omega)
  have HB := Lib.hid hbod
  clear hbod
  by_cases hneg : left - (L.length : Int) < 0
  · go_enter Tryd.func44, Tryd.ntmps44
    go_wp2
    go_ret
    exact ⟨-1, rfl, by omega, by omega, Gr.rfl' _⟩
  · go_enter Tryd.func44, Tryd.ntmps44
    go_wp2
    go_loopw [1, 5] (fun l i wr => ∃ k : Nat, ∃ r : Int, k ≤ L.length ∧ i = .int .i64 k ∧ l = .int .i64 r ∧ 0 ≤ r ∧ r + L.length + totF (L.take k) = left ∧ Gr w wr) (fun _ i _ => L.length - (intOf i).toNat)
    case atStart => exact ⟨0, _, Nat.zero_le _, rfl, rfl, by omega, by simp [totF], Gr.rfl' _⟩
    case round =>
      obtain ⟨k, r, hk, rfl, rfl, hr0, hr, hgr⟩ := hrel
      have HR := Lib.hid hr
      have hrl : r ≤ 1048576 := by omega
      clear hr
      by_cases hlt : k < L.length
      · obtain ⟨b, o, rfl, hbb, hc⟩ := h3 k hlt
        obtain ⟨x, hx⟩ : ∃ x, x = L[k] := ⟨_, rfl⟩
        obtain ⟨c0, c1, c2, c3, c4, c5⟩ := cells_fil (w := wr) (b := b) (o := o) (k := k) (x := x) (fun j u hu => (hgr.cell (p := ⟨b, o + k * 6 + j, none⟩) (Nat.lt_of_lt_of_le hbb.2 hhi)).trans (hc j u (by rw [← hx]; exact hu)))
        have hxs := hs _ (List.getElem_mem hlt)
        rw [← hx] at hxs
        have hbx := HB.out _ (List.getElem_mem hlt)
        rw [← hx] at hbx
        have hgs := hgr.size
        have hsz := szFile_any x r wr (SlR.below hbx hgr hhi) (by omega) hxs hr0 (by omega)
        have ht := totF_take hlt
        rw [← hx] at ht
        have HT := Lib.hid ht
        have HSZ := Lib.hid hsz
        clear hc h3 hx ht hs hsz hbx hxs
        go_wp2_with fail
        refine HSZ.out.mono ?_
        rintro e w2 ⟨r2, rfl, hr2, hrl2, hb2⟩
        by_cases hneg2 : r2 < 0
        · go_wp2
          go_ret
          exact ⟨-1, rfl, by omega, by omega, hgr.tr hb2⟩
        · go_wp2
          go_roundw
          case rel => exact ⟨k + 1, r2, by omega, by go_num, rfl, by omega, by have := HR.out; have := hr2 (by omega); rw [HT.out]; omega, hgr.tr hb2⟩
          case measure => simp [intOf]; omega
      · go_wp2
        go_ret
        have := HR.out
        rw [List.take_of_length_le (by omega)] at this
        exact ⟨r, rfl, fun _ => this, by omega, hgr⟩
theorem szTree_any {lo hi : Nat} (v : Value) (L : List FR) (left : Int) (w : World) (hv : FlR w lo hi v L) (hhi : hi ≤ w.heap.size) (hs : ∀ s ∈ L, okF s.1) (h0 : 0 ≤ left) (h1 : left ≤ 1048576) :
    Calls Tryd.prog 10 #[.agg #[v], .int .i64 left] w fun e w' => ∃ r : Int, e = .returned (.int .i64 r) ∧ (0 ≤ r → r + L.length + totF L = left) ∧ r ≤ left ∧ Gr w w' := by
  have h := fun o => szFileS_any v L left (w.alloc o) (hv.below (gr_al w o) hhi) (by simp; omega) hs h0 h1
  have H := Lib.hid h
  clear h
  go_enter Tryd.func10, Tryd.ntmps10
  go_wp2_with fail
  refine (H.out _).mono ?_
  rintro e w2 ⟨r2, rfl, hr2, hrl2, hb2⟩
  by_cases hneg3 : r2 < 0
  · go_wp2
    go_ret
    exact ⟨-1, rfl, by omega, by omega, (gr_al _ _).tr hb2⟩
  · go_wp2
    go_ret
    exact ⟨r2, rfl, hr2, hrl2, (gr_al _ _).tr hb2⟩
theorem eqFile_any {lo hi lo' hi' : Nat} (f : Fil) (u v : Value) (w : World) (hu : SlR w lo hi 5 eSt u f.body) (hv : SlR w lo' hi' 5 eSt v f.body) (hhi : hi ≤ w.heap.size) (hhi' : hi' ≤ w.heap.size) :
    Calls Tryd.prog 17 #[vF (f, u), vF (f, v)] w fun e w' => e = .returned (.bool true) ∧ Gr w w' := by
  have h := fun o o' => eqStmtS_any u v f.body ((w.alloc o).alloc o') (SlR.below hu (gr_al2 w o o') hhi) (SlR.below hv (gr_al2 w o o') hhi') (by simp; omega) (by simp; omega)
  have H := Lib.hid h
  clear h
  obtain ⟨root, pkg, name, init, stamp, body⟩ := f
  have q2 : (pkg.toList != pkg.toList) = false := by simp
  have q3 : (name.toList != name.toList) = false := by simp
  have q4 : (root != root) = false := by simp
  have q5 : (init != init) = false := by simp
  have q6 : (stamp != stamp) = false := by simp
  go_enter Tryd.func17, Tryd.ntmps17
  go_wp2_with fail
  refine (H.out _ _).mono ?_
  rintro e w2 ⟨rfl, hb2⟩
  go_wp2
  go_ret
  exact ⟨rfl, (gr_al2 _ _ _).tr hb2⟩
end Go.Proofs.YtomndnlpogikdaaDoor
