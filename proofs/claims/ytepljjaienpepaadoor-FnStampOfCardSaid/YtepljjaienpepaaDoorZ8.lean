/-
  Walk of the law on modules of drawn files.
-/
import Derived.Test.YtepljjaienpepaaDoorDrawFZ
import Derived.Test.YtepljjaienpepaaDoorZ3
import Derived.Test.YtepljjaienpepaaDoorZ5
import Derived.Test.YtepljjaienpepaaDoorZ4
import Derived.Test.YtepljjaienpepaaDoorDiskVZ
import Derived.Test.YtepljjaienpepaaDoorTreeSZ
import Derived.Test.YtepljjaienpepaaDoorZ7
import Derived.Deep.CutBlock
namespace Imp
open Go
theorem nameP_name {f : Fil} (h : okFil f = true) : vName (nameP f) = true := by
  unfold okFil at h
  simp only [Bool.and_eq_true] at h
  obtain ⟨⟨⟨⟨_, h2⟩, _⟩, _⟩, h5⟩ := h
  unfold nameP
  cases hi : f.init
  · rw [hi] at h5
    simp only [Bool.false_eq_true, ↓reduceIte, Bool.and_eq_true] at h5
    exact h5.2
  · rw [hi] at h5
    simp only [↓reduceIte, Bool.and_eq_true] at h5
    have he : (bs f.pkg).isEmpty = false := by rw [← isEmptyT]; simpa using h5.1
    unfold vPkg at h2
    rw [he, Bool.false_or] at h2
    exact h2
where isEmptyT {s : ByteArray} : s.toList.isEmpty = (bs s).isEmpty := by rw [Go.Proofs.YtepljjaienpepaaDoor.isEmpty_toList]
theorem part_of_ok {f : Fil} (h : okFil f = true) (hi : f.init = false) : vPart (bs f.name) = true := by
  unfold okFil at h
  rw [hi] at h
  simp only [Bool.and_eq_true, Bool.false_eq_true, ↓reduceIte] at h
  exact h.2.1
end Imp
namespace Go.Proofs.YtepljjaienpepaaDoor
open Go Go.RowKit Imp
set_option linter.unusedVariables false
set_option linter.unusedSimpArgs false

end Go.Proofs.YtepljjaienpepaaDoor

/-
  Walks: trees drawn. Printed by drawt.py.
-/
namespace Imp
open Go Go.RowKit
/-- A small file: what a drawn one is. -/
def SmFd (f : Fil) : Prop := f.body.length ≤ 5 ∧ (∀ s ∈ f.body, s.mod.size ≤ 5 ∧ s.name.size ≤ 5 ∧ smSt s) ∧ f.pkg.size ≤ 7 ∧ f.name.size ≤ 1
theorem OwnN.keepR {w w' : World} {base tO K tI kI g : Nat} {α β : Type} {enc : α × Value → List Value} {encI : β → List Value} {inner : α → List β} {v : Value} {M : List (α × Value)}
    (h : OwnN w base tO K enc tI kI encI inner v M) (hg : w.grownBy w' (some g)) (hb : g < base) : OwnN w' base tO K enc tI kI encI inner v M :=
  h.chg (ChgN.of_grown hg (p := fun b => b = g) (fun i q => by injection q with q; exact q.symm)) (fun b hb q => by have := (h.block b hb).1; omega)
theorem OwnN.setB {w : World} {base tO K tI kI b o : Nat} {u : Value} {α β : Type} {enc : α × Value → List Value} {encI : β → List Value} {inner : α → List β} {v : Value} {M : List (α × Value)}
    (h : OwnN w base tO K enc tI kI encI inner v M) (hb : b < base) : OwnN (w.setCell ⟨b, o, none⟩ u) base tO K enc tI kI encI inner v M :=
  h.keepR (grown_set w b o u) hb
theorem OwnN.flR {w : World} {base tF tS : Nat} {v : Value} {M : List FR} (h : OwnN w base tF 6 eF tS 5 eSt Fil.body v M) : FlR w base w.heap.size v M :=
  ⟨h.1.reads (fun _ _ => rfl), fun r hr => (h.2.1 r hr).reads (fun _ _ => rfl)⟩
end Imp
namespace Go.Proofs.YtepljjaienpepaaDoor
open Go Go.RowKit Imp
set_option linter.unusedVariables false
set_option linter.unusedSimpArgs false
end Go.Proofs.YtepljjaienpepaaDoor

/-
  Walks: directories of disks copied and stamped. Printed by diskd.py.
-/
namespace Imp
open Go Go.RowKit
theorem Own.one1 {α : Type} {enc : α → List Value} {k : Nat} (w : World) (base : Nat) (x : α) (e : TypeId) (hb : base ≤ w.heap.size) (hk : (enc x).length = k) : Own (w.alloc (.cells (enc x).toArray e)) base e k enc (.slice (some ⟨w.heap.size, 0, none⟩) 1 1) [x] := by
  unfold Own World.ownsRow
  exact ⟨by simp [hk], .inr ⟨w.heap.size, 1, (enc x).toArray, rfl, hb, heap_alloc_new w _, Nat.le_refl _, by unfold maxLen; omega, by simp [hk], by simp [← hk]⟩⟩
theorem drewHD {W : World} {b : Nat} {o : Option Obj} (h : W.heap[b]? = o) : W.drew.heap[b]? = o := h
theorem drewCD {W : World} {p : Addr} {o : Option Value} (h : W.cell? p = o) : W.drew.cell? p = o := h
theorem split_atD {α : Type} {M : List α} {i : Nat} (h : i < M.length) : ∃ A x B, M = A ++ x :: B ∧ A.length = i :=
  ⟨M.take i, M[i], M.drop (i + 1), by rw [List.getElem_cons_drop, List.take_append_drop], by rw [List.length_take]; omega⟩
theorem mapTake {L : List DR} {k : Nat} (h : k < L.length) : (L.map (·.1)).take (k + 1) = (L.map (·.1)).take k ++ [L[k].1] := by
  rw [List.take_succ_eq_append_getElem (by rw [List.length_map]; exact h), List.getElem_map]
end Imp
namespace Go.Proofs.YtepljjaienpepaaDoor
open Go Go.RowKit Imp
set_option linter.unusedVariables false
set_option linter.unusedSimpArgs false
theorem slr_cellL {w : World} {lo hi n c : Nat} {a : Option Addr} {P : List (List UInt8)} (h : SlR w lo hi 1 eL (.slice a n c) P) {k : Nat} (hk : k < P.length) :
    ∃ b o, a = some ⟨b, o, none⟩ ∧ lo ≤ b ∧ b < hi ∧ w.cell? ⟨b, o + k, none⟩ = some (.string (mk P[k])) := by
  obtain ⟨a', c', e, h1, h2, h3⟩ := h
  injection e with e1 e2 e3
  obtain ⟨b, o, hb, hlt, hc⟩ := h3 k hk
  refine ⟨b, o, e1.trans hb, hlt.1, hlt.2, ?_⟩
  have := hc 0 _ rfl
  simpa using this
def zDrD : Value := .agg #[.int .i64 0, .string ByteArray.empty, .int .i64 0, .slice none 0 0]
theorem ti_dirD : TI Tryd.prog 26 34 4 56 := TI.mk' (z := zDrD) Tryd.underlying26 (by kernel_rfl) rfl (by decide)
def DCpd (w : World) (L : List DR) (e : Ending) (w' : World) : Prop := ∃ u, ∃ M : List DR, e = .returned u ∧ M.map (·.1) = L.map (·.1) ∧ OwnD w' w.heap.size 34 9 u M ∧ Gr w w'
set_option maxHeartbeats 3200000 in
theorem scopyDirs_own {lo hi : Nat} (v : Value) (L : List DR) (w : World) (hv : DsR w lo hi v L) (hhi : hi ≤ w.heap.size) (hl : L.length ≤ 1000) (hn : ∀ r ∈ L, r.1.names.length ≤ 1000) :
    Calls Tryd.prog 62 #[v] w (DCpd w L) := by
  obtain ⟨hs, hnm⟩ := hv
  obtain ⟨a, c, rfl, h1, h2, h3⟩ := hs
  unfold maxLen at h2
  have ho0 : OwnD (w.alloc (.cells #[] 34)) w.heap.size 34 9 (.slice (some ⟨w.heap.size, 0, none⟩) 0 0) ([] : List DR) := OwnN.nil _ (Own.empty w w.heap.size 34 4 eDr (Nat.le_refl _))
  have HNM := Lib.hid hnm
  have HN := Lib.hid hn
  clear hnm hn
  go_enter Tryd.func62, Tryd.ntmps62
  go_wp2
  go_loopw [3, 4] (fun out i wr => ∃ k : Nat, k ≤ L.length ∧ i = .int .i64 k ∧ ∃ M : List DR, M.map (·.1) = (L.map (·.1)).take k ∧ M.length = k ∧ OwnD wr w.heap.size 34 9 out M ∧ Gr w wr) (fun _ i _ => L.length - (intOf i).toNat)
  case atStart => exact ⟨0, Nat.zero_le _, rfl, [], by simp, rfl, ho0, gr_al _ _⟩
  case round =>
    clear ho0
    obtain ⟨k, hk, rfl, M, hMm, hMl, hown, hgw⟩ := hrel
    have HMm := Lib.hid hMm
    have HMl := Lib.hid hMl
    have hMle : M.length ≤ 1000 := by omega
    clear hMm hMl
    obtain ⟨ua, uc, rfl, _, _⟩ := hown.1.form
    by_cases hlt : k < L.length
    · obtain ⟨b, o, rfl, hbb, hc⟩ := h3 k hlt
      obtain ⟨x, hx⟩ : ∃ x, x = L[k] := ⟨_, rfl⟩
      have hxm : x ∈ L := by rw [hx]; exact List.getElem_mem hlt
      obtain ⟨d, xv⟩ := x
      have hbx : SlR w lo hi 1 eS xv d.names := HNM.out _ hxm
      have hnx : d.names.length ≤ 1000 := HN.out _ hxm
      obtain ⟨na, nc, rfl, _, _⟩ := hbx.form
      have hkw : IntKind.i64.wrap ((k : Int) + 1) = (k : Int) + 1 := IntWalk.i64_in _ (by omega)
      have hki : (k : Int) < (L.length : Int) := by omega
      obtain ⟨c0, c1, c2, c3⟩ := cells_dir (w := wr) (b := b) (o := o) (k := k) (x := ((d, .slice na d.names.length nc) : DR)) (fun j u hu => (hgw.cell (p := ⟨b, o + k * 4 + j, none⟩) (Nat.lt_of_lt_of_le hbb.2 hhi)).trans (hc j u (by rw [← hx]; exact hu)))
      have hg5 : Gr wr (wr.alloc (.cells #[.int .i64 d.root, .string d.pkg, .int .i64 d.stamp, .slice na d.names.length nc] 34)) := gr_al _ _
      have hg6 := hg5.tr (gr_al (wr.alloc (.cells #[.int .i64 d.root, .string d.pkg, .int .i64 d.stamp, .slice na d.names.length nc] 34)) (.cells #[] 9))
      have hz5 : ((wr.alloc (.cells #[.int .i64 d.root, .string d.pkg, .int .i64 d.stamp, .slice na d.names.length nc] 34)).alloc (.cells #[] 9)).heap[wr.heap.size]? = some (.cells #[.int .i64 d.root, .string d.pkg, .int .i64 d.stamp, .slice na d.names.length nc] 34) := (Below.heap_alloc (wr.alloc (.cells #[.int .i64 d.root, .string d.pkg, .int .i64 d.stamp, .slice na d.names.length nc] 34)) (.cells #[] 9) wr.heap.size (by simp)).trans (heap_alloc_new wr (.cells #[.int .i64 d.root, .string d.pkg, .int .i64 d.stamp, .slice na d.names.length nc] 34))
      have hoE : Own ((wr.alloc (.cells #[.int .i64 d.root, .string d.pkg, .int .i64 d.stamp, .slice na d.names.length nc] 34)).alloc (.cells #[] 9)) (wr.heap.size + 1) 9 1 eS (.slice (some ⟨wr.heap.size + 1, 0, none⟩) 0 0) ([] : List ByteArray) := by
        have := Own.empty (α := ByteArray) (wr.alloc (.cells #[.int .i64 d.root, .string d.pkg, .int .i64 d.stamp, .slice na d.names.length nc] 34)) (wr.heap.size + 1) 9 1 eS (by simp)
        rw [World.size_alloc] at this
        exact this
      have hsrc := SlR.below hbx (hgw.tr hg6) hhi
      have hobl := hown.block
      obtain ⟨⟨y0, y1, y2, y3⟩, f0, f1, f2, f3⟩ := rows4 hz5
      have HX := Lib.hid hx
      have HO := Lib.hid hown
      have HZ5 := Lib.hid hz5
      have hww := hgw.size
      clear hx hown hz5 hc h3 hbx
      go_wp2_with (first
        | (at_builtin
           have hownB := (((HO.out.gr hg6).chg (p := fun b => b = wr.heap.size + 1) (ChgN.of_grown hg66 (fun b hb => by have hb : some (wr.heap.size + 1) = some b := hb; injection hb with hb; exact hb.symm)) (fun b hb q => by have := (hobl b hb).2; omega)).chg (p := fun b => b = wr.heap.size) (ChgN.set w6 wr.heap.size 3 (.slice va d.names.length vc) rfl) (fun b hb q => by have := (hobl b hb).2; omega)).gr (gr_al (w6.setCell ⟨wr.heap.size, 3, none⟩ (.slice va d.names.length vc)) (.cells #[.int .i64 d.root, .string d.pkg, .int .i64 d.stamp, .slice va d.names.length vc] 34))
           have hofB := (hown6.keep (w' := w6.setCell ⟨wr.heap.size, 3, none⟩ (.slice va d.names.length vc)) (fun b hb => Below.heap_setCell _ _ _ b (by show b ≠ wr.heap.size; have := (hown6.block b hb).1; omega))).alloc (.cells #[.int .i64 d.root, .string d.pkg, .int .i64 d.stamp, .slice va d.names.length vc] 34)
           have hsB := SlR.oneAt (w6.setCell ⟨wr.heap.size, 3, none⟩ (.slice va d.names.length vc)) 0 w6.heap.size ((d, .slice va d.names.length vc) : DR) 34 (enc := eDr) (k := 4) (by simp [World.setCell]) (Nat.zero_le _) rfl
           refine wpList_app _ rfl (.tmp 22) (.tmp 24) ti_dirD rfl rfl hownB.1 rfl hsB (fun _ _ => rfl) (by simp [eDr, Value.oneCell']) (by unfold maxLen; simp; omega) (by simp; omega) (by simp [World.setCell]; omega) ?_
           intro v9 w9 hown9 hg9 hat9
           obtain ⟨va9, vc9, hv9, _, _⟩ := hown9.form
           have hv9' : v9 = .slice va9 (M.length + 1) vc9 := by rw [hv9, List.length_append]; rfl
           clear hv9
           subst hv9'
           have HOB := Lib.hid hownB
           have HFB := Lib.hid hofB
           have HO9 := Lib.hid hown9
           clear hownB hofB hown9)
        | (at_builtin
           refine wpList_app _ rfl (.tmp 17) (.tmp 19) ti_strs rfl rfl hoE rfl hsrc (fun _ _ => rfl) (by simp [eS, Value.oneCell']) (by unfold maxLen; simp; omega) (by simp; omega) (by simp) ?_
           intro v6 w6 hown6 hg66 hat6
           simp only [List.nil_append] at hown6
           obtain ⟨va, vc, hv6, _, _⟩ := hown6.form
           subst hv6
           have hs66 : wr.heap.size + 1 + 1 ≤ w6.heap.size := by have := hg66.size; simpa using this
           have hz6 := (hg66.block wr.heap.size (lt_of_block HZ5.out) (by intro q; have q : some wr.heap.size = some (wr.heap.size + 1) := q; injection q with q; omega)).trans HZ5.out
           clear y0 y1 y2 y3 f0 f1 f2 f3
           obtain ⟨⟨y0, y1, y2, y3⟩, f0, f1, f2, f3⟩ := rows4 hz6
           have HZ6 := Lib.hid hz6
           clear hz6))
      go_roundw
      case rel =>
        have hgr6 : Gr w w6 := (hgw.tr hg6).grown hg66 (by simp; omega) (fun b hb => by have hb : some (wr.heap.size + 1) = some b := hb; injection hb with hb; omega)
        have hgr7 : Gr w (w6.setCell ⟨wr.heap.size, 3, none⟩ (.slice va d.names.length vc)) := Below.setCell hgr6 (p := ⟨wr.heap.size, 3, none⟩) (by show w.heap.size ≤ wr.heap.size; omega) _
        have hgr8 := hgr7.tr (gr_al _ (.cells #[.int .i64 d.root, .string d.pkg, .int .i64 d.stamp, .slice va d.names.length vc] 34))
        have hs6 := hg66.size
        simp only [World.size_alloc] at hs6
        refine ⟨k + 1, by omega, by go_num, M ++ [(d, .slice va d.names.length vc)], ?_, by rw [List.length_append, HMl.out]; rfl, OwnN.app (x := ((d, .slice va d.names.length vc) : DR)) HOB.out (HFB.out.mono (by omega)) (fun b hb q => by have h1 := (HFB.out.block b hb).1; have h2 := (hobl b q).2; omega) HO9.out hg9 hat9, hgr8.grown hg9 hgr8.size (fun b hb => (HOB.out.block b (Or.inl hb)).1)⟩
        rw [List.map_append, HMm.out, mapTake hlt, ← HX.out]; rfl
      case measure => simp [intOf]; omega
    · have HO := Lib.hid hown
      clear hown h3
      go_wp2
      go_ret
      exact ⟨_, M, rfl, by rw [HMm.out, List.take_of_length_le (by rw [List.length_map]; omega)], HO.out, hgw⟩

end Go.Proofs.YtepljjaienpepaaDoor
