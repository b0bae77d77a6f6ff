/-
  Walk of the law on modules of drawn files.
-/
import Derived.Test.YthjegibkbpafeaaDoorDrawFZ
import Derived.Test.YthjegibkbpafeaaDoorZ4
import Derived.Test.YthjegibkbpafeaaDoorZ6
import Derived.Test.YthjegibkbpafeaaDoorTreeFZ
namespace Imp
open Go
theorem nameP_name {f : Fil} (h : okFil f = true) : vName (nameP f) = true := by
  unfold okFil at h
  simp only [Bool.and_eq_true] at h
  obtain ⟨⟨⟨⟨_, h2⟩, _⟩, _⟩, h5⟩ := h
  unfold nameP
  cases hi : f.init
  · rw [hi] at h5
    simp only [Bool.false_eq_true, ↓reduceIte, Bool.and_eq_true] at h5
    exact h5.2
  · rw [hi] at h5
    simp only [↓reduceIte, Bool.and_eq_true] at h5
    have he : (bs f.pkg).isEmpty = false := by rw [← isEmptyT]; simpa using h5.1
    unfold vPkg at h2
    rw [he, Bool.false_or] at h2
    exact h2
where isEmptyT {s : ByteArray} : s.toList.isEmpty = (bs s).isEmpty := by rw [Go.Proofs.YthjegibkbpafeaaDoor.isEmpty_toList]
theorem part_of_ok {f : Fil} (h : okFil f = true) (hi : f.init = false) : vPart (bs f.name) = true := by
  unfold okFil at h
  rw [hi] at h
  simp only [Bool.and_eq_true, Bool.false_eq_true, ↓reduceIte] at h
  exact h.2.1
end Imp
namespace Go.Proofs.YthjegibkbpafeaaDoor
open Go Go.RowKit Imp
set_option linter.unusedVariables false
set_option linter.unusedSimpArgs false

end Go.Proofs.YthjegibkbpafeaaDoor

/-
  Walks: trees drawn. Printed by drawt.py.
-/
namespace Imp
open Go Go.RowKit
/-- A small file: what a drawn one is. -/
def SmFd (f : Fil) : Prop := f.body.length ≤ 5 ∧ (∀ s ∈ f.body, s.mod.size ≤ 5 ∧ s.name.size ≤ 5 ∧ smSt s) ∧ f.pkg.size ≤ 7 ∧ f.name.size ≤ 1
theorem OwnN.keepR {w w' : World} {base tO K tI kI g : Nat} {α β : Type} {enc : α × Value → List Value} {encI : β → List Value} {inner : α → List β} {v : Value} {M : List (α × Value)}
    (h : OwnN w base tO K enc tI kI encI inner v M) (hg : w.grownBy w' (some g)) (hb : g < base) : OwnN w' base tO K enc tI kI encI inner v M :=
  h.chg (ChgN.of_grown hg (p := fun b => b = g) (fun i q => by injection q with q; exact q.symm)) (fun b hb q => by have := (h.block b hb).1; omega)
theorem OwnN.setB {w : World} {base tO K tI kI b o : Nat} {u : Value} {α β : Type} {enc : α × Value → List Value} {encI : β → List Value} {inner : α → List β} {v : Value} {M : List (α × Value)}
    (h : OwnN w base tO K enc tI kI encI inner v M) (hb : b < base) : OwnN (w.setCell ⟨b, o, none⟩ u) base tO K enc tI kI encI inner v M :=
  h.keepR (grown_set w b o u) hb
theorem OwnN.flR {w : World} {base tF tS : Nat} {v : Value} {M : List FR} (h : OwnN w base tF 6 eF tS 5 eSt Fil.body v M) : FlR w base w.heap.size v M :=
  ⟨h.1.reads (fun _ _ => rfl), fun r hr => (h.2.1 r hr).reads (fun _ _ => rfl)⟩
end Imp
namespace Go.Proofs.YthjegibkbpafeaaDoor
open Go Go.RowKit Imp
set_option linter.unusedVariables false
set_option linter.unusedSimpArgs false
def zFlT : Value := .agg #[.int .i64 0, .string ByteArray.empty, .string ByteArray.empty, .bool false, .int .i64 0, .slice none 0 0]
theorem ti_fil : TI Tryd.prog 27 40 6 80 := TI.mk' (z := zFlT) Tryd.underlying27 (by kernel_rfl) rfl (by decide)
def DTree (w : World) (g p c : Nat) (e : Ending) (w' : World) : Prop :=
  ∃ v, ∃ M : List FR, ∃ p', e = .returned (.agg #[v]) ∧ OwnN w' w.heap.size 40 6 eF 66 5 eSt Fil.body v M ∧ M.length ≤ 10 ∧ (∀ r ∈ M, SmFd r.1) ∧ Rdr w' g p' ∧ p' ≤ p + c ∧ w.grownBy w' (some g)
set_option maxHeartbeats 3200000 in
theorem someTree_any (g p : Nat) (w : World) (h : Rdr w g p) (hp : p < 250000000) :
    Calls Tryd.prog 39 #[.pointer (some ⟨g, 0, none⟩)] w (DTree w g p 1300) := by
  have hlt := h.lt
  have hg0 : w.grownBy ((w.alloc (.cells #[.slice none 0 0] 29)).alloc (.cells #[.slice none 0 0] 29)) (some g) := grown_tr (grown_al w _ _) (grown_al _ _ _)
  have hz0 := (Below.heap_alloc (w.alloc (.cells #[.slice none 0 0] 29)) (.cells #[.slice none 0 0] 29) w.heap.size (by simp)).trans (heap_alloc_new w (.cells #[.slice none 0 0] 29))
  have hz1 := heap_alloc2_new w (.cells #[.slice none 0 0] 29) (.cells #[.slice none 0 0] 29)
  have hone := one_lit g p [5, 4, 6, 3, 8, 1, 0, 10] ((w.alloc (.cells #[.slice none 0 0] 29)).alloc (.cells #[.slice none 0 0] 29)) ((h.al _).al _) (by omega) (by decide) (by decide)
  rw [show ((w.alloc (.cells #[.slice none 0 0] 29)).alloc (.cells #[.slice none 0 0] 29)).heap.size = w.heap.size + 1 + 1 by simp] at hone
  have HONE := Lib.hid hone
  clear hone
  go_enter Tryd.func39, Tryd.ntmps39
  go_wp2_with fail
  refine HONE.out.mono ?_
  rintro e w1 ⟨n, rfl, hin, hr1, hg1⟩
  have hn : 0 ≤ n ∧ n ≤ 10 := by simp at hin; omega
  obtain ⟨m, rfl⟩ : ∃ m : Nat, n = m := ⟨n.toNat, by omega⟩
  have hz0 := keep_blk hz0 hg1 (by omega)
  have hz1 := keep_blk hz1 hg1 (by omega)
  have gg1 := grown_tr hg0 hg1
  clear hin hg0 hg1 HONE
  go_wp2
  go_loopw [4] (fun i wr => ∃ j : Nat, i = .int .i64 j ∧ ∃ v, ∃ M : List FR, ∃ p', wr.heap[w.heap.size]? = some (.cells #[.slice none 0 0] 29) ∧ wr.heap[w.heap.size + 1]? = some (.cells #[v] 29) ∧ OwnN wr (w.heap.size + 2) 40 6 eF 66 5 eSt Fil.body v M ∧ M.length + j ≤ 10 ∧ (∀ r ∈ M, SmFd r.1) ∧ Rdr wr g p' ∧ p' + 122 * j ≤ p + 1300 ∧ w.grownBy wr (some g)) (fun i _ => (intOf i).toNat)
  case atStart => exact ⟨m, rfl, .slice none 0 0, [], _, hz0, hz1, OwnN.nil _ (Own.nil _ _ _ _ _), by simp; omega, by simp, hr1, by omega, gg1⟩
  case round =>
    obtain ⟨j, rfl, v, M, p', hz0, hz1, hown, hll, hsm, hR, hp', gg⟩ := hrel
    by_cases hlt2 : 0 < j
    · have hjw : IntKind.i64.wrap ((j : Int) - 1) = (j : Int) - 1 := IntWalk.i64_in _ (by omega)
      have hwr : w.heap.size + 2 ≤ wr.heap.size := by have := lt_of_block hz1; omega
      obtain ⟨va, vc, rfl, _, _⟩ := hown.1.form
      have HSM := Lib.hid hsm
      clear hr1 gg1 hsm
      go_wp2_with fail
      refine (someFile_sm g p' wr hR (by omega)).mono ?_
      rintro e w2 ⟨f, fv, p2, rfl, hof, hfl, hfs, hfp, hfn, hr2, hp2, hg2⟩
      obtain ⟨fa, fc, rfl, _, _⟩ := hof.form
      have hz0 := keep_blk hz0 hg2 (by omega)
      have hz1 := keep_blk hz1 hg2 (by omega)
      have hobl := hown.block
      have hofb := hof.block
      have hown := hown.keepR hg2 (by omega)
      have gg := grown_tr gg hg2
      have hs2 : wr.heap.size ≤ w2.heap.size := hg2.size
      have hzf := heap_alloc_new w2 (.cells #[.int .i64 f.root, .string f.pkg, .string f.name, .bool f.init, .int .i64 f.stamp, .slice fa f.body.length fc] 40)
      have hgf := gr_al w2 (.cells #[.int .i64 f.root, .string f.pkg, .string f.name, .bool f.init, .int .i64 f.stamp, .slice fa f.body.length fc] 40)
      have hz0 := (hgf.block _ (lt_of_block hz0)).trans hz0
      have hz1 := (hgf.block _ (lt_of_block hz1)).trans hz1
      have hown := hown.gr hgf
      have hof := (hof.mono (base' := w.heap.size + 2) (by omega)).alloc (.cells #[.int .i64 f.root, .string f.pkg, .string f.name, .bool f.init, .int .i64 f.stamp, .slice fa f.body.length fc] 40)
      have gg := grown_tr gg (grown_al w2 (.cells #[.int .i64 f.root, .string f.pkg, .string f.name, .bool f.init, .int .i64 f.stamp, .slice fa f.body.length fc] 40) (some g))
      have hr2 := hr2.al (.cells #[.int .i64 f.root, .string f.pkg, .string f.name, .bool f.init, .int .i64 f.stamp, .slice fa f.body.length fc] 40)
      have hfa := sfileAt_any (.slice va M.length vc) M (f, .slice fa f.body.length fc) (w2.alloc (.cells #[.int .i64 f.root, .string f.pkg, .string f.name, .bool f.init, .int .i64 f.stamp, .slice fa f.body.length fc] 40)) (hown.1.reads (fun _ _ => rfl)) (Nat.le_refl _)
      obtain ⟨I, hI⟩ : ∃ I, ix (fun r : FR => sameP r.1 f) M = I := ⟨_, rfl⟩
      simp only [hI] at hfa
      have HFA := Lib.hid hfa
      obtain ⟨x1, xf1⟩ := row1 hz1
      obtain ⟨⟨f0, f1, f2, f3, f4, f5⟩, _⟩ := rows6 hzf
      have hne1 : ¬ w2.heap.size = w.heap.size + 1 := by omega
      have hne2 : ¬ w.heap.size + 1 = w2.heap.size := by omega
      have HFS := Lib.hid hfs
      clear hg2 hfa hI hR hfs
      go_wp2_with fail
      refine HFA.out.mono ?_
      rintro e w3 ⟨rfl, hb3⟩
      have hs3 := hb3.size
      simp only [World.size_alloc] at hs3
      have hz0 := (hb3.block _ (lt_of_block hz0)).trans hz0
      have hz1 := (hb3.block _ (lt_of_block hz1)).trans hz1
      have hzf := (hb3.block _ (lt_of_block hzf)).trans hzf
      have hown := hown.gr hb3
      have hof := Own.keep hof (fun b hb => hb3.block b (hof.block b hb).2)
      have hr2 := hr2.gr hb3
      have gg := grown_tr gg (Imp.grown_gr (g := some g) hb3)
      clear x1 xf1 f0 f1 f2 f3 f4 f5 HFA hb3
      by_cases hI : I < 0
      · have hId : decide (I < 0) = true := decide_eq_true hI
        have hgs := gr_al w3 (.cells #[.int .i64 f.root, .string f.pkg, .string f.name, .bool f.init, .int .i64 f.stamp, .slice fa f.body.length fc] 40)
        have hz0 := (hgs.block _ (lt_of_block hz0)).trans hz0
        have hz1a := (hgs.block _ (lt_of_block hz1)).trans hz1
        have hown := hown.gr hgs
        have hof := hof.alloc (.cells #[.int .i64 f.root, .string f.pkg, .string f.name, .bool f.init, .int .i64 f.stamp, .slice fa f.body.length fc] 40)
        have hr2 := hr2.al (.cells #[.int .i64 f.root, .string f.pkg, .string f.name, .bool f.init, .int .i64 f.stamp, .slice fa f.body.length fc] 40)
        have gg := grown_tr gg (grown_al w3 (.cells #[.int .i64 f.root, .string f.pkg, .string f.name, .bool f.init, .int .i64 f.stamp, .slice fa f.body.length fc] 40) (some g))
        have hsrc := SlR.oneAt w3 w.heap.size w3.heap.size (f, .slice fa f.body.length fc) 40 (enc := eF) (k := 6) rfl (by omega) rfl
        obtain ⟨x1, xf1⟩ := row1 hz1
        obtain ⟨⟨f0, f1, f2, f3, f4, f5⟩, _⟩ := rows6 hzf
        have hbl1 := lt_of_block hz1a
        have HZ1 := Lib.hid hz1a
        have HO := Lib.hid hown
        clear hz1a hown
        go_wp2_with (at_builtin
                     refine wpList_app _ rfl (.tmp 21) (.tmp 23) ti_fil rfl rfl HO.out.1 rfl hsrc (fun _ _ => rfl) (by simp [eF, Value.oneCell']) (by unfold maxLen; simp; omega) (by simp; omega) (by simp; omega) ?_
                     intro v9 w9 hown9 hg9 hat9
                     have hz1b := (hg9.block _ hbl1 (by intro q; have := (hobl _ (Or.inl q.symm)).1; omega)).trans HZ1.out
                     obtain ⟨y1, yf1⟩ := row1 hz1b
                     obtain ⟨va9, vc9, hv9, _, _⟩ := hown9.form
                     have hv9' : v9 = .slice va9 (M.length + 1) vc9 := by rw [hv9, List.length_append]; rfl
                     clear hv9
                     subst hv9'
                     have HZ9 := Lib.hid hz1b
                     clear hz1b)
        go_roundw
        case rel =>
          have o9 := OwnN.app (x := (f, .slice fa f.body.length fc)) HO.out hof (fun b hb q => by have h1 := (hofb b hb).1; have h2 := (hobl b q).2; omega) hown9 hg9 hat9
          refine ⟨j - 1, by go_num, _, M ++ [(f, .slice fa f.body.length fc)], p2, ?_, heap_set1 HZ9.out, o9.setB (by omega), by simp; omega, ?_, ?_, by omega, ?_⟩
          · exact set_other ((hg9.block _ (lt_of_block hz0) (by intro q; have := (hobl _ (Or.inl q.symm)).1; omega)).trans hz0) (by omega)
          · intro r hr
            rw [List.mem_append, List.mem_singleton] at hr
            rcases hr with hr | rfl
            · exact HSM.out r hr
            · exact ⟨by show f.body.length ≤ 5; omega, HFS.out, hfp, hfn⟩
          · exact (hr2.grown hg9 (fun b hb => by have := (hobl _ (Or.inl hb)).1; omega)).grown (grown_set _ _ _ _) (fun b hb => by injection hb with hb; omega)
          · exact grown_fresh (grown_fresh2 gg hg9 (fun b hb => by have := (hobl _ (Or.inl hb)).1; omega)) (grown_set _ _ _ _) (by omega)
        case measure => simp [intOf]; omega
      · have hId : decide (I < 0) = false := decide_eq_false hI
        go_wp2
        go_roundw
        case rel => exact ⟨j - 1, by go_num, .slice va M.length vc, M, p2, hz0, hz1, hown, by omega, HSM.out, hr2, by omega, gg⟩
        case measure => simp [intOf]; omega
    · obtain ⟨x1, xf1⟩ := row1 hz1
      obtain ⟨x0, xf0⟩ := row1 hz0
      obtain ⟨va, vc, rfl, _, _⟩ := hown.1.form
      have HZ := Lib.hid hz0
      have HSM := Lib.hid hsm
      clear hz0 hz1 hr1 gg1 hsm
      go_wp2
      refine bodyPost_ret (results_cell_row rfl _ _ w.heap.size 29 _ (0, 0) _ rfl (heap_set1 HZ.out) Tryd.underlying29 rfl (by kernel_rfl)) rfl ?_
      exact ⟨_, M, p', rfl, (hown.setB (by omega)).mono (by omega), by omega, HSM.out, hR.grown (grown_set _ _ _ _) (fun b hb => by injection hb with hb; omega), by omega, grown_fresh gg (grown_set _ _ _ _) (Nat.le_refl _)⟩
end Go.Proofs.YthjegibkbpafeaaDoor
