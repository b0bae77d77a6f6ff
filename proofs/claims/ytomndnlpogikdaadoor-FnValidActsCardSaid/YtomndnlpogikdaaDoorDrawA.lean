/-
  Walks: acts drawn. Printed by drawa.py.
-/
import Derived.Test.YtomndnlpogikdaaDoorDrawT
import Derived.Test.YtomndnlpogikdaaDoorActsV
namespace Imp
open Go Go.RowKit
def SmAd (a : Acc) : Prop := SmFd a.file ∧ a.nm.size ≤ 5
theorem OwnN.alR {w : World} {base tA tS : Nat} {v : Value} {M : List AR} (h : OwnN w base tA 9 eA tS 5 eSt (fun a : Acc => a.file.body) v M) : AlR w base w.heap.size v M :=
  ⟨h.1.reads (fun _ _ => rfl), fun r hr => (h.2.1 r hr).reads (fun _ _ => rfl)⟩
end Imp
namespace Go.Proofs.YtomndnlpogikdaaDoor
open Go Go.RowKit Imp
set_option linter.unusedVariables false
set_option linter.unusedSimpArgs false
theorem ti_act : TI Tryd.prog 56 95 9 112 := TI.mk' (z := zAc) Tryd.underlying56 (by kernel_rfl) rfl (by decide)
def DActs (w : World) (g p c : Nat) (e : Ending) (w' : World) : Prop :=
  ∃ v, ∃ M : List AR, ∃ p', e = .returned v ∧ OwnN w' w.heap.size 95 9 eA 80 5 eSt (fun a : Acc => a.file.body) v M ∧ M.length ≤ 16 ∧ (∀ r ∈ M, SmAd r.1) ∧ Rdr w' g p' ∧ p' ≤ p + c ∧ w.grownBy w' (some g)
set_option maxRecDepth 20000 in
set_option maxHeartbeats 6400000 in
theorem someActs_any (g p : Nat) (w : World) (h : Rdr w g p) (hp : p < 250000000) :
    Calls Tryd.prog 66 #[.pointer (some ⟨g, 0, none⟩)] w (DActs w g p 2100) := by
  have hlt := h.lt
  have ho0 : Own (w.alloc (.cells #[] 95)) w.heap.size 95 9 eA (.slice (some ⟨w.heap.size, 0, none⟩) 0 0) ([] : List AR) := Own.empty w w.heap.size 95 9 eA (Nat.le_refl _)
  have hone := one_lit g p [8, 12, 6, 16, 3, 0] (w.alloc (.cells #[] 95)) (h.al _) (by omega) (by decide) (by decide)
  rw [show (w.alloc (.cells #[] 95)).heap.size = w.heap.size + 1 by simp] at hone
  have HONE := Lib.hid hone
  clear hone
  go_enter Tryd.func66, Tryd.ntmps66
  go_wp2_with fail
  refine HONE.out.mono ?_
  rintro e w1 ⟨n, rfl, hin, hr1, hg1⟩
  have hn : 0 ≤ n ∧ n ≤ 16 := by simp at hin; omega
  obtain ⟨m, rfl⟩ : ∃ m : Nat, n = m := ⟨n.toNat, by omega⟩
  have ho1 := Own.keepR ho0 hg1 hlt
  have gg1 := grown_tr (grown_al w (.cells #[] 95) (some g)) hg1
  clear hin hg1 HONE ho0
  go_wp2
  go_loopw [3, 4, 5] (fun out fl i wr => ∃ j q : Nat, i = .int .i64 j ∧ fl = .int .i64 q ∧ ∃ M : List AR, ∃ p', OwnN wr w.heap.size 95 9 eA 80 5 eSt (fun a : Acc => a.file.body) out M ∧ M.length + j ≤ 16 ∧ q + j ≤ 16 ∧ (∀ r ∈ M, SmAd r.1) ∧ Rdr wr g p' ∧ p' + 125 * j ≤ p + 2050 ∧ w.grownBy wr (some g)) (fun _ _ i _ => (intOf i).toNat)
  case atStart => exact ⟨m, 0, rfl, rfl, [], _, OwnN.nil _ ho1, by simp; omega, by omega, by simp, hr1, by omega, gg1⟩
  case round =>
    obtain ⟨j, q, rfl, rfl, M, p', hown, hll, hql, hsm, hR, hp', gg⟩ := hrel
    have hwr : w.heap.size ≤ wr.heap.size := gg.size
    obtain ⟨va, vc, rfl, _, _⟩ := hown.1.form
    have HSM := Lib.hid hsm
    clear hr1 gg1 hsm ho1
    by_cases hlt2 : 0 < j
    · have hjw : IntKind.i64.wrap ((j : Int) - 1) = (j : Int) - 1 := IntWalk.i64_in _ (by omega)
      have hqw : IntKind.i64.wrap ((q : Int) + 1) = (q : Int) + 1 := IntWalk.i64_in _ (by omega)
      go_wp2_with fail
      refine (pick_any g p' 8 wr hR (by omega) (by omega)).mono ?_
      rintro e w2 ⟨k, rfl, hk0, hk1, hr2, hg2⟩
      have hk1 := hk1 (by omega)
      have hown := hown.keepR hg2 hlt
      have gg := grown_tr gg hg2
      have hs2 : w.heap.size ≤ w2.heap.size := gg.size
      have hobl := hown.block
      clear hg2 hwr
      rcases (show k = 0 ∨ k = 1 ∨ k = 2 ∨ k = 3 ∨ k = 4 ∨ k = 5 ∨ k = 6 ∨ k = 7 by omega) with rfl | rfl | rfl | rfl | rfl | rfl | rfl | rfl

      · skip
        go_wp2_with fail
        refine (someFile_sm g _ w2 hr2 (by omega)).mono ?_
        rintro e w3 ⟨f, fv, p3, rfl, hof, hfl, hfs, hfp, hfn, hrZ, hp3, hg3⟩
        obtain ⟨fa, fc, rfl, _, _⟩ := hof.form
        have hofb := hof.block
        have hown := hown.keepR hg3 hlt
        have gg := grown_tr gg hg3
        have hs3 : w2.heap.size ≤ w3.heap.size := hg3.size
        clear hg3
        have hgs := gr_al w3 (.cells #[.int .i64 0, .int .i64 f.root, .string f.pkg, .string f.name, .bool f.init, .int .i64 f.stamp, .slice fa f.body.length fc, .int .i64 0, .string ByteArray.empty] 95)
        have hown := hown.gr hgs
        have hofA := (hof.mono (base' := w.heap.size) (by omega)).alloc (.cells #[.int .i64 0, .int .i64 f.root, .string f.pkg, .string f.name, .bool f.init, .int .i64 f.stamp, .slice fa f.body.length fc, .int .i64 0, .string ByteArray.empty] 95)
        have hrA := hrZ.al (.cells #[.int .i64 0, .int .i64 f.root, .string f.pkg, .string f.name, .bool f.init, .int .i64 f.stamp, .slice fa f.body.length fc, .int .i64 0, .string ByteArray.empty] 95)
        have gg := grown_tr gg (grown_al w3 (.cells #[.int .i64 0, .int .i64 f.root, .string f.pkg, .string f.name, .bool f.init, .int .i64 f.stamp, .slice fa f.body.length fc, .int .i64 0, .string ByteArray.empty] 95) (some g))
        have hsrc := SlR.oneAt w3 w.heap.size w3.heap.size ((⟨0, f, 0, ByteArray.empty⟩ : Acc), (.slice fa f.body.length fc : Value)) 95 (enc := eA) (k := 9) rfl (by omega) rfl
        have HO := Lib.hid hown
        clear hown
        go_wp2_with (at_builtin
                     refine wpList_app _ rfl (.tmp 26) (.tmp 30) ti_act rfl rfl HO.out.1 rfl hsrc (fun _ _ => rfl) (by simp [eA, Value.oneCell']) (by unfold maxLen; simp; omega) (by simp; omega) (by simp; omega) ?_
                     intro v9 w9 hown9 hg9 hat9
                     obtain ⟨va9, vc9, hv9, _, _⟩ := hown9.form
                     have hv9' : v9 = .slice va9 (M.length + 1) vc9 := by rw [hv9, List.length_append]; rfl
                     clear hv9
                     subst hv9')
        go_roundw
        case rel =>
          have o9 := OwnN.app (x := ((⟨0, f, 0, ByteArray.empty⟩ : Acc), (.slice fa f.body.length fc : Value))) HO.out hofA (fun b hb q => by have h1 := (hofb b hb).1; have h2 := (hobl b q).2; omega) hown9 hg9 hat9
          refine ⟨j - 1, q + 1, by go_num, by first | rfl | go_num, M ++ [((⟨0, f, 0, ByteArray.empty⟩ : Acc), (.slice fa f.body.length fc : Value))], p3, o9, by simp; omega, by omega, ?_, ?_, by omega, ?_⟩
          · intro r hr
            rw [List.mem_append, List.mem_singleton] at hr
            rcases hr with hr | rfl
            · exact HSM.out r hr
            · exact ⟨⟨by show f.body.length ≤ 5; omega, hfs, hfp, hfn⟩, by show (ByteArray.empty : ByteArray).size ≤ 5; decide⟩
          · exact hrA.grown hg9 (fun b hb => by have := (hobl _ (Or.inl hb)).1; omega)
          · exact grown_fresh2 gg hg9 (fun b hb => by have := (hobl _ (Or.inl hb)).1; omega)
        case measure => simp [intOf]; omega
      · skip
        go_wp2_with fail
        refine (someFile_sm g _ w2 hr2 (by omega)).mono ?_
        rintro e w3 ⟨f, fv, p3, rfl, hof, hfl, hfs, hfp, hfn, hrZ, hp3, hg3⟩
        obtain ⟨fa, fc, rfl, _, _⟩ := hof.form
        have hofb := hof.block
        have hown := hown.keepR hg3 hlt
        have gg := grown_tr gg hg3
        have hs3 : w2.heap.size ≤ w3.heap.size := hg3.size
        clear hg3
        have hgs := gr_al w3 (.cells #[.int .i64 0, .int .i64 f.root, .string f.pkg, .string f.name, .bool f.init, .int .i64 f.stamp, .slice fa f.body.length fc, .int .i64 0, .string ByteArray.empty] 95)
        have hown := hown.gr hgs
        have hofA := (hof.mono (base' := w.heap.size) (by omega)).alloc (.cells #[.int .i64 0, .int .i64 f.root, .string f.pkg, .string f.name, .bool f.init, .int .i64 f.stamp, .slice fa f.body.length fc, .int .i64 0, .string ByteArray.empty] 95)
        have hrA := hrZ.al (.cells #[.int .i64 0, .int .i64 f.root, .string f.pkg, .string f.name, .bool f.init, .int .i64 f.stamp, .slice fa f.body.length fc, .int .i64 0, .string ByteArray.empty] 95)
        have gg := grown_tr gg (grown_al w3 (.cells #[.int .i64 0, .int .i64 f.root, .string f.pkg, .string f.name, .bool f.init, .int .i64 f.stamp, .slice fa f.body.length fc, .int .i64 0, .string ByteArray.empty] 95) (some g))
        have hsrc := SlR.oneAt w3 w.heap.size w3.heap.size ((⟨0, f, 0, ByteArray.empty⟩ : Acc), (.slice fa f.body.length fc : Value)) 95 (enc := eA) (k := 9) rfl (by omega) rfl
        have HO := Lib.hid hown
        clear hown
        go_wp2_with (at_builtin
                     refine wpList_app _ rfl (.tmp 26) (.tmp 30) ti_act rfl rfl HO.out.1 rfl hsrc (fun _ _ => rfl) (by simp [eA, Value.oneCell']) (by unfold maxLen; simp; omega) (by simp; omega) (by simp; omega) ?_
                     intro v9 w9 hown9 hg9 hat9
                     obtain ⟨va9, vc9, hv9, _, _⟩ := hown9.form
                     have hv9' : v9 = .slice va9 (M.length + 1) vc9 := by rw [hv9, List.length_append]; rfl
                     clear hv9
                     subst hv9')
        go_roundw
        case rel =>
          have o9 := OwnN.app (x := ((⟨0, f, 0, ByteArray.empty⟩ : Acc), (.slice fa f.body.length fc : Value))) HO.out hofA (fun b hb q => by have h1 := (hofb b hb).1; have h2 := (hobl b q).2; omega) hown9 hg9 hat9
          refine ⟨j - 1, q + 1, by go_num, by first | rfl | go_num, M ++ [((⟨0, f, 0, ByteArray.empty⟩ : Acc), (.slice fa f.body.length fc : Value))], p3, o9, by simp; omega, by omega, ?_, ?_, by omega, ?_⟩
          · intro r hr
            rw [List.mem_append, List.mem_singleton] at hr
            rcases hr with hr | rfl
            · exact HSM.out r hr
            · exact ⟨⟨by show f.body.length ≤ 5; omega, hfs, hfp, hfn⟩, by show (ByteArray.empty : ByteArray).size ≤ 5; decide⟩
          · exact hrA.grown hg9 (fun b hb => by have := (hobl _ (Or.inl hb)).1; omega)
          · exact grown_fresh2 gg hg9 (fun b hb => by have := (hobl _ (Or.inl hb)).1; omega)
        case measure => simp [intOf]; omega
      · skip
        go_wp2_with fail
        refine (someFile_sm g _ w2 hr2 (by omega)).mono ?_
        rintro e w3 ⟨f, fv, p3, rfl, hof, hfl, hfs, hfp, hfn, hrZ, hp3, hg3⟩
        obtain ⟨fa, fc, rfl, _, _⟩ := hof.form
        have hofb := hof.block
        have hown := hown.keepR hg3 hlt
        have gg := grown_tr gg hg3
        have hs3 : w2.heap.size ≤ w3.heap.size := hg3.size
        clear hg3
        have hgs := gr_al w3 (.cells #[.int .i64 0, .int .i64 f.root, .string f.pkg, .string f.name, .bool f.init, .int .i64 f.stamp, .slice fa f.body.length fc, .int .i64 0, .string ByteArray.empty] 95)
        have hown := hown.gr hgs
        have hofA := (hof.mono (base' := w.heap.size) (by omega)).alloc (.cells #[.int .i64 0, .int .i64 f.root, .string f.pkg, .string f.name, .bool f.init, .int .i64 f.stamp, .slice fa f.body.length fc, .int .i64 0, .string ByteArray.empty] 95)
        have hrA := hrZ.al (.cells #[.int .i64 0, .int .i64 f.root, .string f.pkg, .string f.name, .bool f.init, .int .i64 f.stamp, .slice fa f.body.length fc, .int .i64 0, .string ByteArray.empty] 95)
        have gg := grown_tr gg (grown_al w3 (.cells #[.int .i64 0, .int .i64 f.root, .string f.pkg, .string f.name, .bool f.init, .int .i64 f.stamp, .slice fa f.body.length fc, .int .i64 0, .string ByteArray.empty] 95) (some g))
        have hsrc := SlR.oneAt w3 w.heap.size w3.heap.size ((⟨0, f, 0, ByteArray.empty⟩ : Acc), (.slice fa f.body.length fc : Value)) 95 (enc := eA) (k := 9) rfl (by omega) rfl
        have HO := Lib.hid hown
        clear hown
        go_wp2_with (at_builtin
                     refine wpList_app _ rfl (.tmp 26) (.tmp 30) ti_act rfl rfl HO.out.1 rfl hsrc (fun _ _ => rfl) (by simp [eA, Value.oneCell']) (by unfold maxLen; simp; omega) (by simp; omega) (by simp; omega) ?_
                     intro v9 w9 hown9 hg9 hat9
                     obtain ⟨va9, vc9, hv9, _, _⟩ := hown9.form
                     have hv9' : v9 = .slice va9 (M.length + 1) vc9 := by rw [hv9, List.length_append]; rfl
                     clear hv9
                     subst hv9')
        go_roundw
        case rel =>
          have o9 := OwnN.app (x := ((⟨0, f, 0, ByteArray.empty⟩ : Acc), (.slice fa f.body.length fc : Value))) HO.out hofA (fun b hb q => by have h1 := (hofb b hb).1; have h2 := (hobl b q).2; omega) hown9 hg9 hat9
          refine ⟨j - 1, q + 1, by go_num, by first | rfl | go_num, M ++ [((⟨0, f, 0, ByteArray.empty⟩ : Acc), (.slice fa f.body.length fc : Value))], p3, o9, by simp; omega, by omega, ?_, ?_, by omega, ?_⟩
          · intro r hr
            rw [List.mem_append, List.mem_singleton] at hr
            rcases hr with hr | rfl
            · exact HSM.out r hr
            · exact ⟨⟨by show f.body.length ≤ 5; omega, hfs, hfp, hfn⟩, by show (ByteArray.empty : ByteArray).size ≤ 5; decide⟩
          · exact hrA.grown hg9 (fun b hb => by have := (hobl _ (Or.inl hb)).1; omega)
          · exact grown_fresh2 gg hg9 (fun b hb => by have := (hobl _ (Or.inl hb)).1; omega)
        case measure => simp [intOf]; omega
      · skip
        go_wp2_with fail
        refine (pick_any g _ ((q : Int) + 1) w2 hr2 (by omega) (by omega)).mono ?_
        rintro e w3 ⟨ix, rfl, hix0, hix1, hr3, hg3⟩
        have hown := hown.keepR hg3 hlt
        have gg := grown_tr gg hg3
        have hs3 : w2.heap.size ≤ w3.heap.size := hg3.size
        clear hg3
        go_wp2_with fail
        refine (someBody_sm g _ w3 hr3 (by omega)).mono ?_
        rintro e w4 ⟨bv, b, p4, rfl, hof, hfl, hfs, hrZ, hp4, hg4⟩
        obtain ⟨fa, fc, rfl, _, _⟩ := hof.form
        have hofb := hof.block
        have hown := hown.keepR hg4 hlt
        have gg := grown_tr gg hg4
        have hs4 : w3.heap.size ≤ w4.heap.size := hg4.size
        clear hg4
        have hgs := gr_al w4 (.cells #[.int .i64 2, .int .i64 0, .string ByteArray.empty, .string ByteArray.empty, .bool false, .int .i64 0, .slice fa b.length fc, .int .i64 ix, .string ByteArray.empty] 95)
        have hown := hown.gr hgs
        have hofA := (hof.mono (base' := w.heap.size) (by omega)).alloc (.cells #[.int .i64 2, .int .i64 0, .string ByteArray.empty, .string ByteArray.empty, .bool false, .int .i64 0, .slice fa b.length fc, .int .i64 ix, .string ByteArray.empty] 95)
        have hrA := hrZ.al (.cells #[.int .i64 2, .int .i64 0, .string ByteArray.empty, .string ByteArray.empty, .bool false, .int .i64 0, .slice fa b.length fc, .int .i64 ix, .string ByteArray.empty] 95)
        have gg := grown_tr gg (grown_al w4 (.cells #[.int .i64 2, .int .i64 0, .string ByteArray.empty, .string ByteArray.empty, .bool false, .int .i64 0, .slice fa b.length fc, .int .i64 ix, .string ByteArray.empty] 95) (some g))
        have hsrc := SlR.oneAt w4 w.heap.size w4.heap.size ((⟨2, ⟨0, ByteArray.empty, ByteArray.empty, false, 0, b⟩, ix, ByteArray.empty⟩ : Acc), (.slice fa b.length fc : Value)) 95 (enc := eA) (k := 9) rfl (by omega) rfl
        have HO := Lib.hid hown
        clear hown
        go_wp2_with (at_builtin
                     refine wpList_app _ rfl (.tmp 36) (.tmp 45) ti_act rfl rfl HO.out.1 rfl hsrc (fun _ _ => rfl) (by simp [eA, Value.oneCell']) (by unfold maxLen; simp; omega) (by simp; omega) (by simp; omega) ?_
                     intro v9 w9 hown9 hg9 hat9
                     obtain ⟨va9, vc9, hv9, _, _⟩ := hown9.form
                     have hv9' : v9 = .slice va9 (M.length + 1) vc9 := by rw [hv9, List.length_append]; rfl
                     clear hv9
                     subst hv9')
        go_roundw
        case rel =>
          have o9 := OwnN.app (x := ((⟨2, ⟨0, ByteArray.empty, ByteArray.empty, false, 0, b⟩, ix, ByteArray.empty⟩ : Acc), (.slice fa b.length fc : Value))) HO.out hofA (fun b hb q => by have h1 := (hofb b hb).1; have h2 := (hobl b q).2; omega) hown9 hg9 hat9
          refine ⟨j - 1, q, by go_num, by first | rfl | go_num, M ++ [((⟨2, ⟨0, ByteArray.empty, ByteArray.empty, false, 0, b⟩, ix, ByteArray.empty⟩ : Acc), (.slice fa b.length fc : Value))], p4, o9, by simp; omega, by omega, ?_, ?_, by omega, ?_⟩
          · intro r hr
            rw [List.mem_append, List.mem_singleton] at hr
            rcases hr with hr | rfl
            · exact HSM.out r hr
            · exact ⟨⟨by show b.length ≤ 5; omega, hfs, by show (ByteArray.empty : ByteArray).size ≤ 7; decide, by show (ByteArray.empty : ByteArray).size ≤ 1; decide⟩, by show (ByteArray.empty : ByteArray).size ≤ 5; decide⟩
          · exact hrA.grown hg9 (fun b hb => by have := (hobl _ (Or.inl hb)).1; omega)
          · exact grown_fresh2 gg hg9 (fun b hb => by have := (hobl _ (Or.inl hb)).1; omega)
        case measure => simp [intOf]; omega
      · skip
        go_wp2_with fail
        refine (pick_any g _ 2 w2 hr2 (by omega) (by omega)).mono ?_
        rintro e w3 ⟨k3, rfl, _, _, hr3, hg3⟩
        have hown := hown.keepR hg3 hlt
        have gg := grown_tr gg hg3
        have hs3 : w2.heap.size ≤ w3.heap.size := hg3.size
        clear hg3
        by_cases h3 : k3 = 0
        · subst h3
          go_wp2_with fail
          refine (pick_any g _ ((q : Int) + 1) w3 hr3 (by omega) (by omega)).mono ?_
          rintro e w4 ⟨ix, rfl, hix0, hix1, hrZ, hg4⟩
          have hown := hown.keepR hg4 hlt
          have gg := grown_tr gg hg4
          have hs4 : w3.heap.size ≤ w4.heap.size := hg4.size
          clear hg4
          have hgs := gr_al w4 (.cells #[.int .i64 1, .int .i64 0, .string ByteArray.empty, .string ByteArray.empty, .bool false, .int .i64 0, .slice none 0 0, .int .i64 ix, .string ByteArray.empty] 95)
          have hown := hown.gr hgs
          have hofA : Own (w4.alloc (.cells #[.int .i64 1, .int .i64 0, .string ByteArray.empty, .string ByteArray.empty, .bool false, .int .i64 0, .slice none 0 0, .int .i64 ix, .string ByteArray.empty] 95)) w.heap.size 80 5 eSt (.slice none 0 0) ([] : List Stm) := Own.nil _ _ _ _ _
          have hrA := hrZ.al (.cells #[.int .i64 1, .int .i64 0, .string ByteArray.empty, .string ByteArray.empty, .bool false, .int .i64 0, .slice none 0 0, .int .i64 ix, .string ByteArray.empty] 95)
          have gg := grown_tr gg (grown_al w4 (.cells #[.int .i64 1, .int .i64 0, .string ByteArray.empty, .string ByteArray.empty, .bool false, .int .i64 0, .slice none 0 0, .int .i64 ix, .string ByteArray.empty] 95) (some g))
          have hsrc := SlR.oneAt w4 w.heap.size w4.heap.size ((⟨1, ⟨0, ByteArray.empty, ByteArray.empty, false, 0, []⟩, ix, ByteArray.empty⟩ : Acc), (.slice none 0 0 : Value)) 95 (enc := eA) (k := 9) rfl (by omega) rfl
          have HO := Lib.hid hown
          clear hown
          go_wp2_with (at_builtin
                       refine wpList_app _ rfl (.tmp 52) (.tmp 58) ti_act rfl rfl HO.out.1 rfl hsrc (fun _ _ => rfl) (by simp [eA, Value.oneCell']) (by unfold maxLen; simp; omega) (by simp; omega) (by simp; omega) ?_
                       intro v9 w9 hown9 hg9 hat9
                       obtain ⟨va9, vc9, hv9, _, _⟩ := hown9.form
                       have hv9' : v9 = .slice va9 (M.length + 1) vc9 := by rw [hv9, List.length_append]; rfl
                       clear hv9
                       subst hv9')
          go_roundw
          case rel =>
            have o9 := OwnN.app (x := ((⟨1, ⟨0, ByteArray.empty, ByteArray.empty, false, 0, []⟩, ix, ByteArray.empty⟩ : Acc), (.slice none 0 0 : Value))) HO.out hofA (fun b hb q => by cases hb) hown9 hg9 hat9
            refine ⟨j - 1, q, by go_num, by first | rfl | go_num, M ++ [((⟨1, ⟨0, ByteArray.empty, ByteArray.empty, false, 0, []⟩, ix, ByteArray.empty⟩ : Acc), (.slice none 0 0 : Value))], (p' + 1 + 1 + 1), o9, by simp; omega, by omega, ?_, ?_, by omega, ?_⟩
            · intro r hr
              rw [List.mem_append, List.mem_singleton] at hr
              rcases hr with hr | rfl
              · exact HSM.out r hr
              · exact ⟨⟨by show 0 ≤ 5; omega, (fun s hs => by cases hs), by show (ByteArray.empty : ByteArray).size ≤ 7; decide, by show (ByteArray.empty : ByteArray).size ≤ 1; decide⟩, by show (ByteArray.empty : ByteArray).size ≤ 5; decide⟩
            · exact hrA.grown hg9 (fun b hb => by have := (hobl _ (Or.inl hb)).1; omega)
            · exact grown_fresh2 gg hg9 (fun b hb => by have := (hobl _ (Or.inl hb)).1; omega)
          case measure => simp [intOf]; omega
        · have h3' : (k3 == 0) = false := by simpa using h3
          clear h3
          go_wp2
          go_roundw
          case rel => exact ⟨j - 1, q, by go_num, rfl, M, _, hown, by omega, by omega, HSM.out, hr3, by omega, gg⟩
          case measure => simp [intOf]; omega
      · skip
        go_wp2_with fail
        refine (aName_any g _ w2 hr2 (by omega)).mono ?_
        rintro e w3 ⟨s, p3, rfl, hs, hrZ, hp3, hg3⟩
        have hown := hown.keepR hg3 hlt
        have gg := grown_tr gg hg3
        have hs3 : w2.heap.size ≤ w3.heap.size := hg3.size
        clear hg3
        have hgs := gr_al w3 (.cells #[.int .i64 3, .int .i64 0, .string ByteArray.empty, .string ByteArray.empty, .bool false, .int .i64 0, .slice none 0 0, .int .i64 0, .string s] 95)
        have hown := hown.gr hgs
        have hofA : Own (w3.alloc (.cells #[.int .i64 3, .int .i64 0, .string ByteArray.empty, .string ByteArray.empty, .bool false, .int .i64 0, .slice none 0 0, .int .i64 0, .string s] 95)) w.heap.size 80 5 eSt (.slice none 0 0) ([] : List Stm) := Own.nil _ _ _ _ _
        have hrA := hrZ.al (.cells #[.int .i64 3, .int .i64 0, .string ByteArray.empty, .string ByteArray.empty, .bool false, .int .i64 0, .slice none 0 0, .int .i64 0, .string s] 95)
        have gg := grown_tr gg (grown_al w3 (.cells #[.int .i64 3, .int .i64 0, .string ByteArray.empty, .string ByteArray.empty, .bool false, .int .i64 0, .slice none 0 0, .int .i64 0, .string s] 95) (some g))
        have hsrc := SlR.oneAt w3 w.heap.size w3.heap.size ((⟨3, ⟨0, ByteArray.empty, ByteArray.empty, false, 0, []⟩, 0, s⟩ : Acc), (.slice none 0 0 : Value)) 95 (enc := eA) (k := 9) rfl (by omega) rfl
        have HO := Lib.hid hown
        clear hown
        go_wp2_with (at_builtin
                     refine wpList_app _ rfl (.tmp 16) (.tmp 20) ti_act rfl rfl HO.out.1 rfl hsrc (fun _ _ => rfl) (by simp [eA, Value.oneCell']) (by unfold maxLen; simp; omega) (by simp; omega) (by simp; omega) ?_
                     intro v9 w9 hown9 hg9 hat9
                     obtain ⟨va9, vc9, hv9, _, _⟩ := hown9.form
                     have hv9' : v9 = .slice va9 (M.length + 1) vc9 := by rw [hv9, List.length_append]; rfl
                     clear hv9
                     subst hv9')
        go_roundw
        case rel =>
          have o9 := OwnN.app (x := ((⟨3, ⟨0, ByteArray.empty, ByteArray.empty, false, 0, []⟩, 0, s⟩ : Acc), (.slice none 0 0 : Value))) HO.out hofA (fun b hb q => by cases hb) hown9 hg9 hat9
          refine ⟨j - 1, q, by go_num, by first | rfl | go_num, M ++ [((⟨3, ⟨0, ByteArray.empty, ByteArray.empty, false, 0, []⟩, 0, s⟩ : Acc), (.slice none 0 0 : Value))], p3, o9, by simp; omega, by omega, ?_, ?_, by omega, ?_⟩
          · intro r hr
            rw [List.mem_append, List.mem_singleton] at hr
            rcases hr with hr | rfl
            · exact HSM.out r hr
            · exact ⟨⟨by show 0 ≤ 5; omega, (fun s hs => by cases hs), by show (ByteArray.empty : ByteArray).size ≤ 7; decide, by show (ByteArray.empty : ByteArray).size ≤ 1; decide⟩, by show s.size ≤ 5; omega⟩
          · exact hrA.grown hg9 (fun b hb => by have := (hobl _ (Or.inl hb)).1; omega)
          · exact grown_fresh2 gg hg9 (fun b hb => by have := (hobl _ (Or.inl hb)).1; omega)
        case measure => simp [intOf]; omega
      · skip
        go_wp2_with fail
        refine (aName_any g _ w2 hr2 (by omega)).mono ?_
        rintro e w3 ⟨s, p3, rfl, hs, hrZ, hp3, hg3⟩
        have hown := hown.keepR hg3 hlt
        have gg := grown_tr gg hg3
        have hs3 : w2.heap.size ≤ w3.heap.size := hg3.size
        clear hg3
        have hgs := gr_al w3 (.cells #[.int .i64 3, .int .i64 0, .string ByteArray.empty, .string ByteArray.empty, .bool false, .int .i64 0, .slice none 0 0, .int .i64 0, .string s] 95)
        have hown := hown.gr hgs
        have hofA : Own (w3.alloc (.cells #[.int .i64 3, .int .i64 0, .string ByteArray.empty, .string ByteArray.empty, .bool false, .int .i64 0, .slice none 0 0, .int .i64 0, .string s] 95)) w.heap.size 80 5 eSt (.slice none 0 0) ([] : List Stm) := Own.nil _ _ _ _ _
        have hrA := hrZ.al (.cells #[.int .i64 3, .int .i64 0, .string ByteArray.empty, .string ByteArray.empty, .bool false, .int .i64 0, .slice none 0 0, .int .i64 0, .string s] 95)
        have gg := grown_tr gg (grown_al w3 (.cells #[.int .i64 3, .int .i64 0, .string ByteArray.empty, .string ByteArray.empty, .bool false, .int .i64 0, .slice none 0 0, .int .i64 0, .string s] 95) (some g))
        have hsrc := SlR.oneAt w3 w.heap.size w3.heap.size ((⟨3, ⟨0, ByteArray.empty, ByteArray.empty, false, 0, []⟩, 0, s⟩ : Acc), (.slice none 0 0 : Value)) 95 (enc := eA) (k := 9) rfl (by omega) rfl
        have HO := Lib.hid hown
        clear hown
        go_wp2_with (at_builtin
                     refine wpList_app _ rfl (.tmp 16) (.tmp 20) ti_act rfl rfl HO.out.1 rfl hsrc (fun _ _ => rfl) (by simp [eA, Value.oneCell']) (by unfold maxLen; simp; omega) (by simp; omega) (by simp; omega) ?_
                     intro v9 w9 hown9 hg9 hat9
                     obtain ⟨va9, vc9, hv9, _, _⟩ := hown9.form
                     have hv9' : v9 = .slice va9 (M.length + 1) vc9 := by rw [hv9, List.length_append]; rfl
                     clear hv9
                     subst hv9')
        go_roundw
        case rel =>
          have o9 := OwnN.app (x := ((⟨3, ⟨0, ByteArray.empty, ByteArray.empty, false, 0, []⟩, 0, s⟩ : Acc), (.slice none 0 0 : Value))) HO.out hofA (fun b hb q => by cases hb) hown9 hg9 hat9
          refine ⟨j - 1, q, by go_num, by first | rfl | go_num, M ++ [((⟨3, ⟨0, ByteArray.empty, ByteArray.empty, false, 0, []⟩, 0, s⟩ : Acc), (.slice none 0 0 : Value))], p3, o9, by simp; omega, by omega, ?_, ?_, by omega, ?_⟩
          · intro r hr
            rw [List.mem_append, List.mem_singleton] at hr
            rcases hr with hr | rfl
            · exact HSM.out r hr
            · exact ⟨⟨by show 0 ≤ 5; omega, (fun s hs => by cases hs), by show (ByteArray.empty : ByteArray).size ≤ 7; decide, by show (ByteArray.empty : ByteArray).size ≤ 1; decide⟩, by show s.size ≤ 5; omega⟩
          · exact hrA.grown hg9 (fun b hb => by have := (hobl _ (Or.inl hb)).1; omega)
          · exact grown_fresh2 gg hg9 (fun b hb => by have := (hobl _ (Or.inl hb)).1; omega)
        case measure => simp [intOf]; omega
      · skip
        go_wp2_with fail
        refine (aName_any g _ w2 hr2 (by omega)).mono ?_
        rintro e w3 ⟨s, p3, rfl, hs, hrZ, hp3, hg3⟩
        have hown := hown.keepR hg3 hlt
        have gg := grown_tr gg hg3
        have hs3 : w2.heap.size ≤ w3.heap.size := hg3.size
        clear hg3
        have hgs := gr_al w3 (.cells #[.int .i64 3, .int .i64 0, .string ByteArray.empty, .string ByteArray.empty, .bool false, .int .i64 0, .slice none 0 0, .int .i64 0, .string s] 95)
        have hown := hown.gr hgs
        have hofA : Own (w3.alloc (.cells #[.int .i64 3, .int .i64 0, .string ByteArray.empty, .string ByteArray.empty, .bool false, .int .i64 0, .slice none 0 0, .int .i64 0, .string s] 95)) w.heap.size 80 5 eSt (.slice none 0 0) ([] : List Stm) := Own.nil _ _ _ _ _
        have hrA := hrZ.al (.cells #[.int .i64 3, .int .i64 0, .string ByteArray.empty, .string ByteArray.empty, .bool false, .int .i64 0, .slice none 0 0, .int .i64 0, .string s] 95)
        have gg := grown_tr gg (grown_al w3 (.cells #[.int .i64 3, .int .i64 0, .string ByteArray.empty, .string ByteArray.empty, .bool false, .int .i64 0, .slice none 0 0, .int .i64 0, .string s] 95) (some g))
        have hsrc := SlR.oneAt w3 w.heap.size w3.heap.size ((⟨3, ⟨0, ByteArray.empty, ByteArray.empty, false, 0, []⟩, 0, s⟩ : Acc), (.slice none 0 0 : Value)) 95 (enc := eA) (k := 9) rfl (by omega) rfl
        have HO := Lib.hid hown
        clear hown
        go_wp2_with (at_builtin
                     refine wpList_app _ rfl (.tmp 16) (.tmp 20) ti_act rfl rfl HO.out.1 rfl hsrc (fun _ _ => rfl) (by simp [eA, Value.oneCell']) (by unfold maxLen; simp; omega) (by simp; omega) (by simp; omega) ?_
                     intro v9 w9 hown9 hg9 hat9
                     obtain ⟨va9, vc9, hv9, _, _⟩ := hown9.form
                     have hv9' : v9 = .slice va9 (M.length + 1) vc9 := by rw [hv9, List.length_append]; rfl
                     clear hv9
                     subst hv9')
        go_roundw
        case rel =>
          have o9 := OwnN.app (x := ((⟨3, ⟨0, ByteArray.empty, ByteArray.empty, false, 0, []⟩, 0, s⟩ : Acc), (.slice none 0 0 : Value))) HO.out hofA (fun b hb q => by cases hb) hown9 hg9 hat9
          refine ⟨j - 1, q, by go_num, by first | rfl | go_num, M ++ [((⟨3, ⟨0, ByteArray.empty, ByteArray.empty, false, 0, []⟩, 0, s⟩ : Acc), (.slice none 0 0 : Value))], p3, o9, by simp; omega, by omega, ?_, ?_, by omega, ?_⟩
          · intro r hr
            rw [List.mem_append, List.mem_singleton] at hr
            rcases hr with hr | rfl
            · exact HSM.out r hr
            · exact ⟨⟨by show 0 ≤ 5; omega, (fun s hs => by cases hs), by show (ByteArray.empty : ByteArray).size ≤ 7; decide, by show (ByteArray.empty : ByteArray).size ≤ 1; decide⟩, by show s.size ≤ 5; omega⟩
          · exact hrA.grown hg9 (fun b hb => by have := (hobl _ (Or.inl hb)).1; omega)
          · exact grown_fresh2 gg hg9 (fun b hb => by have := (hobl _ (Or.inl hb)).1; omega)
        case measure => simp [intOf]; omega
    · by_cases hM : 0 < M.length
      · have hMd : (0 : Int) < (M.length : Int) := by omega
        go_wp2_with fail
        refine (pick_any g _ 20 wr hR (by omega) (by omega)).mono ?_
        rintro e w2 ⟨k, rfl, hk0, hk1, hr2, hg2⟩
        have hown := hown.keepR hg2 hlt
        have gg := grown_tr gg hg2
        have hs2 : w.heap.size ≤ w2.heap.size := gg.size
        clear hg2
        by_cases hk : k = 0
        · subst hk
          have hone := one_lit g _ [-1, 4] w2 hr2 (by omega) (by decide) (by decide)
          have HONE := Lib.hid hone
          clear hone
          go_wp2_with fail
          refine HONE.out.mono ?_
          rintro e w3 ⟨n3, rfl, hin3, hr3, hg3⟩
          have hown := hown.keepR hg3 hlt
          have gg := grown_tr gg hg3
          have hs3 : w2.heap.size ≤ w3.heap.size := hg3.size
          clear hg3 hin3 HONE
          cases M with
          | nil => simp at hM
          | cons x B =>
            obtain ⟨⟨kind, fx, index, nm⟩, xv⟩ := x
            obtain ⟨b0, c0, ee, hbb, hbl, hc0, hcell, hfr⟩ := own_rowK (A := []) (K := 9) (enc := eA) (fun _ => rfl) hown.1
            injection ee with e1 e2 e3
            clear e2 e3
            subst e1
            have c00 := hcell 0 _ rfl
            have f00 := hfr 0
            simp only [List.length_nil, Nat.zero_mul, Nat.zero_add] at c00
            have o1 := OwnN.set (A := []) (j := 0) (u := .int .i64 n3) (x' := ((⟨n3, fx, index, nm⟩ : Acc), xv)) hown (fun _ => rfl) rfl (by decide) rfl rfl rfl
            simp only [List.length_nil, Nat.zero_mul, Nat.zero_add] at o1
            have hsx := HSM.out _ (List.mem_cons_self ..)
            have HO1 := Lib.hid o1
            clear hown o1 hcell hfr
            go_wp2
            go_ret
            refine ⟨_, ((⟨n3, fx, index, nm⟩ : Acc), xv) :: B, _, rfl, HO1.out, by have := hll; simp only [List.length_cons] at this ⊢; omega, ?_, hr3.grown (grown_set _ _ _ _) (fun b hb => by injection hb with hb; omega), by omega, grown_fresh gg (grown_set _ _ _ _) hbb⟩
            intro r hr
            rw [List.mem_cons] at hr
            rcases hr with rfl | hr
            · exact hsx
            · exact HSM.out r (List.mem_cons_of_mem _ hr)
        · have hk' : (k == 0) = false := by simpa using hk
          clear hk
          go_wp2
          go_ret
          exact ⟨_, M, _, rfl, hown, by omega, HSM.out, hr2, by omega, gg⟩
      · have hM0 : M.length = 0 := by omega
        have hMd : decide ((0 : Int) < (M.length : Int)) = false := decide_eq_false (by omega)
        go_wp2
        go_ret
        exact ⟨_, M, _, rfl, hown, by omega, HSM.out, hR, by omega, gg⟩
end Go.Proofs.YtomndnlpogikdaaDoor
