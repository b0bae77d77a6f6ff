/-
  Walk of the law on modules of drawn files.
-/
import Derived.Test.YtbknhodjcgnfnaaDoorDrawFZ
import Derived.Test.YtbknhodjcgnfnaaDoorZ3
import Derived.Test.YtbknhodjcgnfnaaDoorUseZ
import Derived.Laws.ResultCell
import Derived.Test.YtbknhodjcgnfnaaDoorZ5
import Derived.Test.YtbknhodjcgnfnaaDoorZ4
namespace Imp
open Go
theorem nameP_name {f : Fil} (h : okFil f = true) : vName (nameP f) = true := by
  unfold okFil at h
  simp only [Bool.and_eq_true] at h
  obtain ⟨⟨⟨⟨_, h2⟩, _⟩, _⟩, h5⟩ := h
  unfold nameP
  cases hi : f.init
  · rw [hi] at h5
    simp only [Bool.false_eq_true, ↓reduceIte, Bool.and_eq_true] at h5
    exact h5.2
  · rw [hi] at h5
    simp only [↓reduceIte, Bool.and_eq_true] at h5
    have he : (bs f.pkg).isEmpty = false := by rw [← isEmptyT]; simpa using h5.1
    unfold vPkg at h2
    rw [he, Bool.false_or] at h2
    exact h2
where isEmptyT {s : ByteArray} : s.toList.isEmpty = (bs s).isEmpty := by rw [Go.Proofs.YtbknhodjcgnfnaaDoor.isEmpty_toList]
theorem part_of_ok {f : Fil} (h : okFil f = true) (hi : f.init = false) : vPart (bs f.name) = true := by
  unfold okFil at h
  rw [hi] at h
  simp only [Bool.and_eq_true, Bool.false_eq_true, ↓reduceIte] at h
  exact h.2.1
end Imp
namespace Go.Proofs.YtbknhodjcgnfnaaDoor
open Go Go.RowKit Imp
set_option linter.unusedVariables false
set_option linter.unusedSimpArgs false

set_option maxHeartbeats 1600000 in
theorem anyFile_any (g p : Nat) (w : World) (h : Rdr w g p) (hp : p < 300000000) :
    Calls Tryd.prog 26 #[.pointer (some ⟨g, 0, none⟩)] w (DFil w g p 260) := by
  have hlt := h.lt
  go_enter Tryd.func26, Tryd.ntmps26
  go_wp2_with fail
  refine (someFile_any g p _ (h.al _) (by omega)).mono ?_
  rintro e w3 ⟨f, v, p3, rfl, ho3, hll, hls, hpk, hnm, hr3, hp3, hg3⟩
  have hz3 := keep_blk (heap_alloc_new w _) hg3 (by omega)
  have gg3 := grown_tr (grown_al w _ _) hg3
  have hl3 : w.heap.size + 1 ≤ w3.heap.size := by have := hg3.size; simpa using this
  obtain ⟨va, vc, rfl, _, _⟩ := ho3.form
  simp only [World.size_alloc] at ho3
  have hob := ho3.block
  have ho3 := ho3.mono (base' := w.heap.size) (by omega)
  obtain ⟨root, pkg, name, init, stamp, L⟩ := f
  simp only at hob ho3 hll hls hpk hnm
  have hf3 := heap_alloc_new w3 (.cells #[.int .i64 root, .string pkg, .string name, .bool init, .int .i64 stamp, .slice va L.length vc] 31)
  have hz3 : (w3.alloc (.cells #[.int .i64 root, .string pkg, .string name, .bool init, .int .i64 stamp, .slice va L.length vc] 31)).heap[w.heap.size]? = _ := (Below.heap_alloc w3 _ w.heap.size (by omega)).trans hz3
  go_wp2_with fail
  refine (pick_any g _ 16 _ (hr3.al _) (by omega) (by omega)).mono ?_
  rintro e w4 ⟨k, rfl, _, _, hr4, hg4⟩
  have hz4 := keep_blk hz3 hg4 (by omega)
  have hf4 := keep_blk hf3 hg4 (by omega)
  have gg4 := grown_tr (grown_tr gg3 (grown_al w3 _ _)) hg4
  have hl4 : w3.heap.size + 1 ≤ w4.heap.size := by have := hg4.size; (try simp at this); omega
  have ho4 := Own.keepR (Own.alloc ho3 _) hg4 hlt
  have hne1 : ¬ w3.heap.size = w.heap.size := by omega
  have hne2 : ¬ w.heap.size = w3.heap.size := by omega
  have HLS := Lib.hid hls
  clear hz3 hf3 gg3 hr3 hg4 hls ho3 hg3
  by_cases k0 : k = 0
  · subst k0
    obtain ⟨⟨x0, x1, x2, x3, x4, x5⟩, y0, y1, y2, y3, y4, y5⟩ := rows6 hf4
    obtain ⟨⟨a0, a1, a2, a3, a4, a5⟩, b0, b1, b2, b3, b4, b5⟩ := rows6 hz4
    have HZ := Lib.hid hz4
    clear hf4 hz4
    go_wp2
    have hput := put6 (set_other (o := 3) (v := .bool (!init)) HZ.out (by omega : w.heap.size ≠ w3.heap.size)) (.int .i64 root) (.string pkg) (.string name) (.bool (!init)) (.int .i64 stamp) (.slice va L.length vc)
    refine bodyPost_ret (results_cell_row rfl _ _ w.heap.size 31 _ (0, 0) _ rfl hput.1 Tryd.underlying31 rfl (by kernel_rfl)) rfl ?_
    refine ⟨⟨root, pkg, name, !init, stamp, L⟩, _, _, rfl, Own.keep (Own.keep ho4 (fun b hb => Below.heap_setCell _ ⟨w3.heap.size, 3, none⟩ (.bool (!init)) b (by show b ≠ w3.heap.size; have := (hob b hb).2; omega))) (fun b hb => hput.2.block b ?_ ?_), hll, HLS.out, hpk, hnm, (hr4.grown (grown_set _ w3.heap.size 3 (.bool (!init))) (by intro b hb; injection hb with hb; omega)).grown hput.2 (by intro b hb; injection hb with hb; omega), by omega, grown_fresh (grown_fresh gg4 (grown_set _ w3.heap.size 3 (.bool (!init))) (by omega)) hput.2 (Nat.le_refl _)⟩
    · have := (hob b hb).2; simp; omega
    · intro q; injection q with q; have := (hob b hb).1; omega
  · have q0 : (k == 0) = false := by simp [k0]
    by_cases k1 : k = 1
    · subst k1
      go_wp2_with fail
      refine (anyPackage_any g _ w4 hr4 (by omega)).mono ?_
      rintro e w5 ⟨s, p5, rfl, hs, hr5, hp5, hg5⟩
      have hz5 := keep_blk hz4 hg5 (by omega)
      have hf5 := keep_blk hf4 hg5 (by omega)
      have gg5 := grown_tr gg4 hg5
      have hl5 : w3.heap.size + 1 ≤ w5.heap.size := Nat.le_trans hl4 hg5.size
      have ho5 := Own.keepR ho4 hg5 hlt
      obtain ⟨⟨x0, x1, x2, x3, x4, x5⟩, y0, y1, y2, y3, y4, y5⟩ := rows6 hf5
      obtain ⟨⟨a0, a1, a2, a3, a4, a5⟩, b0, b1, b2, b3, b4, b5⟩ := rows6 hz5
      have HZ := Lib.hid hz5
      clear hf4 hz4 hf5 hz5
      go_wp2
      have hput := put6 (set_other (o := 1) (v := .string s) HZ.out (by omega : w.heap.size ≠ w3.heap.size)) (.int .i64 root) (.string s) (.string name) (.bool init) (.int .i64 stamp) (.slice va L.length vc)
      refine bodyPost_ret (results_cell_row rfl _ _ w.heap.size 31 _ (0, 0) _ rfl hput.1 Tryd.underlying31 rfl (by kernel_rfl)) rfl ?_
      refine ⟨⟨root, s, name, init, stamp, L⟩, _, _, rfl, Own.keep (Own.keep ho5 (fun b hb => Below.heap_setCell _ ⟨w3.heap.size, 1, none⟩ (.string s) b (by show b ≠ w3.heap.size; have := (hob b hb).2; omega))) (fun b hb => hput.2.block b ?_ ?_), hll, HLS.out, hs, hnm, (hr5.grown (grown_set _ w3.heap.size 1 (.string s)) (by intro b hb; injection hb with hb; omega)).grown hput.2 (by intro b hb; injection hb with hb; omega), by omega, grown_fresh (grown_fresh gg5 (grown_set _ w3.heap.size 1 (.string s)) (by omega)) hput.2 (Nat.le_refl _)⟩
      · have := (hob b hb).2; simp; omega
      · intro q; injection q with q; have := (hob b hb).1; omega
    · have q1 : (k == 1) = false := by simp [k1]
      by_cases k2 : k = 2
      · subst k2
        go_wp2_with fail
        refine (anyBody_any g _ w4 hr4 (by omega)).mono ?_
        rintro e w5 ⟨v5, M, p5, rfl, ho5, hml, hms, hr5, hp5, hg5⟩
        obtain ⟨ma, mc, rfl, _, _⟩ := ho5.form
        have hz5 := keep_blk hz4 hg5 (by omega)
        have hf5 := keep_blk hf4 hg5 (by omega)
        have gg5 := grown_tr gg4 hg5
        have hl5 : w3.heap.size + 1 ≤ w5.heap.size := Nat.le_trans hl4 hg5.size
        have hob5 := ho5.block
        have ho5 := ho5.mono (base' := w.heap.size) (by omega)
        obtain ⟨⟨x0, x1, x2, x3, x4, x5⟩, y0, y1, y2, y3, y4, y5⟩ := rows6 hf5
        obtain ⟨⟨a0, a1, a2, a3, a4, a5⟩, b0, b1, b2, b3, b4, b5⟩ := rows6 hz5
        have HZ := Lib.hid hz5
        have HMS := Lib.hid hms
        clear hf4 hz4 hf5 hz5 hms
        go_wp2
        have hput := put6 (set_other (o := 5) (v := .slice ma M.length mc) HZ.out (by omega : w.heap.size ≠ w3.heap.size)) (.int .i64 root) (.string pkg) (.string name) (.bool init) (.int .i64 stamp) (.slice ma M.length mc)
        refine bodyPost_ret (results_cell_row rfl _ _ w.heap.size 31 _ (0, 0) _ rfl hput.1 Tryd.underlying31 rfl (by kernel_rfl)) rfl ?_
        refine ⟨⟨root, pkg, name, init, stamp, M⟩, _, _, rfl, Own.keep (Own.keep ho5 (fun b hb => Below.heap_setCell _ ⟨w3.heap.size, 5, none⟩ (.slice ma M.length mc) b (by show b ≠ w3.heap.size; have := (hob5 b hb).1; omega))) (fun b hb => hput.2.block b ?_ ?_), hml, HMS.out, hpk, hnm, (hr5.grown (grown_set _ w3.heap.size 5 (.slice ma M.length mc)) (by intro b hb; injection hb with hb; omega)).grown hput.2 (by intro b hb; injection hb with hb; omega), by omega, grown_fresh (grown_fresh gg5 (grown_set _ w3.heap.size 5 (.slice ma M.length mc)) (by omega)) hput.2 (Nat.le_refl _)⟩
        · have := (hob5 b hb).2; simp; omega
        · intro q; injection q with q; have := (hob5 b hb).1; omega
      · have q2 : (k == 2) = false := by simp [k2]
        obtain ⟨⟨x0, x1, x2, x3, x4, x5⟩, y0, y1, y2, y3, y4, y5⟩ := rows6 hf4
        obtain ⟨⟨a0, a1, a2, a3, a4, a5⟩, b0, b1, b2, b3, b4, b5⟩ := rows6 hz4
        have HZ := Lib.hid hz4
        clear hf4 hz4 k0 k1 k2
        go_wp2
        have hput := put6 HZ.out (.int .i64 root) (.string pkg) (.string name) (.bool init) (.int .i64 stamp) (.slice va L.length vc)
        refine bodyPost_ret (results_cell_row rfl _ _ w.heap.size 31 _ (0, 0) _ rfl hput.1 Tryd.underlying31 rfl (by kernel_rfl)) rfl ?_
        refine ⟨⟨root, pkg, name, init, stamp, L⟩, _, _, rfl, Own.keep ho4 (fun b hb => hput.2.block b ?_ ?_), hll, HLS.out, hpk, hnm, hr4.grown hput.2 (by intro b hb; injection hb with hb; omega), by omega, grown_fresh gg4 hput.2 (Nat.le_refl _)⟩
        · have := (hob b hb).2; omega
        · intro q; injection q with q; have := (hob b hb).1; omega
end Go.Proofs.YtbknhodjcgnfnaaDoor

/-
  Walks: bodies and compiled files compared by the laws; the law on files compiled. Printed by usel.py.
-/
namespace Imp
open Go Go.RowKit
theorem results_row_tmp {P : Program} {fn : Func} {p u : Tmp} {ty : TypeId} (h : fn.results = #[.cell p ty, .tmp u]) (tmps : Array Value) (w : World) (g : Nat) (t : TypeId) (cs : Array Value) (fr : Nat × Nat) (d : TypeDesc) (x : Value)
    (hp : tmps.getD p undef = .pointer (some ⟨g, 0, none⟩)) (hx : tmps.getD u undef = x) (hg : w.heap[g]? = some (.cells cs t fr))
    (hu : P.underlying ty = some d) (hd : (match d with | .struct _ | .array _ _ => true | _ => false) = true) (hi : (P.info? ty).map (·.size) = some cs.size) :
    (results fn tmps).run P w = .ok (.tuple #[.agg cs, x]) w := by
  have hp' : tmps[p]?.getD undef = .pointer (some ⟨g, 0, none⟩) := by simpa using hp
  have hx' : tmps[u]?.getD undef = x := by simpa using hx
  simp [results, h, hp', hx', asAddr, run_loadVar_row w g t ty cs fr d hg hu hd hi]
theorem results_row_row {P : Program} {fn : Func} {p p2 : Tmp} {ty ty2 : TypeId} (h : fn.results = #[.cell p ty, .cell p2 ty2]) (tmps : Array Value) (w : World) (g : Nat) (t : TypeId) (cs : Array Value) (fr : Nat × Nat) (d : TypeDesc)
    (g2 : Nat) (t2 : TypeId) (cs2 : Array Value) (fr2 : Nat × Nat) (d2 : TypeDesc)
    (hp : tmps.getD p undef = .pointer (some ⟨g, 0, none⟩)) (hp2 : tmps.getD p2 undef = .pointer (some ⟨g2, 0, none⟩)) (hg : w.heap[g]? = some (.cells cs t fr)) (hg2 : w.heap[g2]? = some (.cells cs2 t2 fr2))
    (hu : P.underlying ty = some d) (hd : (match d with | .struct _ | .array _ _ => true | _ => false) = true) (hi : (P.info? ty).map (·.size) = some cs.size)
    (hu2 : P.underlying ty2 = some d2) (hd2 : (match d2 with | .struct _ | .array _ _ => true | _ => false) = true) (hi2 : (P.info? ty2).map (·.size) = some cs2.size) :
    (results fn tmps).run P w = .ok (.tuple #[.agg cs, .agg cs2]) w := by
  have hp' : tmps[p]?.getD undef = .pointer (some ⟨g, 0, none⟩) := by simpa using hp
  have hp2' : tmps[p2]?.getD undef = .pointer (some ⟨g2, 0, none⟩) := by simpa using hp2
  simp [results, h, hp', hp2', asAddr, run_loadVar_row w g t ty cs fr d hg hu hd hi, run_loadVar_row w g2 t2 ty2 cs2 fr2 d2 hg2 hu2 hd2 hi2]
theorem cmpOf_ok {f : Fil} {mode : Int} (h : okFil f = true) (h1 : 0 ≤ mode) (h2 : mode ≤ 2) : okStore [cmpOf f mode] = true ∧ fUse (cmpOf f mode) f = true := by
  have hn := nameP_name h
  have h' := h
  unfold okFil at h'
  simp only [Bool.and_eq_true] at h'
  obtain ⟨⟨⟨⟨hr, _⟩, hs⟩, hb⟩, _⟩ := h'
  have hc : okCmp (cmpOf f mode) = true := by
    unfold okCmp cmpOf sizP
    simp only [bs_mk, hn, hb, hr, hs, decide_eq_true h1, decide_eq_true h2, bne_self_eq_false, Bool.not_false, Bool.and_self]
  have hst : okStore [cmpOf f mode] = true := by
    unfold okStore
    simp [List.range_succ, goodC, hc]
  refine ⟨hst, ?_⟩
  unfold fUse usab
  rw [hst, h]
  simp [cmpOf, sizP]
theorem noCmp_mod : bs noCmp.mod = [] := rfl
end Imp
namespace Go.Proofs.YtbknhodjcgnfnaaDoor
open Go Go.RowKit Imp
set_option linter.unusedVariables false
set_option linter.unusedSimpArgs false
end Go.Proofs.YtbknhodjcgnfnaaDoor

/-
  Walks: trees drawn. Printed by drawt.py.
-/
namespace Imp
open Go Go.RowKit
/-- A small file: what a drawn one is. -/
def SmFd (f : Fil) : Prop := f.body.length ≤ 5 ∧ (∀ s ∈ f.body, s.mod.size ≤ 5 ∧ s.name.size ≤ 5 ∧ smSt s) ∧ f.pkg.size ≤ 7 ∧ f.name.size ≤ 1
theorem OwnN.keepR {w w' : World} {base tO K tI kI g : Nat} {α β : Type} {enc : α × Value → List Value} {encI : β → List Value} {inner : α → List β} {v : Value} {M : List (α × Value)}
    (h : OwnN w base tO K enc tI kI encI inner v M) (hg : w.grownBy w' (some g)) (hb : g < base) : OwnN w' base tO K enc tI kI encI inner v M :=
  h.chg (ChgN.of_grown hg (p := fun b => b = g) (fun i q => by injection q with q; exact q.symm)) (fun b hb q => by have := (h.block b hb).1; omega)
theorem OwnN.setB {w : World} {base tO K tI kI b o : Nat} {u : Value} {α β : Type} {enc : α × Value → List Value} {encI : β → List Value} {inner : α → List β} {v : Value} {M : List (α × Value)}
    (h : OwnN w base tO K enc tI kI encI inner v M) (hb : b < base) : OwnN (w.setCell ⟨b, o, none⟩ u) base tO K enc tI kI encI inner v M :=
  h.keepR (grown_set w b o u) hb
theorem OwnN.flR {w : World} {base tF tS : Nat} {v : Value} {M : List FR} (h : OwnN w base tF 6 eF tS 5 eSt Fil.body v M) : FlR w base w.heap.size v M :=
  ⟨h.1.reads (fun _ _ => rfl), fun r hr => (h.2.1 r hr).reads (fun _ _ => rfl)⟩
end Imp
namespace Go.Proofs.YtbknhodjcgnfnaaDoor
open Go Go.RowKit Imp
set_option linter.unusedVariables false
set_option linter.unusedSimpArgs false
def zFlT : Value := .agg #[.int .i64 0, .string ByteArray.empty, .string ByteArray.empty, .bool false, .int .i64 0, .slice none 0 0]
theorem ti_fil : TI Tryd.prog 37 31 6 80 := TI.mk' (z := zFlT) Tryd.underlying37 (by kernel_rfl) rfl (by decide)
def DTree (w : World) (g p c : Nat) (e : Ending) (w' : World) : Prop :=
  ∃ v, ∃ M : List FR, ∃ p', e = .returned (.agg #[v]) ∧ OwnN w' w.heap.size 31 6 eF 60 5 eSt Fil.body v M ∧ M.length ≤ 10 ∧ (∀ r ∈ M, SmFd r.1) ∧ Rdr w' g p' ∧ p' ≤ p + c ∧ w.grownBy w' (some g)
set_option maxHeartbeats 3200000 in
theorem someTree_any (g p : Nat) (w : World) (h : Rdr w g p) (hp : p < 250000000) :
    Calls Tryd.prog 56 #[.pointer (some ⟨g, 0, none⟩)] w (DTree w g p 1300) := by
  have hlt := h.lt
  have hg0 : w.grownBy ((w.alloc (.cells #[.slice none 0 0] 39)).alloc (.cells #[.slice none 0 0] 39)) (some g) := grown_tr (grown_al w _ _) (grown_al _ _ _)
  have hz0 := (Below.heap_alloc (w.alloc (.cells #[.slice none 0 0] 39)) (.cells #[.slice none 0 0] 39) w.heap.size (by simp)).trans (heap_alloc_new w (.cells #[.slice none 0 0] 39))
  have hz1 := heap_alloc2_new w (.cells #[.slice none 0 0] 39) (.cells #[.slice none 0 0] 39)
  have hone := one_lit g p [5, 4, 6, 3, 8, 1, 0, 10] ((w.alloc (.cells #[.slice none 0 0] 39)).alloc (.cells #[.slice none 0 0] 39)) ((h.al _).al _) (by omega) (by decide) (by decide)
  rw [show ((w.alloc (.cells #[.slice none 0 0] 39)).alloc (.cells #[.slice none 0 0] 39)).heap.size = w.heap.size + 1 + 1 by simp] at hone
  have HONE := Lib.hid hone
  clear hone
  go_enter Tryd.func56, Tryd.ntmps56
  go_wp2_with fail
  refine HONE.out.mono ?_
  rintro e w1 ⟨n, rfl, hin, hr1, hg1⟩
  have hn : 0 ≤ n ∧ n ≤ 10 := by simp at hin; omega
  obtain ⟨m, rfl⟩ : ∃ m : Nat, n = m := ⟨n.toNat, by omega⟩
  have hz0 := keep_blk hz0 hg1 (by omega)
  have hz1 := keep_blk hz1 hg1 (by omega)
  have gg1 := grown_tr hg0 hg1
  clear hin hg0 hg1 HONE
  go_wp2
  go_loopw [4] (fun i wr => ∃ j : Nat, i = .int .i64 j ∧ ∃ v, ∃ M : List FR, ∃ p', wr.heap[w.heap.size]? = some (.cells #[.slice none 0 0] 39) ∧ wr.heap[w.heap.size + 1]? = some (.cells #[v] 39) ∧ OwnN wr (w.heap.size + 2) 31 6 eF 60 5 eSt Fil.body v M ∧ M.length + j ≤ 10 ∧ (∀ r ∈ M, SmFd r.1) ∧ Rdr wr g p' ∧ p' + 122 * j ≤ p + 1300 ∧ w.grownBy wr (some g)) (fun i _ => (intOf i).toNat)
  case atStart => exact ⟨m, rfl, .slice none 0 0, [], _, hz0, hz1, OwnN.nil _ (Own.nil _ _ _ _ _), by simp; omega, by simp, hr1, by omega, gg1⟩
  case round =>
    obtain ⟨j, rfl, v, M, p', hz0, hz1, hown, hll, hsm, hR, hp', gg⟩ := hrel
    by_cases hlt2 : 0 < j
    · have hjw : IntKind.i64.wrap ((j : Int) - 1) = (j : Int) - 1 := IntWalk.i64_in _ (by omega)
      have hwr : w.heap.size + 2 ≤ wr.heap.size := by have := lt_of_block hz1; omega
      obtain ⟨va, vc, rfl, _, _⟩ := hown.1.form
      have HSM := Lib.hid hsm
      clear hr1 gg1 hsm
      go_wp2_with fail
      refine (someFile_sm g p' wr hR (by omega)).mono ?_
      rintro e w2 ⟨f, fv, p2, rfl, hof, hfl, hfs, hfp, hfn, hr2, hp2, hg2⟩
      obtain ⟨fa, fc, rfl, _, _⟩ := hof.form
      have hz0 := keep_blk hz0 hg2 (by omega)
      have hz1 := keep_blk hz1 hg2 (by omega)
      have hobl := hown.block
      have hofb := hof.block
      have hown := hown.keepR hg2 (by omega)
      have gg := grown_tr gg hg2
      have hs2 : wr.heap.size ≤ w2.heap.size := hg2.size
      have hzf := heap_alloc_new w2 (.cells #[.int .i64 f.root, .string f.pkg, .string f.name, .bool f.init, .int .i64 f.stamp, .slice fa f.body.length fc] 31)
      have hgf := gr_al w2 (.cells #[.int .i64 f.root, .string f.pkg, .string f.name, .bool f.init, .int .i64 f.stamp, .slice fa f.body.length fc] 31)
      have hz0 := (hgf.block _ (lt_of_block hz0)).trans hz0
      have hz1 := (hgf.block _ (lt_of_block hz1)).trans hz1
      have hown := hown.gr hgf
      have hof := (hof.mono (base' := w.heap.size + 2) (by omega)).alloc (.cells #[.int .i64 f.root, .string f.pkg, .string f.name, .bool f.init, .int .i64 f.stamp, .slice fa f.body.length fc] 31)
      have gg := grown_tr gg (grown_al w2 (.cells #[.int .i64 f.root, .string f.pkg, .string f.name, .bool f.init, .int .i64 f.stamp, .slice fa f.body.length fc] 31) (some g))
      have hr2 := hr2.al (.cells #[.int .i64 f.root, .string f.pkg, .string f.name, .bool f.init, .int .i64 f.stamp, .slice fa f.body.length fc] 31)
      have hfa := sfileAt_any (.slice va M.length vc) M (f, .slice fa f.body.length fc) (w2.alloc (.cells #[.int .i64 f.root, .string f.pkg, .string f.name, .bool f.init, .int .i64 f.stamp, .slice fa f.body.length fc] 31)) (hown.1.reads (fun _ _ => rfl)) (Nat.le_refl _)
      obtain ⟨I, hI⟩ : ∃ I, ix (fun r : FR => sameP r.1 f) M = I := ⟨_, rfl⟩
      simp only [hI] at hfa
      have HFA := Lib.hid hfa
      obtain ⟨x1, xf1⟩ := row1 hz1
      obtain ⟨⟨f0, f1, f2, f3, f4, f5⟩, _⟩ := rows6 hzf
      have hne1 : ¬ w2.heap.size = w.heap.size + 1 := by omega
      have hne2 : ¬ w.heap.size + 1 = w2.heap.size := by omega
      have HFS := Lib.hid hfs
      clear hg2 hfa hI hR hfs
      go_wp2_with fail
      refine HFA.out.mono ?_
      rintro e w3 ⟨rfl, hb3⟩
      have hs3 := hb3.size
      simp only [World.size_alloc] at hs3
      have hz0 := (hb3.block _ (lt_of_block hz0)).trans hz0
      have hz1 := (hb3.block _ (lt_of_block hz1)).trans hz1
      have hzf := (hb3.block _ (lt_of_block hzf)).trans hzf
      have hown := hown.gr hb3
      have hof := Own.keep hof (fun b hb => hb3.block b (hof.block b hb).2)
      have hr2 := hr2.gr hb3
      have gg := grown_tr gg (Imp.grown_gr (g := some g) hb3)
      clear x1 xf1 f0 f1 f2 f3 f4 f5 HFA hb3
      by_cases hI : I < 0
      · have hId : decide (I < 0) = true := decide_eq_true hI
        have hgs := gr_al w3 (.cells #[.int .i64 f.root, .string f.pkg, .string f.name, .bool f.init, .int .i64 f.stamp, .slice fa f.body.length fc] 31)
        have hz0 := (hgs.block _ (lt_of_block hz0)).trans hz0
        have hz1a := (hgs.block _ (lt_of_block hz1)).trans hz1
        have hown := hown.gr hgs
        have hof := hof.alloc (.cells #[.int .i64 f.root, .string f.pkg, .string f.name, .bool f.init, .int .i64 f.stamp, .slice fa f.body.length fc] 31)
        have hr2 := hr2.al (.cells #[.int .i64 f.root, .string f.pkg, .string f.name, .bool f.init, .int .i64 f.stamp, .slice fa f.body.length fc] 31)
        have gg := grown_tr gg (grown_al w3 (.cells #[.int .i64 f.root, .string f.pkg, .string f.name, .bool f.init, .int .i64 f.stamp, .slice fa f.body.length fc] 31) (some g))
        have hsrc := SlR.oneAt w3 w.heap.size w3.heap.size (f, .slice fa f.body.length fc) 31 (enc := eF) (k := 6) rfl (by omega) rfl
        obtain ⟨x1, xf1⟩ := row1 hz1
        obtain ⟨⟨f0, f1, f2, f3, f4, f5⟩, _⟩ := rows6 hzf
        have hbl1 := lt_of_block hz1a
        have HZ1 := Lib.hid hz1a
        have HO := Lib.hid hown
        clear hz1a hown
        go_wp2_with (at_builtin
                     refine wpList_app _ rfl (.tmp 21) (.tmp 23) ti_fil rfl rfl HO.out.1 rfl hsrc (fun _ _ => rfl) (by simp [eF, Value.oneCell']) (by unfold maxLen; simp; omega) (by simp; omega) (by simp; omega) ?_
                     intro v9 w9 hown9 hg9 hat9
                     have hz1b := (hg9.block _ hbl1 (by intro q; have := (hobl _ (Or.inl q.symm)).1; omega)).trans HZ1.out
                     obtain ⟨y1, yf1⟩ := row1 hz1b
                     obtain ⟨va9, vc9, hv9, _, _⟩ := hown9.form
                     have hv9' : v9 = .slice va9 (M.length + 1) vc9 := by rw [hv9, List.length_append]; rfl
                     clear hv9
                     subst hv9'
                     have HZ9 := Lib.hid hz1b
                     clear hz1b)
        go_roundw
        case rel =>
          have o9 := OwnN.app (x := (f, .slice fa f.body.length fc)) HO.out hof (fun b hb q => by have h1 := (hofb b hb).1; have h2 := (hobl b q).2; omega) hown9 hg9 hat9
          refine ⟨j - 1, by go_num, _, M ++ [(f, .slice fa f.body.length fc)], p2, ?_, heap_set1 HZ9.out, o9.setB (by omega), by simp; omega, ?_, ?_, by omega, ?_⟩
          · exact set_other ((hg9.block _ (lt_of_block hz0) (by intro q; have := (hobl _ (Or.inl q.symm)).1; omega)).trans hz0) (by omega)
          · intro r hr
            rw [List.mem_append, List.mem_singleton] at hr
            rcases hr with hr | rfl
            · exact HSM.out r hr
            · exact ⟨by show f.body.length ≤ 5; omega, HFS.out, hfp, hfn⟩
          · exact (hr2.grown hg9 (fun b hb => by have := (hobl _ (Or.inl hb)).1; omega)).grown (grown_set _ _ _ _) (fun b hb => by injection hb with hb; omega)
          · exact grown_fresh (grown_fresh2 gg hg9 (fun b hb => by have := (hobl _ (Or.inl hb)).1; omega)) (grown_set _ _ _ _) (by omega)
        case measure => simp [intOf]; omega
      · have hId : decide (I < 0) = false := decide_eq_false hI
        go_wp2
        go_roundw
        case rel => exact ⟨j - 1, by go_num, .slice va M.length vc, M, p2, hz0, hz1, hown, by omega, HSM.out, hr2, by omega, gg⟩
        case measure => simp [intOf]; omega
    · obtain ⟨x1, xf1⟩ := row1 hz1
      obtain ⟨x0, xf0⟩ := row1 hz0
      obtain ⟨va, vc, rfl, _, _⟩ := hown.1.form
      have HZ := Lib.hid hz0
      have HSM := Lib.hid hsm
      clear hz0 hz1 hr1 gg1 hsm
      go_wp2
      refine bodyPost_ret (results_cell_row rfl _ _ w.heap.size 39 _ (0, 0) _ rfl (heap_set1 HZ.out) Tryd.underlying39 rfl (by kernel_rfl)) rfl ?_
      exact ⟨_, M, p', rfl, (hown.setB (by omega)).mono (by omega), by omega, HSM.out, hR.grown (grown_set _ _ _ _) (fun b hb => by injection hb with hb; omega), by omega, grown_fresh gg (grown_set _ _ _ _) (Nat.le_refl _)⟩
end Go.Proofs.YtbknhodjcgnfnaaDoor
