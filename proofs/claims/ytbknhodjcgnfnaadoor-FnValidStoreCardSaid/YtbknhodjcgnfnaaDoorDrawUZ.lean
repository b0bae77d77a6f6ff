/-
  Walks: a compiled file and a file drawn. Printed by drawu.py.
-/
import Derived.Test.YtbknhodjcgnfnaaDoorZ7
import Derived.Test.YtbknhodjcgnfnaaDoorCompSZ
import Derived.Deep.CutBlock
namespace Imp
open Go Go.RowKit
theorem drewH {W : World} {b : Nat} {o : Option Obj} (h : W.heap[b]? = o) : W.drew.heap[b]? = o := h
theorem nameP_size {f : Fil} (hp : f.pkg.size ≤ 7) (hn : f.name.size ≤ 1) : (mk (nameP f)).size ≤ 9 := by
  rw [mk_size]
  unfold nameP childP
  split
  · rw [bs_length]; omega
  · split
    · rw [bs_length]; omega
    · rw [List.length_append, List.length_cons, bs_length, bs_length]; omega
theorem totB_small : ∀ {L : List Stm}, (∀ s ∈ L, s.mod.size ≤ 5 ∧ s.name.size ≤ 5) → totB L ≤ 10 * L.length
  | [], _ => by simp [totB]
  | s :: L, h => by
    have h1 := h s (by simp)
    have h2 := totB_small (L := L) (fun x hx => h x (by simp [hx]))
    rw [totB, List.length_cons]; unfold szSt; omega
/-- A compiled file as the draws have it. -/
def SmCd (c : Cmp) : Prop := c.mod.size ≤ 9 ∧ c.body.length ≤ 4 ∧ (∀ s ∈ c.body, s.mod.size ≤ 5 ∧ s.name.size ≤ 5)
def SmFu (f : Fil) : Prop := f.body.length ≤ 4 ∧ (∀ s ∈ f.body, s.mod.size ≤ 5 ∧ s.name.size ≤ 5) ∧ f.pkg.size ≤ 7 ∧ f.name.size ≤ 1
theorem SlR.keepO {α : Type} {w w' : World} {base e k : Nat} {enc : α → List Value} {v : Value} {L : List α} (hk : ∀ x ∈ L, (enc x).length = k) (h : Own w base e k enc v L) (hs : ∀ b, v.ownBlock = some b → w'.heap[b]? = w.heap[b]?) : SlR w' 0 w'.heap.size k enc v L := ((h.keep hs).reads hk).mono (Nat.zero_le _) (Nat.le_refl _)
end Imp
namespace Go.Proofs.YtbknhodjcgnfnaaDoor
open Go Go.RowKit Imp
set_option linter.unusedVariables false
set_option linter.unusedSimpArgs false
def DrawnCF (w : World) (e : Ending) (w' : World) : Prop :=
  ∃ c : Cmp, ∃ f : Fil, ∃ cv fv, e = .returned (.tuple #[vCm c cv, vF (f, fv)]) ∧ SlR w' 0 w'.heap.size 5 eSt cv c.body ∧ SlR w' 0 w'.heap.size 5 eSt fv f.body ∧ SmCd c ∧ SmFu f ∧ Gr w w'
set_option maxHeartbeats 40000000 in
set_option maxRecDepth 10000 in
theorem DrawIsUsable_any {lo hi : Nat} (v : Value) (L : List UInt8) (w : World) (hv : SlR w lo hi 1 eB v L) (hhi : hi ≤ w.heap.size) (hl : L.length ≤ 1048576) :
    Calls Tryd.prog 8 #[v] w (DrawnCF w) := by
  have hg0 := gr_al2 w (.cells #[.int .i64 0, .string ByteArray.empty, .bool false, .int .i64 0, .int .i64 0, .int .i64 0, .int .i64 0, .slice none 0 0] 29) (.cells #[.int .i64 0, .string ByteArray.empty, .string ByteArray.empty, .bool false, .int .i64 0, .slice none 0 0] 31)
  have hr0 := newReader_any v L ((w.alloc (.cells #[.int .i64 0, .string ByteArray.empty, .bool false, .int .i64 0, .int .i64 0, .int .i64 0, .int .i64 0, .slice none 0 0] 29)).alloc (.cells #[.int .i64 0, .string ByteArray.empty, .string ByteArray.empty, .bool false, .int .i64 0, .slice none 0 0] 31)) (hv.below hg0 hhi) (by simp; omega) hl
  have hz3 : ((w.alloc (.cells #[.int .i64 0, .string ByteArray.empty, .bool false, .int .i64 0, .int .i64 0, .int .i64 0, .int .i64 0, .slice none 0 0] 29)).alloc (.cells #[.int .i64 0, .string ByteArray.empty, .string ByteArray.empty, .bool false, .int .i64 0, .slice none 0 0] 31)).heap[w.heap.size + 1]? = some (.cells #[.int .i64 0, .string ByteArray.empty, .string ByteArray.empty, .bool false, .int .i64 0, .slice none 0 0] 31) := heap_alloc2_new w _ _
  have hz2 : ((w.alloc (.cells #[.int .i64 0, .string ByteArray.empty, .bool false, .int .i64 0, .int .i64 0, .int .i64 0, .int .i64 0, .slice none 0 0] 29)).alloc (.cells #[.int .i64 0, .string ByteArray.empty, .string ByteArray.empty, .bool false, .int .i64 0, .slice none 0 0] 31)).heap[w.heap.size]? = some (.cells #[.int .i64 0, .string ByteArray.empty, .bool false, .int .i64 0, .int .i64 0, .int .i64 0, .int .i64 0, .slice none 0 0] 29) := (Below.heap_alloc (w.alloc (.cells #[.int .i64 0, .string ByteArray.empty, .bool false, .int .i64 0, .int .i64 0, .int .i64 0, .int .i64 0, .slice none 0 0] 29)) (.cells #[.int .i64 0, .string ByteArray.empty, .string ByteArray.empty, .bool false, .int .i64 0, .slice none 0 0] 31) w.heap.size (by simp)).trans (heap_alloc_new w (.cells #[.int .i64 0, .string ByteArray.empty, .bool false, .int .i64 0, .int .i64 0, .int .i64 0, .int .i64 0, .slice none 0 0] 29))
  obtain ⟨a, c, rfl, _, _⟩ := hv.form
  have HR0 := Lib.hid hr0
  clear hr0
  go_enter Tryd.func8, Tryd.ntmps8
  go_wp2_with fail
  refine HR0.out.mono ?_
  rintro e w1 ⟨rfl, hr, hsz, hb⟩
  simp only [World.size_alloc] at hr
  have hsz' : w1.heap.size = w.heap.size + 1 + 1 + 1 := by rw [hsz]; simp
  have hz2 := (hb.block w.heap.size (by simp <;> omega)).trans hz2
  have hz3 := (hb.block (w.heap.size + 1) (by simp <;> omega)).trans hz3
  have gg1 : ((w.alloc (.cells #[.int .i64 0, .string ByteArray.empty, .bool false, .int .i64 0, .int .i64 0, .int .i64 0, .int .i64 0, .slice none 0 0] 29)).alloc (.cells #[.int .i64 0, .string ByteArray.empty, .string ByteArray.empty, .bool false, .int .i64 0, .slice none 0 0] 31)).grownBy w1 (some (w.heap.size + 1 + 1)) := ⟨hb.os, hb.tape, hb.output, hb.size, fun i hi _ => hb.block i hi⟩
  clear HR0 hsz hb
  go_wp2_with fail
  refine (someFile_sm (w.heap.size + 1 + 1) 0 w1 hr (by omega)).mono ?_
  rintro e w2 ⟨f, fv, p2, rfl, hof, hfl, hfs, hfp, hfn, hr2, hp2, hg2⟩
  obtain ⟨fa, fc, rfl, _, _⟩ := hof.form
  have hz2 := keep_blk hz2 hg2 (by omega)
  have hz3 := keep_blk hz3 hg2 (by omega)
  have gg2 := grown_tr gg1 hg2
  have hs2 : w.heap.size + 3 ≤ w2.heap.size := by have := hg2.size; omega
  have hof := hof.mono (base' := w.heap.size + 3) (by omega)
  have hofb := hof.block
  have hgF := gr_al w2 (.cells #[.int .i64 f.root, .string f.pkg, .string f.name, .bool f.init, .int .i64 f.stamp, .slice fa f.body.length fc] 31)
  have hzF := heap_alloc_new w2 (.cells #[.int .i64 f.root, .string f.pkg, .string f.name, .bool f.init, .int .i64 f.stamp, .slice fa f.body.length fc] 31)
  have hz2 := (hgF.block _ (lt_of_block hz2)).trans hz2
  have hz3 := (hgF.block _ (lt_of_block hz3)).trans hz3
  have hof := Own.alloc hof (.cells #[.int .i64 f.root, .string f.pkg, .string f.name, .bool f.init, .int .i64 f.stamp, .slice fa f.body.length fc] 31)
  have hr2 := hr2.al (.cells #[.int .i64 f.root, .string f.pkg, .string f.name, .bool f.init, .int .i64 f.stamp, .slice fa f.body.length fc] 31)
  have gg2 := grown_tr gg2 (grown_al w2 (.cells #[.int .i64 f.root, .string f.pkg, .string f.name, .bool f.init, .int .i64 f.stamp, .slice fa f.body.length fc] 31) (some (w.heap.size + 1 + 1)))
  obtain ⟨b5, hb5⟩ : ∃ b5, b5 = w2.heap.size := ⟨_, rfl⟩
  have htb : totB f.body ≤ 40 := by have := totB_small (fun s hs => ⟨(hfs s hs).1, (hfs s hs).2.1⟩); omega
  obtain ⟨W2, hW2⟩ : ∃ W2, W2 = w2.alloc (.cells #[.int .i64 f.root, .string f.pkg, .string f.name, .bool f.init, .int .i64 f.stamp, .slice fa f.body.length fc] 31) := ⟨_, rfl⟩
  rw [← hb5] at hzF hs2 hofb
  have hW2s : W2.heap.size = b5 + 1 := by rw [hW2, hb5]; simp
  rw [← hW2] at hz2 hz3 hzF hof hr2 gg2
  have hpk := pick_any (w.heap.size + 1 + 1) _ 3 (W2.drewN 1) hr2 (by omega) (by omega)
  have hcell : ∀ W : World, W.heap[b5]? = some (.cells #[.int .i64 f.root, .string f.pkg, .string f.name, .bool f.init, .int .i64 f.stamp, .slice fa f.body.length fc] 31) → (W.cell? ⟨b5, 0, none⟩ = some (.int .i64 f.root) ∧ W.cell? ⟨b5, 1, none⟩ = some (.string f.pkg) ∧ W.cell? ⟨b5, 2, none⟩ = some (.string f.name) ∧ W.cell? ⟨b5, 3, none⟩ = some (.bool f.init) ∧ W.cell? ⟨b5, 4, none⟩ = some (.int .i64 f.stamp) ∧ W.cell? ⟨b5, 5, none⟩ = some (.slice fa f.body.length fc)) := fun W h => (rows6 h).1
  have hcm : ∀ W k, W.heap[b5]? = some (.cells #[.int .i64 f.root, .string f.pkg, .string f.name, .bool f.init, .int .i64 f.stamp, .slice fa f.body.length fc] 31) → Own W (w.heap.size + 3) 60 5 eSt (.slice fa f.body.length fc) f.body → Calls Tryd.prog 23 #[vF (f, .slice fa f.body.length fc), .int .i64 k] W (fun e w' => ∃ C u, C = cmpOf f k ∧ e = .returned (vCm C u) ∧ Own w' W.heap.size 60 5 eSt u C.body ∧ Gr W w') := fun W k _ ho => (scompiled_sm f _ k W (fun s hs => (hfs s hs).2.2) ((ho.reads (fun _ _ => rfl)).mono (Nat.zero_le _) (Nat.le_refl _)) (Nat.le_refl _) (by omega) (by omega) (by omega) (by omega)).mono (fun e w' ⟨u, h1, h2, h3⟩ => ⟨_, u, rfl, h1, h2, h3⟩)
  have hfu : SmFu f := ⟨hfl, fun s hs => ⟨(hfs s hs).1, (hfs s hs).2.1⟩, hfp, hfn⟩
  have hcd : ∀ k, SmCd (cmpOf f k) := fun k => ⟨nameP_size hfp hfn, hfl, hfu.2.1⟩
  have hcs : ∀ k, 0 ≤ (cmpOf f k).size ∧ (cmpOf f k).size ≤ 100 := fun k => by
    show 0 ≤ ((3 * f.body.length + totB f.body : Nat) : Int) ∧ ((3 * f.body.length + totB f.body : Nat) : Int) ≤ 100
    omega
  have HB5 := Lib.hid hb5
  have HW2 := Lib.hid hW2
  have HW2S := Lib.hid hW2s
  have HCELL := Lib.hid hcell
  have HCM := Lib.hid hcm
  have HPK := Lib.hid hpk
  have HFU := Lib.hid hfu
  have HCD := Lib.hid hcd
  have HCS := Lib.hid hcs
  have HZ2 := Lib.hid hz2
  have HZ3 := Lib.hid hz3
  have HZF := Lib.hid hzF
  have HOF := Lib.hid hof
  have HOB := Lib.hid hofb
  clear hb5 hW2 hW2s hcell hcm hpk hcd hcs hz2 hz3 hzF hof hofb hfs gg1 hg2
  go_wp2
  rw [← HW2.out, ← HB5.out]
  go_cut [6] from 7 (fun s6 wa => ∃ (C : Cmp) (ca : Option Addr) (cc b6 : Nat), s6 = .pointer (some ⟨b6, 0, none⟩) ∧ SmCd C ∧ 0 ≤ C.size ∧ C.size ≤ 100 ∧ wa.heap[b6]? = some (.cells #[.int .i64 C.root, .string C.mod, .bool C.init, .int .i64 C.mode, .int .i64 C.stamp, .int .i64 C.size, .int .i64 C.hash, .slice ca C.body.length cc] 29) ∧ wa.heap[b5]? = some (.cells #[.int .i64 f.root, .string f.pkg, .string f.name, .bool f.init, .int .i64 f.stamp, .slice fa f.body.length fc] 31) ∧ wa.heap[w.heap.size]? = some (.cells #[.int .i64 0, .string ByteArray.empty, .bool false, .int .i64 0, .int .i64 0, .int .i64 0, .int .i64 0, .slice none 0 0] 29) ∧ wa.heap[w.heap.size + 1]? = some (.cells #[.int .i64 0, .string ByteArray.empty, .string ByteArray.empty, .bool false, .int .i64 0, .slice none 0 0] 31) ∧ Own wa (w.heap.size + 3) 60 5 eSt (.slice ca C.body.length cc) C.body ∧ Own wa (w.heap.size + 3) 60 5 eSt (.slice fa f.body.length fc) f.body ∧ (∀ q, Value.ownBlock (.slice ca C.body.length cc) = some q → q ≠ b5 ∧ q ≠ b6) ∧ (∀ q, Value.ownBlock (.slice fa f.body.length fc) = some q → q ≠ b5 ∧ q ≠ b6) ∧ w.heap.size + 3 ≤ b5 ∧ b5 < b6 ∧ Rdr wa (w.heap.size + 1 + 1) (p2 + 1) ∧ ((w.alloc (.cells #[.int .i64 0, .string ByteArray.empty, .bool false, .int .i64 0, .int .i64 0, .int .i64 0, .int .i64 0, .slice none 0 0] 29)).alloc (.cells #[.int .i64 0, .string ByteArray.empty, .string ByteArray.empty, .bool false, .int .i64 0, .slice none 0 0] 31)).grownBy wa (some (w.heap.size + 1 + 1)))
  case first =>
    refine wp_region_held_drew (S := (fun W => W.cell? ⟨b5, 0, none⟩ = some (.int .i64 f.root) ∧ W.cell? ⟨b5, 1, none⟩ = some (.string f.pkg) ∧ W.cell? ⟨b5, 2, none⟩ = some (.string f.name) ∧ W.cell? ⟨b5, 3, none⟩ = some (.bool f.init) ∧ W.cell? ⟨b5, 4, none⟩ = some (.int .i64 f.stamp) ∧ W.cell? ⟨b5, 5, none⟩ = some (.slice fa f.body.length fc))) (by kernel_rfl) (HCELL.out _ HZF.out) (fun hS0 => ?_)
    refine wpAnyH_take (i := 0) (v := ?_) rfl (by kernel_rfl) (by kernel_rfl) (by kernel_rfl) (fun _ _ _ h => h) (Or.inl ⟨by rfl, ?_⟩) hS0 ?_
    rotate_left
    · (intro W hSw; (try dsimp only at hSw); go_simp; try (with_reducible rfl))
    try simp only [Act.put, List.getElem_toArray, List.getElem_cons_succ, List.getElem_cons_zero, List.setIfInBounds_toArray, List.set_cons_zero, List.set_cons_succ]
    refine wpAnyH_take (i := 1) (v := ?_) rfl (by kernel_rfl) (by kernel_rfl) (by kernel_rfl) (fun _ _ _ h => h) (Or.inl ⟨by rfl, ?_⟩) hS0 ?_
    rotate_left
    · (intro W hSw; (try dsimp only at hSw); go_simp; try (with_reducible rfl))
    try simp only [Act.put, List.getElem_toArray, List.getElem_cons_succ, List.getElem_cons_zero, List.setIfInBounds_toArray, List.set_cons_zero, List.set_cons_succ]
    refine wpAnyH_ready (rs := [2, 4]) (by kernel_rfl) (by simp) ?_
    refine AllReadyH.cons rfl (fun K hK => ?_) (AllReadyH.cons rfl (fun K hK => ?_) (AllReadyH.nil))
    · skip
      go_simp
      refine (HPK.out).mono ?_
      rintro e w4 ⟨q, rfl, hq0, hq1, hr4, hg4⟩
      have hg4' : W2.grownBy w4 (some (w.heap.size + 1 + 1)) := ⟨hg4.os, hg4.tape, hg4.output, hg4.size, hg4.block⟩
      have z54 := keep_blk HZF.out hg4' (by omega)
      refine hK.out _ _ (HCELL.out _ z54) (fun hS1 => ?_)
      clear hK K
      try simp only [Act.put, List.getElem_toArray, List.getElem_cons_succ, List.getElem_cons_zero, List.setIfInBounds_toArray, List.set_cons_zero, List.set_cons_succ]
      have hof4 := Own.keepR HOF.out hg4' (by omega)
      have z24 := keep_blk HZ2.out hg4' (by omega)
      have z34 := keep_blk HZ3.out hg4' (by omega)
      have gg4 := grown_tr gg2 hg4'
      have hl4 : b5 + 1 ≤ w4.heap.size := by have := hg4'.size; have := HW2S.out; omega
      refine wpAnyH_ready (rs := [3, 4]) (by kernel_rfl) (by simp) ?_
      refine AllReadyH.cons rfl (fun K hK => ?_) (AllReadyH.cons rfl (fun K hK => ?_) (AllReadyH.nil))
      · skip
        go_simp
        refine (HCM.out w4 q (z54) (hof4)).mono ?_
        rintro e w5 ⟨C, u5, hC, rfl, ho5, hb5_⟩
        obtain ⟨ca, cc, e5, _, _⟩ := ho5.form
        subst e5
        have HC := Lib.hid hC
        clear hC
        have z55 := (hb5_.block _ (lt_of_block (z54))).trans (z54)
        refine hK.out _ _ (HCELL.out _ z55) (fun hS2 => ?_)
        clear hK K
        try simp only [Act.put, List.getElem_toArray, List.getElem_cons_succ, List.getElem_cons_zero, List.setIfInBounds_toArray, List.set_cons_zero, List.set_cons_succ]
        refine wpAnyH_ready (rs := [4]) (by kernel_rfl) (by simp) ?_
        refine AllReadyH.cons rfl (fun K hK => ?_) (AllReadyH.nil)
        go_simp
        have gA := gr_al w5 (.cells #[.int .i64 0, .string ByteArray.empty, .bool false, .int .i64 0, .int .i64 0, .int .i64 0, .int .i64 0, .slice none 0 0] 29)
        refine hK.out _ _ (HCELL.out _ ((gA.block _ (lt_of_block z55)).trans z55)) (fun hS3 => ?_)
        clear hK K
        try simp only [Act.put, List.getElem_toArray, List.getElem_cons_succ, List.getElem_cons_zero, List.setIfInBounds_toArray, List.set_cons_zero, List.set_cons_succ]
        refine wpAnyH_ready (rs := [5]) (by kernel_rfl) (by simp) ?_
        refine AllReadyH.cons rfl (fun K hK => ?_) (AllReadyH.nil)
        go_simp
        have gB := gr_al w5 (.cells #[.int .i64 C.root, .string C.mod, .bool C.init, .int .i64 C.mode, .int .i64 C.stamp, .int .i64 C.size, .int .i64 C.hash, .slice ca C.body.length cc] 29)
        have gC := hb5_.tr gB
        refine hK.out _ _ (HCELL.out _ ((gB.block _ (lt_of_block z55)).trans z55)) (fun hS4 => ?_)
        clear hK K
        try simp only [Act.put, List.getElem_toArray, List.getElem_cons_succ, List.getElem_cons_zero, List.setIfInBounds_toArray, List.set_cons_zero, List.set_cons_succ]
        refine wpAnyH_done (by kernel_rfl) ?_ _
        have hl5 := hb5_.size
        go_wp2_with fail
        go_meet
        case rel => exact ⟨C, ca, cc, w5.heap.size, rfl, (by rw [HC.out]; exact HCD.out q), (by rw [HC.out]; exact (HCS.out q).1), (by rw [HC.out]; exact (HCS.out q).2), heap_alloc_new w5 (.cells #[.int .i64 C.root, .string C.mod, .bool C.init, .int .i64 C.mode, .int .i64 C.stamp, .int .i64 C.size, .int .i64 C.hash, .slice ca C.body.length cc] 29), (gB.block _ (lt_of_block z55)).trans z55, (gC.block _ (lt_of_block z24)).trans z24, (gC.block _ (lt_of_block z34)).trans z34, (ho5.mono (by omega)).alloc _, hof4.keep (fun q hq => gC.block q (hof4.block q hq).2), (fun q hq => by have := ho5.block q hq; omega), (fun q hq => by have := HOB.out q hq; omega), (by omega), (by omega), hr4.gr gC, (grown_tr gg4 ⟨gC.os, gC.tape, gC.output, gC.size, fun i hi _ => gC.block i hi⟩)⟩
      · skip
        go_simp
        have gA := gr_al w4 (.cells #[.int .i64 0, .string ByteArray.empty, .bool false, .int .i64 0, .int .i64 0, .int .i64 0, .int .i64 0, .slice none 0 0] 29)
        have zA := heap_alloc_new w4 (.cells #[.int .i64 0, .string ByteArray.empty, .bool false, .int .i64 0, .int .i64 0, .int .i64 0, .int .i64 0, .slice none 0 0] 29)
        refine hK.out _ _ (HCELL.out _ ((gA.block _ (lt_of_block z54)).trans z54)) (fun hS3 => ?_)
        clear hK K
        try simp only [Act.put, List.getElem_toArray, List.getElem_cons_succ, List.getElem_cons_zero, List.setIfInBounds_toArray, List.set_cons_zero, List.set_cons_succ]
        have z54a := (gA.block _ (lt_of_block z54)).trans z54
        have hof4a := hof4.alloc (.cells #[.int .i64 0, .string ByteArray.empty, .bool false, .int .i64 0, .int .i64 0, .int .i64 0, .int .i64 0, .slice none 0 0] 29)
        refine wpAnyH_ready (rs := [3]) (by kernel_rfl) (by simp) ?_
        refine AllReadyH.cons rfl (fun K hK => ?_) (AllReadyH.nil)
        go_simp
        refine (HCM.out (w4.alloc (.cells #[.int .i64 0, .string ByteArray.empty, .bool false, .int .i64 0, .int .i64 0, .int .i64 0, .int .i64 0, .slice none 0 0] 29)) q (z54a) (hof4a)).mono ?_
        rintro e w5 ⟨C, u5, hC, rfl, ho5, hb5_⟩
        obtain ⟨ca, cc, e5, _, _⟩ := ho5.form
        subst e5
        have HC := Lib.hid hC
        clear hC
        have z55 := (hb5_.block _ (lt_of_block (z54a))).trans (z54a)
        refine hK.out _ _ (HCELL.out _ z55) (fun hS2 => ?_)
        clear hK K
        try simp only [Act.put, List.getElem_toArray, List.getElem_cons_succ, List.getElem_cons_zero, List.setIfInBounds_toArray, List.set_cons_zero, List.set_cons_succ]
        have zA5 := (hb5_.block _ (lt_of_block zA)).trans zA
        obtain ⟨⟨n0, n1, n2, n3, n4, n5, n6, n7⟩, m0, m1, m2, m3, m4, m5, m6, m7⟩ := rows8 zA5
        have hput := put8 zA5 (.int .i64 C.root) (.string C.mod) (.bool C.init) (.int .i64 C.mode) (.int .i64 C.stamp) (.int .i64 C.size) (.int .i64 C.hash) (.slice ca C.body.length cc)
        have HPUT := Lib.hid hput
        clear hput
        refine wpAnyH_ready (rs := [5]) (by kernel_rfl) (by simp) ?_
        refine AllReadyH.cons rfl (fun K hK => ?_) (AllReadyH.nil)
        go_simp
        have gC := gA.tr hb5_
        refine hK.out _ _ (HCELL.out _ ((HPUT.out.2.block _ (lt_of_block z55) (by intro y; injection y with y; have := HW2S.out; omega)).trans z55)) (fun hS4 => ?_)
        clear hK K
        try simp only [Act.put, List.getElem_toArray, List.getElem_cons_succ, List.getElem_cons_zero, List.setIfInBounds_toArray, List.set_cons_zero, List.set_cons_succ]
        refine wpAnyH_done (by kernel_rfl) ?_ _
        have hl5 := hb5_.size
        try simp only [World.size_alloc] at hl5 ho5
        have hl6 := gC.size
        go_wp2_with fail
        go_meet
        have hw2 := HW2S.out
        case rel => exact ⟨C, ca, cc, w4.heap.size, rfl, (by rw [HC.out]; exact HCD.out q), (by rw [HC.out]; exact (HCS.out q).1), (by rw [HC.out]; exact (HCS.out q).2), HPUT.out.1, (HPUT.out.2.block _ (lt_of_block z55) (by intro y; injection y with y; omega)).trans z55, ((HPUT.out.2.block _ (lt_of_block ((gC.block _ (lt_of_block z24)).trans z24)) (by intro y; injection y with y; omega)).trans ((gC.block _ (lt_of_block z24)).trans z24)), ((HPUT.out.2.block _ (lt_of_block ((gC.block _ (lt_of_block z34)).trans z34)) (by intro y; injection y with y; omega)).trans ((gC.block _ (lt_of_block z34)).trans z34)), ((ho5.mono (by omega)).keep (fun q hq => HPUT.out.2.block q (ho5.block q hq).2 (by intro y; injection y with y; have := (ho5.block q hq).1; omega))), ((hof4).keep (fun q hq => (HPUT.out.2.block q (Nat.lt_of_lt_of_le ((hof4).block q hq).2 hl6) (by intro y; injection y with y; have := HOB.out q hq; omega)).trans (gC.block q ((hof4).block q hq).2))), (fun q hq => by have := ho5.block q hq; omega), (fun q hq => by have := HOB.out q hq; omega), (by omega), (by omega), ((hr4.gr gC).grown HPUT.out.2 (fun b hb => by injection hb with hb; omega)), (grown_fresh2 (grown_tr gg4 ⟨gC.os, gC.tape, gC.output, gC.size, fun i hi _ => gC.block i hi⟩) HPUT.out.2 (fun b hb => by injection hb with hb; simp; omega))⟩
    · skip
      go_simp
      have gA := gr_al (W2.drewN 1) (.cells #[.int .i64 0, .string ByteArray.empty, .bool false, .int .i64 0, .int .i64 0, .int .i64 0, .int .i64 0, .slice none 0 0] 29)
      have zA : ((W2.drewN 1).alloc (.cells #[.int .i64 0, .string ByteArray.empty, .bool false, .int .i64 0, .int .i64 0, .int .i64 0, .int .i64 0, .slice none 0 0] 29)).heap[W2.heap.size]? = some (.cells #[.int .i64 0, .string ByteArray.empty, .bool false, .int .i64 0, .int .i64 0, .int .i64 0, .int .i64 0, .slice none 0 0] 29) := heap_alloc_new (W2.drewN 1) (.cells #[.int .i64 0, .string ByteArray.empty, .bool false, .int .i64 0, .int .i64 0, .int .i64 0, .int .i64 0, .slice none 0 0] 29)
      refine hK.out _ _ (HCELL.out _ ((gA.block _ (lt_of_block HZF.out)).trans HZF.out)) (fun hS3 => ?_)
      clear hK K
      try simp only [Act.put, List.getElem_toArray, List.getElem_cons_succ, List.getElem_cons_zero, List.setIfInBounds_toArray, List.set_cons_zero, List.set_cons_succ]
      have hpk2 := pick_any (w.heap.size + 1 + 1) _ 3 ((W2.drewN 1).alloc (.cells #[.int .i64 0, .string ByteArray.empty, .bool false, .int .i64 0, .int .i64 0, .int .i64 0, .int .i64 0, .slice none 0 0] 29)) (hr2.al _) (by omega) (by omega)
      have HPK2 := Lib.hid hpk2
      clear hpk2
      have hzFa := (gA.block _ (lt_of_block HZF.out)).trans HZF.out
      refine wpAnyH_ready (rs := [2]) (by kernel_rfl) (by simp) ?_
      refine AllReadyH.cons rfl (fun K hK => ?_) (AllReadyH.nil)
      go_simp
      refine (HPK2.out).mono ?_
      rintro e w4 ⟨q, rfl, hq0, hq1, hr4, hg4⟩
      have hg4' : ((W2.drewN 1).alloc (.cells #[.int .i64 0, .string ByteArray.empty, .bool false, .int .i64 0, .int .i64 0, .int .i64 0, .int .i64 0, .slice none 0 0] 29)).grownBy w4 (some (w.heap.size + 1 + 1)) := ⟨hg4.os, hg4.tape, hg4.output, hg4.size, hg4.block⟩
      have z54 := keep_blk hzFa hg4' (by omega)
      refine hK.out _ _ (HCELL.out _ z54) (fun hS1 => ?_)
      clear hK K
      try simp only [Act.put, List.getElem_toArray, List.getElem_cons_succ, List.getElem_cons_zero, List.setIfInBounds_toArray, List.set_cons_zero, List.set_cons_succ]
      have gW : W2.grownBy ((W2.drewN 1).alloc (.cells #[.int .i64 0, .string ByteArray.empty, .bool false, .int .i64 0, .int .i64 0, .int .i64 0, .int .i64 0, .slice none 0 0] 29)) (some (w.heap.size + 1 + 1)) := ⟨gA.os, gA.tape, gA.output, gA.size, fun i hi _ => gA.block i hi⟩
      have hof4 := Own.keepR (Own.keepR HOF.out gW (by omega)) hg4' (by omega)
      have z24 := keep_blk (keep_blk HZ2.out gW (by omega)) hg4' (by omega)
      have z34 := keep_blk (keep_blk HZ3.out gW (by omega)) hg4' (by omega)
      have gg4 := grown_tr (grown_tr gg2 gW) hg4'
      have zA4 := keep_blk zA hg4' (by have : W2.heap.size = b5 + 1 := HW2S.out; omega)
      refine wpAnyH_ready (rs := [3]) (by kernel_rfl) (by simp) ?_
      refine AllReadyH.cons rfl (fun K hK => ?_) (AllReadyH.nil)
      go_simp
      refine (HCM.out w4 q (z54) (hof4)).mono ?_
      rintro e w5 ⟨C, u5, hC, rfl, ho5, hb5_⟩
      obtain ⟨ca, cc, e5, _, _⟩ := ho5.form
      subst e5
      have HC := Lib.hid hC
      clear hC
      have z55 := (hb5_.block _ (lt_of_block (z54))).trans (z54)
      refine hK.out _ _ (HCELL.out _ z55) (fun hS2 => ?_)
      clear hK K
      try simp only [Act.put, List.getElem_toArray, List.getElem_cons_succ, List.getElem_cons_zero, List.setIfInBounds_toArray, List.set_cons_zero, List.set_cons_succ]
      have zA5 := (hb5_.block _ (lt_of_block zA4)).trans zA4
      have hl4a := lt_of_block zA4
      obtain ⟨⟨n0, n1, n2, n3, n4, n5, n6, n7⟩, m0, m1, m2, m3, m4, m5, m6, m7⟩ := rows8 zA5
      have hput := put8 zA5 (.int .i64 C.root) (.string C.mod) (.bool C.init) (.int .i64 C.mode) (.int .i64 C.stamp) (.int .i64 C.size) (.int .i64 C.hash) (.slice ca C.body.length cc)
      have HPUT := Lib.hid hput
      clear hput
      refine wpAnyH_ready (rs := [5]) (by kernel_rfl) (by simp) ?_
      refine AllReadyH.cons rfl (fun K hK => ?_) (AllReadyH.nil)
      go_simp
      have gC := hb5_
      refine hK.out _ _ (HCELL.out _ ((HPUT.out.2.block _ (lt_of_block z55) (by intro y; injection y with y; have := HW2S.out; omega)).trans z55)) (fun hS4 => ?_)
      clear hK K
      try simp only [Act.put, List.getElem_toArray, List.getElem_cons_succ, List.getElem_cons_zero, List.setIfInBounds_toArray, List.set_cons_zero, List.set_cons_succ]
      refine wpAnyH_done (by kernel_rfl) ?_ _
      have hl5 := hb5_.size
      try simp only [World.size_alloc] at hl5 ho5
      have hl6 := gC.size
      go_wp2_with fail
      go_meet
      have hw2 := HW2S.out
      case rel => exact ⟨C, ca, cc, W2.heap.size, rfl, (by rw [HC.out]; exact HCD.out q), (by rw [HC.out]; exact (HCS.out q).1), (by rw [HC.out]; exact (HCS.out q).2), HPUT.out.1, (HPUT.out.2.block _ (lt_of_block z55) (by intro y; injection y with y; omega)).trans z55, ((HPUT.out.2.block _ (lt_of_block ((gC.block _ (lt_of_block z24)).trans z24)) (by intro y; injection y with y; omega)).trans ((gC.block _ (lt_of_block z24)).trans z24)), ((HPUT.out.2.block _ (lt_of_block ((gC.block _ (lt_of_block z34)).trans z34)) (by intro y; injection y with y; omega)).trans ((gC.block _ (lt_of_block z34)).trans z34)), ((ho5.mono (by omega)).keep (fun q hq => HPUT.out.2.block q (ho5.block q hq).2 (by intro y; injection y with y; have := (ho5.block q hq).1; omega))), ((hof4).keep (fun q hq => (HPUT.out.2.block q (Nat.lt_of_lt_of_le ((hof4).block q hq).2 hl6) (by intro y; injection y with y; have := HOB.out q hq; omega)).trans (gC.block q ((hof4).block q hq).2))), (fun q hq => by have := ho5.block q hq; omega), (fun q hq => by have := HOB.out q hq; omega), (by omega), (by omega), ((hr4.gr gC).grown HPUT.out.2 (fun b hb => by injection hb with hb; omega)), (grown_fresh2 (grown_tr gg4 ⟨gC.os, gC.tape, gC.output, gC.size, fun i hi _ => gC.block i hi⟩) HPUT.out.2 (fun b hb => by injection hb with hb; simp; omega))⟩
  case rest =>
  obtain ⟨C, ca, cc, b6, rfl, hsc, hsz1, hsz2, z6, z5, z2, z3, oc, of, nc, nf, hlt, hlt2, hR, gg⟩ := hcut
  go_wp2_with fail
  refine (pick_any (w.heap.size + 1 + 1) _ 6 wc hR (by omega) (by omega)).mono ?_
  rintro e w3 ⟨k, rfl, hk0, hk1, hr3, hgrow⟩
  have gg3 := grown_tr gg hgrow
  have hof3 := Own.keepR of hgrow (by omega)
  have hoc3 := Own.keepR oc hgrow (by omega)
  have z53 := keep_blk z5 hgrow (by omega)
  have z63 := keep_blk z6 hgrow (by omega)
  have z23 := keep_blk z2 hgrow (by omega)
  have z33 := keep_blk z3 hgrow (by omega)
  have hfu := HFU.out
  clear hgrow hk0 hk1 z2 z3 z5 z6 oc of hR gg HCELL HCM HPK HFU HCD HCS HZ2 HZ3 HZF HOF HW2 HW2S
  have hl3 : w.heap.size + 3 ≤ w3.heap.size := by have := lt_of_block z53; omega
  go_upto_block 0 with fail
  go_cut [] from 7 (fun wx => ∃ (C : Cmp) (f : Fil) (ca fa : Option Addr) (cc fc : Nat), SmCd C ∧ SmFu f ∧ wx.heap[b6]? = some (.cells #[.int .i64 C.root, .string C.mod, .bool C.init, .int .i64 C.mode, .int .i64 C.stamp, .int .i64 C.size, .int .i64 C.hash, .slice ca C.body.length cc] 29) ∧ wx.heap[b5]? = some (.cells #[.int .i64 f.root, .string f.pkg, .string f.name, .bool f.init, .int .i64 f.stamp, .slice fa f.body.length fc] 31) ∧ wx.heap[w.heap.size]? = some (.cells #[.int .i64 0, .string ByteArray.empty, .bool false, .int .i64 0, .int .i64 0, .int .i64 0, .int .i64 0, .slice none 0 0] 29) ∧ wx.heap[w.heap.size + 1]? = some (.cells #[.int .i64 0, .string ByteArray.empty, .string ByteArray.empty, .bool false, .int .i64 0, .slice none 0 0] 31) ∧ Own wx (w.heap.size + 3) 60 5 eSt (.slice ca C.body.length cc) C.body ∧ Own wx (w.heap.size + 3) 60 5 eSt (.slice fa f.body.length fc) f.body ∧ Gr w wx)
  case first =>
    rename_i J0 K1 hJ0 hK1
    obtain ⟨⟨p0, p1, p2_, p3, p4, p5⟩, r0, r1, r2, r3, r4, r5⟩ := rows6 z53
    have NC := Lib.hid nc
    have NF := Lib.hid nf
    clear nc nf
    by_cases h0 : k = 0
    · subst h0
      go_wp2_with fail
      refine (someBody_any (w.heap.size + 1 + 1) _ w3 hr3 (by omega)).mono ?_
      rintro e w4 ⟨bv, bL, pp4, rfl, hob, hbl, hbs, hr4, hp4, hg4⟩
      obtain ⟨ba, bc, rfl, _, _⟩ := hob.form
      have z54 := keep_blk z53 hg4 (by omega)
      have z64 := keep_blk z63 hg4 (by omega)
      have z24 := keep_blk z23 hg4 (by omega)
      have z34 := keep_blk z33 hg4 (by omega)
      have gg4 := grown_tr gg3 hg4
      have hl64 := lt_of_block z63
      have hoc4 := Own.keepR hoc3 hg4 (by omega)
      have hobl : ∀ q, Value.ownBlock (.slice ba bL.length bc) = some q → q ≠ b5 := fun q hq => by have := (hob.block q hq).1; omega
      have hob := hob.mono (base' := w.heap.size + 3) hl3
      obtain ⟨⟨_, _, _, _, _, q5⟩, _, _, _, _, _, s5⟩ := rows6 z54
      clear p0 p1 p2_ p3 p4 p5 r0 r1 r2 r3 r4 r5
      go_wp2
      have z5' : (w4.setCell ⟨b5, 5, none⟩ (.slice ba bL.length bc)).heap[b5]? = some (.cells #[.int .i64 f.root, .string f.pkg, .string f.name, .bool f.init, .int .i64 f.stamp, .slice ba bL.length bc] 31 (0, 0)) := heap_setCell_same _ b5 5 _ _ _ z54
      go_meet
      case rel => exact ⟨⟨C.root, C.mod, C.init, C.mode, C.stamp, C.size, C.hash, C.body⟩, ⟨f.root, f.pkg, f.name, f.init, f.stamp, bL⟩, ca, ba, cc, bc, hsc, ⟨hbl, hbs, hfu.2.2.1, hfu.2.2.2⟩, set_other (b' := b5) (o := 5) (v := .slice ba bL.length bc) z64 (by omega), z5', set_other (b' := b5) (o := 5) (v := .slice ba bL.length bc) z24 (by omega), set_other (b' := b5) (o := 5) (v := .slice ba bL.length bc) z34 (by omega), Own.keep hoc4 (fun q hq => Below.heap_setCell _ _ _ q (by show q ≠ b5; exact (NC.out q hq).1)), Own.keep hob (fun q hq => Below.heap_setCell _ _ _ q (by show q ≠ b5; exact hobl q hq)), (hg0.grown gg4 (by simp <;> omega) (fun b hb => by injection hb with hb; omega)).setCell (p := ⟨b5, 5, none⟩) (by show w.heap.size ≤ b5; omega) (.slice ba bL.length bc)⟩
    · have e0 : (k == 0) = false := by simp [h0]
      by_cases h1 : k = 1
      · subst h1
        go_wp2_with fail
        refine (pick_any (w.heap.size + 1 + 1) _ 100 w3 hr3 (by omega) (by omega)).mono ?_
        rintro e w4 ⟨st, rfl, _, _, hr4, hg4⟩
        have z54 := keep_blk z53 hg4 (by omega)
        have z64 := keep_blk z63 hg4 (by omega)
        have z24 := keep_blk z23 hg4 (by omega)
        have z34 := keep_blk z33 hg4 (by omega)
        have gg4 := grown_tr gg3 hg4
        have hoc4 := Own.keepR hoc3 hg4 (by omega)
        have hof4 := Own.keepR hof3 hg4 (by omega)
        obtain ⟨⟨_, _, _, _, q4, _⟩, _, _, _, _, s4, _⟩ := rows6 z54
        clear p0 p1 p2_ p3 p4 p5 r0 r1 r2 r3 r4 r5
        go_wp2
        have z5' : (w4.setCell ⟨b5, 4, none⟩ (.int .i64 st)).heap[b5]? = some (.cells #[.int .i64 f.root, .string f.pkg, .string f.name, .bool f.init, .int .i64 st, .slice fa f.body.length fc] 31 (0, 0)) := heap_setCell_same _ b5 4 _ _ _ z54
        go_meet
        case rel => exact ⟨⟨C.root, C.mod, C.init, C.mode, C.stamp, C.size, C.hash, C.body⟩, ⟨f.root, f.pkg, f.name, f.init, st, f.body⟩, ca, fa, cc, fc, hsc, hfu, set_other (b' := b5) (o := 4) (v := .int .i64 st) z64 (by omega), z5', set_other (b' := b5) (o := 4) (v := .int .i64 st) z24 (by omega), set_other (b' := b5) (o := 4) (v := .int .i64 st) z34 (by omega), Own.keep hoc4 (fun q hq => Below.heap_setCell _ _ _ q (by show q ≠ b5; exact (NC.out q hq).1)), Own.keep hof4 (fun q hq => Below.heap_setCell _ _ _ q (by show q ≠ b5; exact (NF.out q hq).1)), (hg0.grown gg4 (by simp <;> omega) (fun b hb => by injection hb with hb; omega)).setCell (p := ⟨b5, 4, none⟩) (by show w.heap.size ≤ b5; omega) (.int .i64 st)⟩
      · have e1 : (k == 1) = false := by simp [h1]
        by_cases h2 : k = 2
        · subst h2
          go_wp2_with fail
          refine (anyFile_any (w.heap.size + 1 + 1) _ w3 hr3 (by omega)).mono ?_
          rintro e w4 ⟨f2, v2, pp4, rfl, ho2, hll, hls, hpk, hnm, hr4, hp4, hg4⟩
          obtain ⟨ba, bc, rfl, _, _⟩ := ho2.form
          have z54 := keep_blk z53 hg4 (by omega)
          have z64 := keep_blk z63 hg4 (by omega)
          have z24 := keep_blk z23 hg4 (by omega)
          have z34 := keep_blk z33 hg4 (by omega)
          have gg4 := grown_tr gg3 hg4
          have hl64 := lt_of_block z63
          have hoc4 := Own.keepR hoc3 hg4 (by omega)
          have hobl : ∀ q, Value.ownBlock (.slice ba f2.body.length bc) = some q → q ≠ b5 := fun q hq => by have := (ho2.block q hq).1; omega
          have ho2 := ho2.mono (base' := w.heap.size + 3) hl3
          obtain ⟨⟨q0, q1, q2, q3, q4, q5⟩, s0, s1, s2, s3, s4, s5⟩ := rows6 z54
          clear p0 p1 p2_ p3 p4 p5 r0 r1 r2 r3 r4 r5
          have hput := put6 z54 (.int .i64 f2.root) (.string f2.pkg) (.string f2.name) (.bool f2.init) (.int .i64 f2.stamp) (.slice ba f2.body.length bc)
          have HPUT := Lib.hid hput
          clear hput
          go_wp2
          go_meet
          case rel => exact ⟨⟨C.root, C.mod, C.init, C.mode, C.stamp, C.size, C.hash, C.body⟩, ⟨f2.root, f2.pkg, f2.name, f2.init, f2.stamp, f2.body⟩, ca, ba, cc, bc, hsc, ⟨hll, hls, hpk, hnm⟩, (HPUT.out.2.block _ (lt_of_block z64) (by intro y; injection y with y; omega)).trans z64, HPUT.out.1, (HPUT.out.2.block _ (lt_of_block z24) (by intro y; injection y with y; omega)).trans z24, (HPUT.out.2.block _ (lt_of_block z34) (by intro y; injection y with y; omega)).trans z34, Own.keep hoc4 (fun q hq => HPUT.out.2.block q (hoc4.block q hq).2 (by intro y; injection y with y; exact (NC.out q hq).1 y)), Own.keep ho2 (fun q hq => HPUT.out.2.block q (ho2.block q hq).2 (by intro y; injection y with y; exact hobl q hq y)), (hg0.grown gg4 (by simp <;> omega) (fun b hb => by injection hb with hb; omega)).grown HPUT.out.2 (by have := hg4.size; omega) (fun b hb => by injection hb with hb; omega)⟩
        · have e2 : (k == 2) = false := by simp [h2]
          by_cases h3 : k = 3
          · subst h3
            have HON := Lib.hid (one_lit (w.heap.size + 1 + 1) _ [0, 1] (w3.drewN 1) hr3 (by omega) (by decide) (by decide))
            obtain ⟨⟨_, _, _, _, _, m5, _, _⟩, _⟩ := rows8 z63
            have mA := (rows8 (((gr_al w3 (.cells #[.int .i64 0, .int .i64 1] 3)).block _ (lt_of_block z63)).trans z63)).1.2.2.2.2.2.1
            clear p0 p1 p2_ p3 p4 p5 r0 r1 r2 r3 r4 r5
            go_wp2
            refine wp_region_held_drew (S := (fun _ => True)) (by kernel_rfl) trivial (fun hS0 => ?_)
            refine wpAnyH_take (i := 0) (v := ?_) rfl (by kernel_rfl) (by kernel_rfl) (by kernel_rfl) (fun _ _ _ h => h) (Or.inl ⟨by rfl, ?_⟩) hS0 ?_
            rotate_left
            · (intro W hSw; (try dsimp only at hSw); go_simp; try (with_reducible rfl))
            try simp only [Act.put, List.getElem_toArray, List.getElem_cons_succ, List.getElem_cons_zero, List.setIfInBounds_toArray, List.set_cons_zero, List.set_cons_succ]
            refine wpAnyH_take (i := 2) (v := ?_) rfl (by kernel_rfl) (by kernel_rfl) (by kernel_rfl) (fun _ _ _ h => h) (Or.inl ⟨by rfl, ?_⟩) hS0 ?_
            rotate_left
            · (intro W hSw; (try dsimp only at hSw); go_simp; try (with_reducible rfl))
            try simp only [Act.put, List.getElem_toArray, List.getElem_cons_succ, List.getElem_cons_zero, List.setIfInBounds_toArray, List.set_cons_zero, List.set_cons_succ]
            refine wpAnyH_ready (rs := [1, 3]) (by kernel_rfl) (by simp) ?_
            refine AllReadyH.cons rfl (fun K hK => ?_) (AllReadyH.cons rfl (fun K hK => ?_) (AllReadyH.nil))
            · skip
              go_simp
              refine hK.out _ _ trivial (fun _ => ?_)
              clear hK K
              try simp only [Act.put, List.getElem_toArray, List.getElem_cons_succ, List.getElem_cons_zero, List.setIfInBounds_toArray, List.set_cons_zero, List.set_cons_succ]
              refine wpAnyH_ready (rs := [3]) (by kernel_rfl) (by simp) ?_
              refine AllReadyH.cons rfl (fun K hK => ?_) (AllReadyH.nil)
              go_simp
              refine hK.out _ _ trivial (fun _ => ?_)
              clear hK K
              try simp only [Act.put, List.getElem_toArray, List.getElem_cons_succ, List.getElem_cons_zero, List.setIfInBounds_toArray, List.set_cons_zero, List.set_cons_succ]
              refine wpAnyH_ready (rs := [4]) (by kernel_rfl) (by simp) ?_
              refine AllReadyH.cons rfl (fun K hK => ?_) (AllReadyH.nil)
              go_simp
              refine HON.out.mono ?_
              rintro e w5 ⟨q, rfl, hq, hr5, hg5⟩
              refine hK.out _ _ trivial (fun _ => ?_)
              clear hK K
              try simp only [Act.put, List.getElem_toArray, List.getElem_cons_succ, List.getElem_cons_zero, List.setIfInBounds_toArray, List.set_cons_zero, List.set_cons_succ]
              have hg5' : w3.grownBy w5 (some (w.heap.size + 1 + 1)) := ⟨hg5.os, hg5.tape, hg5.output, hg5.size, hg5.block⟩
              have z55 := keep_blk z53 hg5' (by omega)
              have z65 := keep_blk z63 hg5' (by omega)
              have z25 := keep_blk z23 hg5' (by omega)
              have z35 := keep_blk z33 hg5' (by omega)
              have gg5 := grown_tr gg3 hg5'
              have hoc5 := Own.keepR hoc3 hg5' (by omega)
              have hof5 := Own.keepR hof3 hg5' (by omega)
              have hq01 : q = 0 ∨ q = 1 := by simpa using hq
              have hws : IntKind.i64.wrap (C.size + q) = C.size + q := IntWalk.i64_in _ (by omega)
              obtain ⟨⟨_, _, _, _, _, q5, _, _⟩, _, _, _, _, _, s5, _, _⟩ := rows8 z65
              refine wpAnyH_take (i := 5) (v := ?_) rfl (by kernel_rfl) (by kernel_rfl) (by kernel_rfl) (fun _ _ _ h => h) (Or.inl ⟨by rfl, ?_⟩) trivial ?_
              rotate_left
              · (intro W hSw; (try dsimp only at hSw); go_simp; try (with_reducible rfl))
              try simp only [Act.put, List.getElem_toArray, List.getElem_cons_succ, List.getElem_cons_zero, List.setIfInBounds_toArray, List.set_cons_zero, List.set_cons_succ]
              refine wpAnyH_take (i := 6) (v := ?_) rfl (by kernel_rfl) (by kernel_rfl) (by kernel_rfl) (fun _ _ _ h => h) (Or.inl ⟨by rfl, ?_⟩) trivial ?_
              rotate_left
              · (intro W hSw; (try dsimp only at hSw); go_simp; try (with_reducible rfl))
              try simp only [Act.put, List.getElem_toArray, List.getElem_cons_succ, List.getElem_cons_zero, List.setIfInBounds_toArray, List.set_cons_zero, List.set_cons_succ]
              refine wpAnyH_ready (rs := [7]) (by kernel_rfl) (by simp) ?_
              refine AllReadyH.cons rfl (fun K hK => ?_) (AllReadyH.nil)
              go_simp
              refine hK.out _ _ trivial (fun _ => ?_)
              clear hK K
              try simp only [Act.put, List.getElem_toArray, List.getElem_cons_succ, List.getElem_cons_zero, List.setIfInBounds_toArray, List.set_cons_zero, List.set_cons_succ]
              refine wpAnyH_done (by kernel_rfl) ?_ _
              have z6' : (w5.setCell ⟨b6, 5, none⟩ (.int .i64 (C.size + q))).heap[b6]? = some (.cells #[.int .i64 C.root, .string C.mod, .bool C.init, .int .i64 C.mode, .int .i64 C.stamp, .int .i64 (C.size + q), .int .i64 C.hash, .slice ca C.body.length cc] 29 (0, 0)) := heap_setCell_same _ b6 5 _ _ _ z65
              refine hK1 _ _ ?_
              refine Met.intro ?_
              refine hJ0 _ _ ?_
              (repeat apply Exists.intro)
              refine ⟨?rel, rfl⟩
              case rel => exact ⟨⟨C.root, C.mod, C.init, C.mode, C.stamp, (C.size + q), C.hash, C.body⟩, ⟨f.root, f.pkg, f.name, f.init, f.stamp, f.body⟩, ca, fa, cc, fc, hsc, hfu, z6', set_other (b' := b6) (o := 5) (v := .int .i64 (C.size + q)) z55 (by omega), set_other (b' := b6) (o := 5) (v := .int .i64 (C.size + q)) z25 (by omega), set_other (b' := b6) (o := 5) (v := .int .i64 (C.size + q)) z35 (by omega), Own.keep hoc5 (fun q hq => Below.heap_setCell _ _ _ q (by show q ≠ b6; exact (NC.out q hq).2)), Own.keep hof5 (fun q hq => Below.heap_setCell _ _ _ q (by show q ≠ b6; exact (NF.out q hq).2)), (hg0.grown gg5 (by simp <;> omega) (fun b hb => by injection hb with hb; omega)).setCell (p := ⟨b6, 5, none⟩) (by show w.heap.size ≤ b6; omega) (.int .i64 (C.size + q))⟩
            · skip
              go_simp
              refine hK.out _ _ trivial (fun _ => ?_)
              clear hK K
              try simp only [Act.put, List.getElem_toArray, List.getElem_cons_succ, List.getElem_cons_zero, List.setIfInBounds_toArray, List.set_cons_zero, List.set_cons_succ]
              refine wpAnyH_ready (rs := [1, 4]) (by kernel_rfl) (by simp) ?_
              refine AllReadyH.cons rfl (fun K hK => ?_) (AllReadyH.cons rfl (fun K hK => ?_) (AllReadyH.nil))
              · skip
                go_simp
                refine hK.out _ _ trivial (fun _ => ?_)
                clear hK K
                try simp only [Act.put, List.getElem_toArray, List.getElem_cons_succ, List.getElem_cons_zero, List.setIfInBounds_toArray, List.set_cons_zero, List.set_cons_succ]
                refine wpAnyH_ready (rs := [4]) (by kernel_rfl) (by simp) ?_
                refine AllReadyH.cons rfl (fun K hK => ?_) (AllReadyH.nil)
                go_simp
                refine HON.out.mono ?_
                rintro e w5 ⟨q, rfl, hq, hr5, hg5⟩
                refine hK.out _ _ trivial (fun _ => ?_)
                clear hK K
                try simp only [Act.put, List.getElem_toArray, List.getElem_cons_succ, List.getElem_cons_zero, List.setIfInBounds_toArray, List.set_cons_zero, List.set_cons_succ]
                have hg5' : w3.grownBy w5 (some (w.heap.size + 1 + 1)) := ⟨hg5.os, hg5.tape, hg5.output, hg5.size, hg5.block⟩
                have z55 := keep_blk z53 hg5' (by omega)
                have z65 := keep_blk z63 hg5' (by omega)
                have z25 := keep_blk z23 hg5' (by omega)
                have z35 := keep_blk z33 hg5' (by omega)
                have gg5 := grown_tr gg3 hg5'
                have hoc5 := Own.keepR hoc3 hg5' (by omega)
                have hof5 := Own.keepR hof3 hg5' (by omega)
                have hq01 : q = 0 ∨ q = 1 := by simpa using hq
                have hws : IntKind.i64.wrap (C.size + q) = C.size + q := IntWalk.i64_in _ (by omega)
                obtain ⟨⟨_, _, _, _, _, q5, _, _⟩, _, _, _, _, _, s5, _, _⟩ := rows8 z65
                refine wpAnyH_take (i := 5) (v := ?_) rfl (by kernel_rfl) (by kernel_rfl) (by kernel_rfl) (fun _ _ _ h => h) (Or.inl ⟨by rfl, ?_⟩) trivial ?_
                rotate_left
                · (intro W hSw; (try dsimp only at hSw); go_simp; try (with_reducible rfl))
                try simp only [Act.put, List.getElem_toArray, List.getElem_cons_succ, List.getElem_cons_zero, List.setIfInBounds_toArray, List.set_cons_zero, List.set_cons_succ]
                refine wpAnyH_take (i := 6) (v := ?_) rfl (by kernel_rfl) (by kernel_rfl) (by kernel_rfl) (fun _ _ _ h => h) (Or.inl ⟨by rfl, ?_⟩) trivial ?_
                rotate_left
                · (intro W hSw; (try dsimp only at hSw); go_simp; try (with_reducible rfl))
                try simp only [Act.put, List.getElem_toArray, List.getElem_cons_succ, List.getElem_cons_zero, List.setIfInBounds_toArray, List.set_cons_zero, List.set_cons_succ]
                refine wpAnyH_ready (rs := [7]) (by kernel_rfl) (by simp) ?_
                refine AllReadyH.cons rfl (fun K hK => ?_) (AllReadyH.nil)
                go_simp
                refine hK.out _ _ trivial (fun _ => ?_)
                clear hK K
                try simp only [Act.put, List.getElem_toArray, List.getElem_cons_succ, List.getElem_cons_zero, List.setIfInBounds_toArray, List.set_cons_zero, List.set_cons_succ]
                refine wpAnyH_done (by kernel_rfl) ?_ _
                have z6' : (w5.setCell ⟨b6, 5, none⟩ (.int .i64 (C.size + q))).heap[b6]? = some (.cells #[.int .i64 C.root, .string C.mod, .bool C.init, .int .i64 C.mode, .int .i64 C.stamp, .int .i64 (C.size + q), .int .i64 C.hash, .slice ca C.body.length cc] 29 (0, 0)) := heap_setCell_same _ b6 5 _ _ _ z65
                refine hK1 _ _ ?_
                refine Met.intro ?_
                refine hJ0 _ _ ?_
                (repeat apply Exists.intro)
                refine ⟨?rel, rfl⟩
                case rel => exact ⟨⟨C.root, C.mod, C.init, C.mode, C.stamp, (C.size + q), C.hash, C.body⟩, ⟨f.root, f.pkg, f.name, f.init, f.stamp, f.body⟩, ca, fa, cc, fc, hsc, hfu, z6', set_other (b' := b6) (o := 5) (v := .int .i64 (C.size + q)) z55 (by omega), set_other (b' := b6) (o := 5) (v := .int .i64 (C.size + q)) z25 (by omega), set_other (b' := b6) (o := 5) (v := .int .i64 (C.size + q)) z35 (by omega), Own.keep hoc5 (fun q hq => Below.heap_setCell _ _ _ q (by show q ≠ b6; exact (NC.out q hq).2)), Own.keep hof5 (fun q hq => Below.heap_setCell _ _ _ q (by show q ≠ b6; exact (NF.out q hq).2)), (hg0.grown gg5 (by simp <;> omega) (fun b hb => by injection hb with hb; omega)).setCell (p := ⟨b6, 5, none⟩) (by show w.heap.size ≤ b6; omega) (.int .i64 (C.size + q))⟩
              · skip
                go_simp
                refine HON.out.mono ?_
                rintro e w5 ⟨q, rfl, hq, hr5, hg5⟩
                refine hK.out _ _ trivial (fun _ => ?_)
                clear hK K
                try simp only [Act.put, List.getElem_toArray, List.getElem_cons_succ, List.getElem_cons_zero, List.setIfInBounds_toArray, List.set_cons_zero, List.set_cons_succ]
                have hg5' : w3.grownBy w5 (some (w.heap.size + 1 + 1)) := ⟨hg5.os, hg5.tape, hg5.output, hg5.size, hg5.block⟩
                have z55 := keep_blk z53 hg5' (by omega)
                have z65 := keep_blk z63 hg5' (by omega)
                have z25 := keep_blk z23 hg5' (by omega)
                have z35 := keep_blk z33 hg5' (by omega)
                have gg5 := grown_tr gg3 hg5'
                have hoc5 := Own.keepR hoc3 hg5' (by omega)
                have hof5 := Own.keepR hof3 hg5' (by omega)
                have hq01 : q = 0 ∨ q = 1 := by simpa using hq
                have hws : IntKind.i64.wrap (C.size + q) = C.size + q := IntWalk.i64_in _ (by omega)
                obtain ⟨⟨_, _, _, _, _, q5, _, _⟩, _, _, _, _, _, s5, _, _⟩ := rows8 z65
                refine wpAnyH_ready (rs := [1]) (by kernel_rfl) (by simp) ?_
                refine AllReadyH.cons rfl (fun K hK => ?_) (AllReadyH.nil)
                go_simp
                refine hK.out _ _ trivial (fun _ => ?_)
                clear hK K
                try simp only [Act.put, List.getElem_toArray, List.getElem_cons_succ, List.getElem_cons_zero, List.setIfInBounds_toArray, List.set_cons_zero, List.set_cons_succ]
                refine wpAnyH_take (i := 5) (v := ?_) rfl (by kernel_rfl) (by kernel_rfl) (by kernel_rfl) (fun _ _ _ h => h) (Or.inl ⟨by rfl, ?_⟩) trivial ?_
                rotate_left
                · (intro W hSw; (try dsimp only at hSw); go_simp; try (with_reducible rfl))
                try simp only [Act.put, List.getElem_toArray, List.getElem_cons_succ, List.getElem_cons_zero, List.setIfInBounds_toArray, List.set_cons_zero, List.set_cons_succ]
                refine wpAnyH_take (i := 6) (v := ?_) rfl (by kernel_rfl) (by kernel_rfl) (by kernel_rfl) (fun _ _ _ h => h) (Or.inl ⟨by rfl, ?_⟩) trivial ?_
                rotate_left
                · (intro W hSw; (try dsimp only at hSw); go_simp; try (with_reducible rfl))
                try simp only [Act.put, List.getElem_toArray, List.getElem_cons_succ, List.getElem_cons_zero, List.setIfInBounds_toArray, List.set_cons_zero, List.set_cons_succ]
                refine wpAnyH_ready (rs := [7]) (by kernel_rfl) (by simp) ?_
                refine AllReadyH.cons rfl (fun K hK => ?_) (AllReadyH.nil)
                go_simp
                refine hK.out _ _ trivial (fun _ => ?_)
                clear hK K
                try simp only [Act.put, List.getElem_toArray, List.getElem_cons_succ, List.getElem_cons_zero, List.setIfInBounds_toArray, List.set_cons_zero, List.set_cons_succ]
                refine wpAnyH_done (by kernel_rfl) ?_ _
                have z6' : (w5.setCell ⟨b6, 5, none⟩ (.int .i64 (C.size + q))).heap[b6]? = some (.cells #[.int .i64 C.root, .string C.mod, .bool C.init, .int .i64 C.mode, .int .i64 C.stamp, .int .i64 (C.size + q), .int .i64 C.hash, .slice ca C.body.length cc] 29 (0, 0)) := heap_setCell_same _ b6 5 _ _ _ z65
                refine hK1 _ _ ?_
                refine Met.intro ?_
                refine hJ0 _ _ ?_
                (repeat apply Exists.intro)
                refine ⟨?rel, rfl⟩
                case rel => exact ⟨⟨C.root, C.mod, C.init, C.mode, C.stamp, (C.size + q), C.hash, C.body⟩, ⟨f.root, f.pkg, f.name, f.init, f.stamp, f.body⟩, ca, fa, cc, fc, hsc, hfu, z6', set_other (b' := b6) (o := 5) (v := .int .i64 (C.size + q)) z55 (by omega), set_other (b' := b6) (o := 5) (v := .int .i64 (C.size + q)) z25 (by omega), set_other (b' := b6) (o := 5) (v := .int .i64 (C.size + q)) z35 (by omega), Own.keep hoc5 (fun q hq => Below.heap_setCell _ _ _ q (by show q ≠ b6; exact (NC.out q hq).2)), Own.keep hof5 (fun q hq => Below.heap_setCell _ _ _ q (by show q ≠ b6; exact (NF.out q hq).2)), (hg0.grown gg5 (by simp <;> omega) (fun b hb => by injection hb with hb; omega)).setCell (p := ⟨b6, 5, none⟩) (by show w.heap.size ≤ b6; omega) (.int .i64 (C.size + q))⟩
          · have e3 : (k == 3) = false := by simp [h3]
            clear h0 h1 h2 h3
            go_wp2
            go_meet
            case rel => exact ⟨⟨C.root, C.mod, C.init, C.mode, C.stamp, C.size, C.hash, C.body⟩, ⟨f.root, f.pkg, f.name, f.init, f.stamp, f.body⟩, ca, fa, cc, fc, hsc, hfu, z63, z53, z23, z33, hoc3, hof3, hg0.grown gg3 (by simp <;> omega) (fun b hb => by injection hb with hb; omega)⟩
  case rest =>
    obtain ⟨C, f, ca, fa, cc, fc, hsc, hsf, z6, z5, z2, z3, oc, of, gg⟩ := hcut
    clear z53 z63 z23 z33 hof3 hoc3 gg3 hr3 hfu nc nf hsz1 hsz2
    have hkeep : ∀ W : World, W.heap[b6]? = some (.cells #[.int .i64 C.root, .string C.mod, .bool C.init, .int .i64 C.mode, .int .i64 C.stamp, .int .i64 C.size, .int .i64 C.hash, .slice ca C.body.length cc] 29) → W.heap[b5]? = some (.cells #[.int .i64 f.root, .string f.pkg, .string f.name, .bool f.init, .int .i64 f.stamp, .slice fa f.body.length fc] 31) → (W.cell? ⟨b6, 0, none⟩ = some (.int .i64 C.root) ∧ W.cell? ⟨b6, 1, none⟩ = some (.string C.mod) ∧ W.cell? ⟨b6, 2, none⟩ = some (.bool C.init) ∧ W.cell? ⟨b6, 3, none⟩ = some (.int .i64 C.mode) ∧ W.cell? ⟨b6, 4, none⟩ = some (.int .i64 C.stamp) ∧ W.cell? ⟨b6, 5, none⟩ = some (.int .i64 C.size) ∧ W.cell? ⟨b6, 6, none⟩ = some (.int .i64 C.hash) ∧ W.cell? ⟨b6, 7, none⟩ = some (.slice ca C.body.length cc)) ∧ (W.cell? ⟨b5, 0, none⟩ = some (.int .i64 f.root) ∧ W.cell? ⟨b5, 1, none⟩ = some (.string f.pkg) ∧ W.cell? ⟨b5, 2, none⟩ = some (.string f.name) ∧ W.cell? ⟨b5, 3, none⟩ = some (.bool f.init) ∧ W.cell? ⟨b5, 4, none⟩ = some (.int .i64 f.stamp) ∧ W.cell? ⟨b5, 5, none⟩ = some (.slice fa f.body.length fc)) := fun W h1 h2 => ⟨(rows8 h1).1, (rows6 h2).1⟩
    have HK := Lib.hid hkeep
    obtain ⟨⟨x0, x1, x2, x3, x4, x5, x6, x7⟩, y0, y1, y2, y3, y4, y5, y6, y7⟩ := rows8 z2
    obtain ⟨⟨v0, v1, v2, v3, v4, v5⟩, u0_, u1_, u2_, u3_, u4_, u5_⟩ := rows6 z3
    have Z6 := Lib.hid (drewH z6)
    have Z5 := Lib.hid (drewH z5)
    have z6p := z6
    have z5p := z5
    have z2d := z2
    have z3d := z3
    have OC := Lib.hid oc
    have OF := Lib.hid of
    have GG := Lib.hid gg
    clear hkeep z6 z5 z2 z3 oc of gg
    have hp8 := put8 z2d (.int .i64 C.root) (.string C.mod) (.bool C.init) (.int .i64 C.mode) (.int .i64 C.stamp) (.int .i64 C.size) (.int .i64 C.hash) (.slice ca C.body.length cc)
    have z3b := (hp8.2.block (w.heap.size + 1) (lt_of_block z3d) (by intro q; injection q with q; omega)).trans z3d
    have hp6 := put6 z3b (.int .i64 f.root) (.string f.pkg) (.string f.name) (.bool f.init) (.int .i64 f.stamp) (.slice fa f.body.length fc)
    have z2b := (hp6.2.block w.heap.size (lt_of_block hp8.1) (by intro q; injection q with q; omega)).trans hp8.1
    have z6b := (hp8.2.block b6 (lt_of_block z6p) (by intro q; injection q with q; omega)).trans z6p
    have z5b := (hp8.2.block b5 (lt_of_block z5p) (by intro q; injection q with q; omega)).trans z5p
    have z6c := (hp6.2.block b6 (lt_of_block z6b) (by intro q; injection q with q; omega)).trans z6b
    have z5c := (hp6.2.block b5 (lt_of_block z5b) (by intro q; injection q with q; omega)).trans z5b
    have HP8 := Lib.hid hp8
    have HP6 := Lib.hid hp6
    have Z2B := Lib.hid (drewH z2b)
    have Z3B := Lib.hid (drewH hp6.1)
    have Z6B := Lib.hid (drewH z6b)
    have Z5B := Lib.hid (drewH z5b)
    have Z6C := Lib.hid (drewH z6c)
    have Z5C := Lib.hid (drewH z5c)
    clear hp8 hp6 z2b z6b z5b z6c z5c z3b z2d z3d z6p z5p
    go_wp2
    refine wp_region_held_drew (S := (fun W => (W.cell? ⟨b6, 0, none⟩ = some (.int .i64 C.root) ∧ W.cell? ⟨b6, 1, none⟩ = some (.string C.mod) ∧ W.cell? ⟨b6, 2, none⟩ = some (.bool C.init) ∧ W.cell? ⟨b6, 3, none⟩ = some (.int .i64 C.mode) ∧ W.cell? ⟨b6, 4, none⟩ = some (.int .i64 C.stamp) ∧ W.cell? ⟨b6, 5, none⟩ = some (.int .i64 C.size) ∧ W.cell? ⟨b6, 6, none⟩ = some (.int .i64 C.hash) ∧ W.cell? ⟨b6, 7, none⟩ = some (.slice ca C.body.length cc)) ∧ (W.cell? ⟨b5, 0, none⟩ = some (.int .i64 f.root) ∧ W.cell? ⟨b5, 1, none⟩ = some (.string f.pkg) ∧ W.cell? ⟨b5, 2, none⟩ = some (.string f.name) ∧ W.cell? ⟨b5, 3, none⟩ = some (.bool f.init) ∧ W.cell? ⟨b5, 4, none⟩ = some (.int .i64 f.stamp) ∧ W.cell? ⟨b5, 5, none⟩ = some (.slice fa f.body.length fc)))) (by kernel_rfl) (HK.out _ Z6.out Z5.out) (fun hS0 => ?_)
    refine wpAnyH_take (i := 0) (v := ?_) rfl (by kernel_rfl) (by kernel_rfl) (by kernel_rfl) (fun _ _ _ h => h) (Or.inl ⟨by rfl, ?_⟩) hS0 ?_
    rotate_left
    · (intro W hSw; (try dsimp only at hSw); go_simp; try (with_reducible rfl))
    try simp only [Act.put, List.getElem_toArray, List.getElem_cons_succ, List.getElem_cons_zero, List.setIfInBounds_toArray, List.set_cons_zero, List.set_cons_succ]
    refine wpAnyH_take (i := 1) (v := ?_) rfl (by kernel_rfl) (by kernel_rfl) (by kernel_rfl) (fun _ _ _ h => h) (Or.inl ⟨by rfl, ?_⟩) hS0 ?_
    rotate_left
    · (intro W hSw; (try dsimp only at hSw); go_simp; try (with_reducible rfl))
    try simp only [Act.put, List.getElem_toArray, List.getElem_cons_succ, List.getElem_cons_zero, List.setIfInBounds_toArray, List.set_cons_zero, List.set_cons_succ]
    refine wpAnyH_ready (rs := [2]) (by kernel_rfl) (by simp) ?_
    refine AllReadyH.cons rfl (fun K hK => ?_) (AllReadyH.nil)
    go_simp
    refine hK.out _ _ ?_ (fun hS1 => ?_)
    · exact HK.out _ Z6B.out Z5B.out
    clear hK K
    try simp only [Act.put, List.getElem_toArray, List.getElem_cons_succ, List.getElem_cons_zero, List.setIfInBounds_toArray, List.set_cons_zero, List.set_cons_succ]
    refine wpAnyH_ready (rs := [3]) (by kernel_rfl) (by simp) ?_
    refine AllReadyH.cons rfl (fun K hK => ?_) (AllReadyH.nil)
    go_simp
    refine hK.out _ _ ?_ (fun hS2 => ?_)
    · exact HK.out _ Z6C.out Z5C.out
    clear hK K
    try simp only [Act.put, List.getElem_toArray, List.getElem_cons_succ, List.getElem_cons_zero, List.setIfInBounds_toArray, List.set_cons_zero, List.set_cons_succ]
    refine wpAnyH_done (by kernel_rfl) ?_ _
    go_wp2
    refine bodyPost_ret (results_row_row rfl _ _ w.heap.size 29 _ (0, 0) _ (w.heap.size + 1) 31 _ (0, 0) _ rfl rfl Z2B.out Z3B.out Tryd.underlying29 rfl (by kernel_rfl) Tryd.underlying31 rfl (by kernel_rfl)) rfl ?_
    refine ⟨⟨C.root, C.mod, C.init, C.mode, C.stamp, C.size, C.hash, C.body⟩, ⟨f.root, f.pkg, f.name, f.init, f.stamp, f.body⟩, _, _, rfl, SlR.keepO (fun _ _ => rfl) OC.out (fun q hq => ?_), SlR.keepO (fun _ _ => rfl) OF.out (fun q hq => ?_), hsc, hsf, ?_⟩
    · have := (OC.out.block q hq); exact drewH ((HP6.out.2.block q (Nat.lt_of_lt_of_le this.2 HP8.out.2.size) (by intro y; injection y with y; omega)).trans (HP8.out.2.block q this.2 (by intro y; injection y with y; omega)))
    · have := (OF.out.block q hq); exact drewH ((HP6.out.2.block q (Nat.lt_of_lt_of_le this.2 HP8.out.2.size) (by intro y; injection y with y; omega)).trans (HP8.out.2.block q this.2 (by intro y; injection y with y; omega)))
    · exact Below.drew (((GG.out).grown HP8.out.2 GG.out.size (fun b hb => by injection hb with hb; omega)).grown HP6.out.2 (Nat.le_trans GG.out.size HP8.out.2.size) (fun b hb => by injection hb with hb; omega))
end Go.Proofs.YtbknhodjcgnfnaaDoor
