/-
  Walks: names of modules, and commands, drawn. Printed by drawn.py.
-/
import Derived.Test.YthjegibkbpafeaaDoorDrawGZ
import Derived.Test.YthjegibkbpafeaaDoorZ3
import Derived.Test.YthjegibkbpafeaaDoorReaderZ
namespace Imp
open Go Go.RowKit
theorem nameP_sizeN {f : Fil} (hp : f.pkg.size ≤ 7) (hn : f.name.size ≤ 1) : (mk (nameP f)).size ≤ 9 := by
  rw [mk_size]
  unfold nameP childP
  split
  · rw [bs_length]; omega
  · split
    · rw [bs_length]; omega
    · rw [List.length_append, List.length_cons, bs_length, bs_length]; omega
theorem results_row_tmp2 {P : Program} {fn : Func} {p u v : Tmp} {ty : TypeId} (h : fn.results = #[.cell p ty, .tmp u, .tmp v]) (tmps : Array Value) (w : World) (g : Nat) (t : TypeId) (cs : Array Value) (fr : Nat × Nat) (d : TypeDesc) (x y : Value)
    (hp : tmps.getD p undef = .pointer (some ⟨g, 0, none⟩)) (hx : tmps.getD u undef = x) (hy : tmps.getD v undef = y) (hg : w.heap[g]? = some (.cells cs t fr))
    (hu : P.underlying ty = some d) (hd : (match d with | .struct _ | .array _ _ => true | _ => false) = true) (hi : (P.info? ty).map (·.size) = some cs.size) :
    (results fn tmps).run P w = .ok (.tuple #[.agg cs, x, y]) w := by
  have hp' : tmps[p]?.getD undef = .pointer (some ⟨g, 0, none⟩) := by simpa using hp
  have hx' : tmps[u]?.getD undef = x := by simpa using hx
  have hy' : tmps[v]?.getD undef = y := by simpa using hy
  simp [results, h, hp', hx', hy', asAddr, run_loadVar_row w g t ty cs fr d hg hu hd hi]
theorem own_setBN {α : Type} {w : World} {base e k b o : Nat} {enc : α → List Value} {v u : Value} {L : List α} (h : Own w base e k enc v L) (hb : b < base) : Own (w.setCell ⟨b, o, none⟩ u) base e k enc v L :=
  h.keep (fun q hq => Below.heap_setCell _ _ _ q (by show q ≠ b; have := (h.block q hq).1; omega))
theorem row2N {w : World} {g T : Nat} {a0 a1 : Value} (h : w.heap[g]? = some (.cells #[a0, a1] T (0, 0))) : (w.cell? ⟨g, 0, none⟩ = some a0 ∧ w.cell? ⟨g, 1, none⟩ = some a1) ∧ w.frozen? ⟨g, 0, none⟩ = false ∧ w.frozen? ⟨g, 1, none⟩ = false :=
  ⟨⟨by rw [cell_of_row w g 0 _ _ _ h]; rfl, by rw [cell_of_row w g 1 _ _ _ h]; rfl⟩, frozen_of_row w g 0 _ _ h, frozen_of_row w g 1 _ _ h⟩
end Imp
namespace Go.Proofs.YthjegibkbpafeaaDoor
open Go Go.RowKit Imp
set_option linter.unusedVariables false
set_option linter.unusedSimpArgs false
def DNameOf (w : World) (g p c : Nat) (e : Ending) (w' : World) : Prop :=
  ∃ tv, ∃ M : List FR, ∃ pa pn pc, ∃ s : ByteArray, ∃ p', e = .returned (.tuple #[.agg #[tv], .slice pa pn pc, .string s]) ∧ FlR w' (w.heap.size + 1) w'.heap.size tv M ∧ M.length ≤ 11 ∧ (∀ r ∈ M, SmFt r.1) ∧ s.size ≤ 9 ∧ Rdr w' g p' ∧ p' ≤ p + c ∧ w.grownBy w' (some g)
set_option maxHeartbeats 6400000 in
theorem nameOf_any (g p : Nat) (w : World) (h : Rdr w g p) (hp : p < 230000000) :
    Calls Tryd.prog 33 #[.pointer (some ⟨g, 0, none⟩)] w (DNameOf w g p 1340) := by
  have hlt := h.lt
  have hsT := anyTree_any g p (w.alloc (.cells #[.slice none 0 0] 29)) (h.al _) (by omega)
  have hz0 := heap_alloc_new w (.cells #[.slice none 0 0] 29)
  have gg0 := grown_al w (.cells #[.slice none 0 0] 29) (some g)
  have HST := Lib.hid hsT
  clear hsT
  go_enter Tryd.func33, Tryd.ntmps33
  go_wp2_with fail
  refine HST.out.mono ?_
  rintro e w1 ⟨v, M, p1, rfl, hfl, hll, hsm, hr1, hp1, hg1⟩
  simp only [World.size_alloc] at hfl
  have hz0 := keep_blk hz0 hg1 (by omega)
  have gg1 := grown_tr gg0 hg1
  obtain ⟨va, vc, rfl, hnc, hvc⟩ := hfl.1.form
  obtain ⟨n, hn⟩ : ∃ n, n = M.length := ⟨_, rfl⟩
  rw [← hn] at hfl hnc ⊢
  have hz1 := heap_alloc_new w1 (.cells #[.slice va n vc] 29)
  have hgv := gr_al w1 (.cells #[.slice va n vc] 29)
  have hlo := lt_of_block hz0
  have hz0 := (hgv.block _ hlo).trans hz0
  have hr1 := hr1.al (.cells #[.slice va n vc] 29)
  have gg1 := grown_tr gg1 (grown_al w1 (.cells #[.slice va n vc] 29) (some g))
  have hfl := hfl.keepS (Same.of_below hgv (Nat.le_refl _))
  have HSM := Lib.hid hsm
  have HFL := Lib.hid hfl
  have HZ0 := Lib.hid hz0
  have HZ1 := Lib.hid hz1
  have HN := Lib.hid hn
  have hn11 : n ≤ 11 := by omega
  clear hsm hfl hz0 hz1 hn gg0 hg1 HST hll
  go_wp2_with fail
  refine (anyPath_any g p1 _ hr1 (by omega)).mono ?_
  rintro e w2 ⟨pv, PL, p2, rfl, hpr, hpl, hr2, hp2, hg2⟩
  obtain ⟨pa, pc, rfl, _, _⟩ := hpr.form
  have hz2 := keep_blk HZ0.out hg2 (by omega)
  have hz3 := keep_blk HZ1.out hg2 (by omega)
  have gg2 := grown_tr gg1 hg2
  have hs2 : w1.heap.size + 1 ≤ w2.heap.size := by have := hg2.size; simpa using this
  have hfl2 := HFL.out.keepS (Same.of_grown hg2 (by simp) (fun k hk => by injection hk with hk; left; omega))
  have HFL2 := Lib.hid hfl2
  have HZ2 := Lib.hid hz2
  have HZ3 := Lib.hid hz3
  obtain ⟨x5, _⟩ := row1 hz3
  clear hz2 hz3 hfl2 HFL HZ0 HZ1 hr1 hg2 hpr

  by_cases hM : 0 < n
  · have hMd : (0 : Int) < (n : Int) := by omega
    go_wp2_with fail
    refine (pick_any g _ 4 w2 hr2 (by omega) (by omega)).mono ?_
    rintro e w3 ⟨k, rfl, hk0, hk1, hr3, hg3⟩
    have z03 := keep_blk HZ2.out hg3 (by omega)
    have z13 := keep_blk HZ3.out hg3 (by omega)
    have gg3 := grown_tr gg2 hg3
    have hfl3 := HFL2.out.keepS (Same.of_grown hg3 (by omega) (fun k hk => by injection hk with hk; left; omega))
    have hs3 : w2.heap.size ≤ w3.heap.size := hg3.size
    clear x5
    obtain ⟨x5, _⟩ := row1 z13
    have HFL3 := Lib.hid hfl3
    have HZ03 := Lib.hid z03
    have HZ13 := Lib.hid z13
    clear hfl3 z03 z13 hg3
    by_cases hk : 0 < k
    · have HPK := Lib.hid (pick_any g _ (n : Int) (w3.drewN 1) hr3 (by omega) (by omega))
      go_wp2
      refine wp_region_held_drew (S := (fun W => W.cell? ⟨w1.heap.size, 0, none⟩ = some (.slice va n vc))) (by kernel_rfl) x5 (fun hS0 => ?_)
      refine wpAnyH_take (i := 0) (v := ?_) rfl (by kernel_rfl) (by kernel_rfl) (by kernel_rfl) (fun _ _ _ h => h) (Or.inl ⟨by rfl, ?_⟩) hS0 ?_
      rotate_left
      · (intro W hSw; (try dsimp only at hSw); go_simp; try (with_reducible rfl))
      try simp only [Act.put, List.getElem_toArray, List.getElem_cons_succ, List.getElem_cons_zero, List.setIfInBounds_toArray, List.set_cons_zero, List.set_cons_succ]
      refine wpAnyH_take (i := 1) (v := ?_) rfl (by kernel_rfl) (by kernel_rfl) (by kernel_rfl) (fun _ _ _ h => h) (Or.inl ⟨by rfl, ?_⟩) hS0 ?_
      rotate_left
      · (intro W hSw; (try dsimp only at hSw); go_simp; try (with_reducible rfl))
      try simp only [Act.put, List.getElem_toArray, List.getElem_cons_succ, List.getElem_cons_zero, List.setIfInBounds_toArray, List.set_cons_zero, List.set_cons_succ]
      refine wpAnyH_take (i := 2) (v := ?_) rfl (by kernel_rfl) (by kernel_rfl) (by kernel_rfl) (fun _ _ _ h => h) (Or.inl ⟨by rfl, ?_⟩) hS0 ?_
      rotate_left
      · (intro W hSw; (try dsimp only at hSw); go_simp; try (with_reducible rfl))
      try simp only [Act.put, List.getElem_toArray, List.getElem_cons_succ, List.getElem_cons_zero, List.setIfInBounds_toArray, List.set_cons_zero, List.set_cons_succ]
      refine wpAnyH_take (i := 3) (v := ?_) rfl (by kernel_rfl) (by kernel_rfl) (by kernel_rfl) (fun _ _ _ h => h) (Or.inl ⟨by rfl, ?_⟩) hS0 ?_
      rotate_left
      · (intro W hSw; (try dsimp only at hSw); go_simp; try (with_reducible rfl))
      try simp only [Act.put, List.getElem_toArray, List.getElem_cons_succ, List.getElem_cons_zero, List.setIfInBounds_toArray, List.set_cons_zero, List.set_cons_succ]
      refine wpAnyH_take (i := 4) (v := ?_) rfl (by kernel_rfl) (by kernel_rfl) (by kernel_rfl) (fun _ _ _ h => h) (Or.inl ⟨by rfl, ?_⟩) hS0 ?_
      rotate_left
      · (intro W hSw; (try dsimp only at hSw); go_simp; try (with_reducible rfl))
      try simp only [Act.put, List.getElem_toArray, List.getElem_cons_succ, List.getElem_cons_zero, List.setIfInBounds_toArray, List.set_cons_zero, List.set_cons_succ]
      refine wpAnyH_take (i := 5) (v := ?_) rfl (by kernel_rfl) (by kernel_rfl) (by kernel_rfl) (fun _ _ _ h => h) (Or.inl ⟨by rfl, ?_⟩) hS0 ?_
      rotate_left
      · (intro W hSw; (try dsimp only at hSw); go_simp; try (with_reducible rfl))
      try simp only [Act.put, List.getElem_toArray, List.getElem_cons_succ, List.getElem_cons_zero, List.setIfInBounds_toArray, List.set_cons_zero, List.set_cons_succ]
      refine wpAnyH_take (i := 6) (v := ?_) rfl (by kernel_rfl) (by kernel_rfl) (by kernel_rfl) (fun _ _ _ h => h) (Or.inl ⟨by rfl, ?_⟩) hS0 ?_
      rotate_left
      · (intro W hSw; (try dsimp only at hSw); go_simp; try (with_reducible rfl))
      try simp only [Act.put, List.getElem_toArray, List.getElem_cons_succ, List.getElem_cons_zero, List.setIfInBounds_toArray, List.set_cons_zero, List.set_cons_succ]
      refine wpAnyH_take (i := 7) (v := ?_) rfl (by kernel_rfl) (by kernel_rfl) (by kernel_rfl) (fun _ _ _ h => h) (Or.inl ⟨by rfl, ?_⟩) hS0 ?_
      rotate_left
      · (intro W hSw; (try dsimp only at hSw); go_simp; try (with_reducible rfl))
      try simp only [Act.put, List.getElem_toArray, List.getElem_cons_succ, List.getElem_cons_zero, List.setIfInBounds_toArray, List.set_cons_zero, List.set_cons_succ]
      refine wpAnyH_ready (rs := [8]) (by kernel_rfl) (by simp) ?_
      refine AllReadyH.cons rfl (fun K hK => ?_) AllReadyH.nil
      go_simp
      refine (HPK.out).mono ?_
      rintro e w4 ⟨q, rfl, hq0, hq1, hr4, hg4⟩
      try go_wp2_with fail
      refine hK.out _ _ (row1 (keep_blk HZ13.out (⟨hg4.os, hg4.tape, hg4.output, hg4.size, hg4.block⟩) (by omega))).1 (fun hS1 => ?_)
      clear hK K
      try simp only [Act.put, List.getElem_toArray, List.getElem_cons_succ, List.getElem_cons_zero, List.setIfInBounds_toArray, List.set_cons_zero, List.set_cons_succ]
      have hg4' : w3.grownBy w4 (some g) := ⟨hg4.os, hg4.tape, hg4.output, hg4.size, hg4.block⟩
      have z04 := keep_blk HZ03.out hg4' (by omega)
      have z14 := keep_blk HZ13.out hg4' (by omega)
      have gg4 := grown_tr gg3 hg4'
      have fl4 := HFL3.out.keepS (Same.of_grown hg4' (by omega) (fun k hk => by injection hk with hk; left; omega))
      have hq1 := hq1 (by omega)
      obtain ⟨j, rfl⟩ : ∃ j : Nat, q = j := ⟨q.toNat, by omega⟩
      have hjn : j < n := by omega
      have hjM : j < M.length := by have := HN.out; omega
      obtain ⟨f4s, f4b⟩ := fl4
      have f4s' := f4s
      obtain ⟨va', vc', ee, _, _, hcl⟩ := f4s'
      injection ee with e1 e2 e3
      subst e1; subst e3
      clear e2
      obtain ⟨b, o, rfl, hbb, hc⟩ := hcl j hjM
      obtain ⟨x, hx⟩ : ∃ x, x = M[j] := ⟨_, rfl⟩
      obtain ⟨c0, c1, c2, c3, c4, c5⟩ := cells_fil (w := w4) (b := b) (o := o) (k := j) (x := x) (fun i u hu => hc i u (by rw [← hx]; exact hu))
      have hxs := HSM.out x (by rw [hx]; exact List.getElem_mem hjM)
      obtain ⟨f, fv⟩ := x
      have hxs : SmFt f := hxs
      have hfv := f4b _ (List.getElem_mem hjM)
      rw [← hx] at hfv
      obtain ⟨fa, fc, hfe, _, _⟩ := hfv.form
      simp only at hfe
      subst hfe
      have HMN := Lib.hid (fun W => smoduleName_any (f, .slice fa f.body.length fc) W (Nat.le_trans hxs.2.2.1 (by decide)) (Nat.le_trans hxs.2.2.2 (by decide)))
      have hnl : (mk (nameP f)).size ≤ 9 := nameP_sizeN hxs.2.2.1 hxs.2.2.2
      obtain ⟨nm, hnm⟩ : ∃ nm, nm = mk (nameP f) := ⟨_, rfl⟩
      rw [← hnm] at hnl
      have HNM := Lib.hid hnm
      have F4 := Lib.hid (show FlR w4 (w.heap.size + 1 + 1) w1.heap.size _ M from ⟨f4s, f4b⟩)
      clear hc hcl hx f4s f4b hfv hnm hq0 hq1
      refine wpAnyH_take (i := 9) (v := ?_) rfl (by kernel_rfl) (by kernel_rfl) (by kernel_rfl) (fun _ _ _ h => h) (Or.inl ⟨by rfl, ?_⟩) hS1 ?_
      rotate_left
      · (intro W hSw; (try dsimp only at hSw); go_simp; try (with_reducible rfl))
      try simp only [Act.put, List.getElem_toArray, List.getElem_cons_succ, List.getElem_cons_zero, List.setIfInBounds_toArray, List.set_cons_zero, List.set_cons_succ]
      refine wpAnyH_ready (rs := [10]) (by kernel_rfl) (by simp) ?_
      refine AllReadyH.cons rfl (fun K hK => ?_) (AllReadyH.nil)
      go_simp
      refine hK.out _ _ hS1 (fun _ => ?_)
      clear hK K
      try simp only [Act.put, List.getElem_toArray, List.getElem_cons_succ, List.getElem_cons_zero, List.setIfInBounds_toArray, List.set_cons_zero, List.set_cons_succ]
      refine wpAnyH_ready (rs := [11]) (by kernel_rfl) (by simp) ?_
      refine AllReadyH.cons rfl (fun K hK => ?_) (AllReadyH.nil)
      go_simp
      refine (HMN.out _).mono ?_
      rintro e w5 ⟨rfl, hb5⟩
      simp only [← HNM.out]
      refine hK.out _ _ (row1 ((hb5.block _ (lt_of_block z14)).trans z14)).1 (fun hS2 => ?_)
      clear hK K
      try simp only [Act.put, List.getElem_toArray, List.getElem_cons_succ, List.getElem_cons_zero, List.setIfInBounds_toArray, List.set_cons_zero, List.set_cons_succ]
      have z05 := (hb5.block _ (lt_of_block z04)).trans z04
      have z15 := (hb5.block _ (lt_of_block z14)).trans z14
      have gg5 : w.grownBy w5 (some g) := grown_tr gg4 ⟨hb5.os, hb5.tape, hb5.output, hb5.size, fun i hi _ => hb5.block i hi⟩
      have hs4 := hg4'.size
      have fl5 := F4.out.keepS (Same.of_below hb5 (by omega))
      have hsz5 : w1.heap.size ≤ w5.heap.size := by have := hb5.size; omega

      obtain ⟨y0, yf0⟩ := row1 (z05)
      refine wpAnyH_ready (rs := [12]) (by kernel_rfl) (by simp) ?_
      refine AllReadyH.cons rfl (fun K hK => ?_) (AllReadyH.nil)
      go_simp
      refine hK.out _ _ (by rw [World.cell?_setCell_far _ _ _ _ (by show w.heap.size ≠ w1.heap.size; omega)]; exact (row1 (z15)).1) (fun hS9 => ?_)
      clear hK K
      try simp only [Act.put, List.getElem_toArray, List.getElem_cons_succ, List.getElem_cons_zero, List.setIfInBounds_toArray, List.set_cons_zero, List.set_cons_succ]
      refine wpAnyH_take (i := 13) (v := ?_) rfl (by kernel_rfl) (by kernel_rfl) (by kernel_rfl) (fun _ _ _ h => h) (Or.inl ⟨by rfl, ?_⟩) hS9 ?_
      rotate_left
      · (intro W hSw; (try dsimp only at hSw); go_simp; try (with_reducible rfl))
      try simp only [Act.put, List.getElem_toArray, List.getElem_cons_succ, List.getElem_cons_zero, List.setIfInBounds_toArray, List.set_cons_zero, List.set_cons_succ]
      refine wpAnyH_take (i := 14) (v := ?_) rfl (by kernel_rfl) (by kernel_rfl) (by kernel_rfl) (fun _ _ _ h => h) (Or.inl ⟨by rfl, ?_⟩) hS9 ?_
      rotate_left
      · (intro W hSw; (try dsimp only at hSw); go_simp; try (with_reducible rfl))
      try simp only [Act.put, List.getElem_toArray, List.getElem_cons_succ, List.getElem_cons_zero, List.setIfInBounds_toArray, List.set_cons_zero, List.set_cons_succ]
      refine wpAnyH_done (by kernel_rfl) ?_ _
      go_wp2
      refine bodyPost_ret (results_row_tmp2 rfl _ _ w.heap.size 29 _ (0, 0) _ _ _ rfl rfl rfl (heap_set1 (z05)) Tryd.underlying29 rfl (by kernel_rfl)) rfl ?_
      exact ⟨_, M, _, _, _, nm, _, rfl, ((Imp.FlR.setB (b := w.heap.size) (o := 0) (fl5.mono' (Nat.le_refl _) hsz5) (by omega)).mono' (by omega) (by have := (gg5).size; simp [World.setCell] <;> omega)), by have := HN.out; omega, HSM.out, hnl, ((hr4.gr hb5)).grown (grown_set _ _ _ _) (fun b hb => by injection hb with hb; omega), by omega, grown_fresh (gg5) (grown_set _ _ _ _) (Nat.le_refl _)⟩
    · have hkd : decide ((0 : Int) < k) = false := decide_eq_false hk
      have HAN := Lib.hid (anyName_any g _ (w3.drewN 1) hr3 (by omega))
      go_wp2
      refine wp_region_held_drew (S := (fun W => W.cell? ⟨w1.heap.size, 0, none⟩ = some (.slice va n vc))) (by kernel_rfl) (row1 (HZ13.out)).1 (fun hS0 => ?_)
      refine wpAnyH_take (i := 0) (v := ?_) rfl (by kernel_rfl) (by kernel_rfl) (by kernel_rfl) (fun _ _ _ h => h) (Or.inl ⟨by rfl, ?_⟩) hS0 ?_
      rotate_left
      · (intro W hSw; (try dsimp only at hSw); go_simp; try (with_reducible rfl))
      try simp only [Act.put, List.getElem_toArray, List.getElem_cons_succ, List.getElem_cons_zero, List.setIfInBounds_toArray, List.set_cons_zero, List.set_cons_succ]
      refine wpAnyH_take (i := 1) (v := ?_) rfl (by kernel_rfl) (by kernel_rfl) (by kernel_rfl) (fun _ _ _ h => h) (Or.inl ⟨by rfl, ?_⟩) hS0 ?_
      rotate_left
      · (intro W hSw; (try dsimp only at hSw); go_simp; try (with_reducible rfl))
      try simp only [Act.put, List.getElem_toArray, List.getElem_cons_succ, List.getElem_cons_zero, List.setIfInBounds_toArray, List.set_cons_zero, List.set_cons_succ]
      refine wpAnyH_take (i := 2) (v := ?_) rfl (by kernel_rfl) (by kernel_rfl) (by kernel_rfl) (fun _ _ _ h => h) (Or.inl ⟨by rfl, ?_⟩) hS0 ?_
      rotate_left
      · (intro W hSw; (try dsimp only at hSw); go_simp; try (with_reducible rfl))
      try simp only [Act.put, List.getElem_toArray, List.getElem_cons_succ, List.getElem_cons_zero, List.setIfInBounds_toArray, List.set_cons_zero, List.set_cons_succ]
      refine wpAnyH_ready (rs := [3]) (by kernel_rfl) (by simp) ?_
      refine AllReadyH.cons rfl (fun K hK => ?_) AllReadyH.nil
      go_simp
      refine (HAN.out).mono ?_
      rintro e w8 ⟨s, p8, rfl, hss, hr8, hp8, hg8⟩
      try go_wp2_with fail
      refine hK.out _ _ (row1 (keep_blk (HZ13.out) (⟨hg8.os, hg8.tape, hg8.output, hg8.size, hg8.block⟩) (by omega))).1 (fun hS1 => ?_)
      clear hK K
      try simp only [Act.put, List.getElem_toArray, List.getElem_cons_succ, List.getElem_cons_zero, List.setIfInBounds_toArray, List.set_cons_zero, List.set_cons_succ]
      have hg8' : w3.grownBy w8 (some g) := ⟨hg8.os, hg8.tape, hg8.output, hg8.size, hg8.block⟩
      have z08 := keep_blk (HZ03.out) hg8' (by omega)
      have z18 := keep_blk (HZ13.out) hg8' (by omega)
      have gg8 := grown_tr gg3 hg8'
      have hs8 := hg8'.size
      have fl8 := (HFL3.out.mono' (Nat.le_refl _) (by omega)).keepS (Same.of_grown hg8' (Nat.le_refl _) (fun k hk => by injection hk with hk; left; omega))
      obtain ⟨y0, yf0⟩ := row1 (z08)
      refine wpAnyH_ready (rs := [4]) (by kernel_rfl) (by simp) ?_
      refine AllReadyH.cons rfl (fun K hK => ?_) (AllReadyH.nil)
      go_simp
      refine hK.out _ _ (by rw [World.cell?_setCell_far _ _ _ _ (by show w.heap.size ≠ w1.heap.size; omega)]; exact (row1 (z18)).1) (fun hS9 => ?_)
      clear hK K
      try simp only [Act.put, List.getElem_toArray, List.getElem_cons_succ, List.getElem_cons_zero, List.setIfInBounds_toArray, List.set_cons_zero, List.set_cons_succ]
      refine wpAnyH_take (i := 5) (v := ?_) rfl (by kernel_rfl) (by kernel_rfl) (by kernel_rfl) (fun _ _ _ h => h) (Or.inl ⟨by rfl, ?_⟩) hS9 ?_
      rotate_left
      · (intro W hSw; (try dsimp only at hSw); go_simp; try (with_reducible rfl))
      try simp only [Act.put, List.getElem_toArray, List.getElem_cons_succ, List.getElem_cons_zero, List.setIfInBounds_toArray, List.set_cons_zero, List.set_cons_succ]
      refine wpAnyH_take (i := 6) (v := ?_) rfl (by kernel_rfl) (by kernel_rfl) (by kernel_rfl) (fun _ _ _ h => h) (Or.inl ⟨by rfl, ?_⟩) hS9 ?_
      rotate_left
      · (intro W hSw; (try dsimp only at hSw); go_simp; try (with_reducible rfl))
      try simp only [Act.put, List.getElem_toArray, List.getElem_cons_succ, List.getElem_cons_zero, List.setIfInBounds_toArray, List.set_cons_zero, List.set_cons_succ]
      refine wpAnyH_done (by kernel_rfl) ?_ _
      go_wp2
      refine bodyPost_ret (results_row_tmp2 rfl _ _ w.heap.size 29 _ (0, 0) _ _ _ rfl rfl rfl (heap_set1 (z08)) Tryd.underlying29 rfl (by kernel_rfl)) rfl ?_
      exact ⟨_, M, _, _, _, s, _, rfl, ((Imp.FlR.setB (b := w.heap.size) (o := 0) (fl8) (by omega)).mono' (by omega) (by have := (gg8).size; simp [World.setCell] <;> omega)), by have := HN.out; omega, HSM.out, (by omega), (hr8).grown (grown_set _ _ _ _) (fun b hb => by injection hb with hb; omega), by omega, grown_fresh (gg8) (grown_set _ _ _ _) (Nat.le_refl _)⟩
  · have hMd : decide ((0 : Int) < (n : Int)) = false := decide_eq_false (by omega)
    have HAN := Lib.hid (anyName_any g _ (w2.drewN 1) hr2 (by omega))
    go_wp2
    refine wp_region_held_drew (S := (fun W => W.cell? ⟨w1.heap.size, 0, none⟩ = some (.slice va n vc))) (by kernel_rfl) (row1 (HZ3.out)).1 (fun hS0 => ?_)
    refine wpAnyH_take (i := 0) (v := ?_) rfl (by kernel_rfl) (by kernel_rfl) (by kernel_rfl) (fun _ _ _ h => h) (Or.inl ⟨by rfl, ?_⟩) hS0 ?_
    rotate_left
    · (intro W hSw; (try dsimp only at hSw); go_simp; try (with_reducible rfl))
    try simp only [Act.put, List.getElem_toArray, List.getElem_cons_succ, List.getElem_cons_zero, List.setIfInBounds_toArray, List.set_cons_zero, List.set_cons_succ]
    refine wpAnyH_take (i := 1) (v := ?_) rfl (by kernel_rfl) (by kernel_rfl) (by kernel_rfl) (fun _ _ _ h => h) (Or.inl ⟨by rfl, ?_⟩) hS0 ?_
    rotate_left
    · (intro W hSw; (try dsimp only at hSw); go_simp; try (with_reducible rfl))
    try simp only [Act.put, List.getElem_toArray, List.getElem_cons_succ, List.getElem_cons_zero, List.setIfInBounds_toArray, List.set_cons_zero, List.set_cons_succ]
    refine wpAnyH_take (i := 2) (v := ?_) rfl (by kernel_rfl) (by kernel_rfl) (by kernel_rfl) (fun _ _ _ h => h) (Or.inl ⟨by rfl, ?_⟩) hS0 ?_
    rotate_left
    · (intro W hSw; (try dsimp only at hSw); go_simp; try (with_reducible rfl))
    try simp only [Act.put, List.getElem_toArray, List.getElem_cons_succ, List.getElem_cons_zero, List.setIfInBounds_toArray, List.set_cons_zero, List.set_cons_succ]
    refine wpAnyH_ready (rs := [3]) (by kernel_rfl) (by simp) ?_
    refine AllReadyH.cons rfl (fun K hK => ?_) AllReadyH.nil
    go_simp
    refine (HAN.out).mono ?_
    rintro e w8 ⟨s, p8, rfl, hss, hr8, hp8, hg8⟩
    try go_wp2_with fail
    refine hK.out _ _ (row1 (keep_blk (HZ3.out) (⟨hg8.os, hg8.tape, hg8.output, hg8.size, hg8.block⟩) (by omega))).1 (fun hS1 => ?_)
    clear hK K
    try simp only [Act.put, List.getElem_toArray, List.getElem_cons_succ, List.getElem_cons_zero, List.setIfInBounds_toArray, List.set_cons_zero, List.set_cons_succ]
    have hg8' : w2.grownBy w8 (some g) := ⟨hg8.os, hg8.tape, hg8.output, hg8.size, hg8.block⟩
    have z08 := keep_blk (HZ2.out) hg8' (by omega)
    have z18 := keep_blk (HZ3.out) hg8' (by omega)
    have gg8 := grown_tr gg2 hg8'
    have hs8 := hg8'.size
    have fl8 := (HFL2.out.mono' (Nat.le_refl _) (by omega)).keepS (Same.of_grown hg8' (Nat.le_refl _) (fun k hk => by injection hk with hk; left; omega))
    obtain ⟨y0, yf0⟩ := row1 (z08)
    refine wpAnyH_ready (rs := [4]) (by kernel_rfl) (by simp) ?_
    refine AllReadyH.cons rfl (fun K hK => ?_) (AllReadyH.nil)
    go_simp
    refine hK.out _ _ (by rw [World.cell?_setCell_far _ _ _ _ (by show w.heap.size ≠ w1.heap.size; omega)]; exact (row1 (z18)).1) (fun hS9 => ?_)
    clear hK K
    try simp only [Act.put, List.getElem_toArray, List.getElem_cons_succ, List.getElem_cons_zero, List.setIfInBounds_toArray, List.set_cons_zero, List.set_cons_succ]
    refine wpAnyH_take (i := 5) (v := ?_) rfl (by kernel_rfl) (by kernel_rfl) (by kernel_rfl) (fun _ _ _ h => h) (Or.inl ⟨by rfl, ?_⟩) hS9 ?_
    rotate_left
    · (intro W hSw; (try dsimp only at hSw); go_simp; try (with_reducible rfl))
    try simp only [Act.put, List.getElem_toArray, List.getElem_cons_succ, List.getElem_cons_zero, List.setIfInBounds_toArray, List.set_cons_zero, List.set_cons_succ]
    refine wpAnyH_take (i := 6) (v := ?_) rfl (by kernel_rfl) (by kernel_rfl) (by kernel_rfl) (fun _ _ _ h => h) (Or.inl ⟨by rfl, ?_⟩) hS9 ?_
    rotate_left
    · (intro W hSw; (try dsimp only at hSw); go_simp; try (with_reducible rfl))
    try simp only [Act.put, List.getElem_toArray, List.getElem_cons_succ, List.getElem_cons_zero, List.setIfInBounds_toArray, List.set_cons_zero, List.set_cons_succ]
    refine wpAnyH_done (by kernel_rfl) ?_ _
    go_wp2
    refine bodyPost_ret (results_row_tmp2 rfl _ _ w.heap.size 29 _ (0, 0) _ _ _ rfl rfl rfl (heap_set1 (z08)) Tryd.underlying29 rfl (by kernel_rfl)) rfl ?_
    exact ⟨_, M, _, _, _, s, _, rfl, ((Imp.FlR.setB (b := w.heap.size) (o := 0) (fl8) (by omega)).mono' (by omega) (by have := (gg8).size; simp [World.setCell] <;> omega)), by have := HN.out; omega, HSM.out, (by omega), (hr8).grown (grown_set _ _ _ _) (fun b hb => by injection hb with hb; omega), by omega, grown_fresh (gg8) (grown_set _ _ _ _) (Nat.le_refl _)⟩
def zCmN : Value := .agg #[.int .i64 0, .string ByteArray.empty]
theorem ti_cmdN : TI Tryd.prog 23 47 2 24 := TI.mk' (z := zCmN) Tryd.underlying23 (by kernel_rfl) rfl (by decide)
theorem heap_a1 {w : World} (o : Obj) {b : Nat} (h : b < w.heap.size) : (w.alloc o).heap[b]? = w.heap[b]? := Below.heap_alloc w o b h
def DCmds (w : World) (g p c : Nat) (e : Ending) (w' : World) : Prop :=
  ∃ qa qn qc, ∃ pa pn pc, ∃ v, ∃ L : List Cmd, ∃ p', e = .returned (.tuple #[.agg #[.slice qa qn qc], .slice pa pn pc, v]) ∧ Own w' (w.heap.size + 1) 47 2 eCm v L ∧ L.length ≤ 6 ∧ (∀ s ∈ L, s.name.size ≤ 9) ∧ Rdr w' g p' ∧ p' ≤ p + c ∧ w.grownBy w' (some g)
set_option maxHeartbeats 6400000 in
theorem commandsOf_any (g p : Nat) (w : World) (h : Rdr w g p) (hp : p < 220000000) :
    Calls Tryd.prog 17 #[.pointer (some ⟨g, 0, none⟩)] w (DCmds w g p 1500) := by
  have hlt := h.lt
  have hsT := nameOf_any g p (w.alloc (.cells #[.slice none 0 0] 29)) (h.al _) (by omega)
  have hz0 := heap_alloc_new w (.cells #[.slice none 0 0] 29)
  have gg0 := grown_al w (.cells #[.slice none 0 0] 29) (some g)
  have HST := Lib.hid hsT
  clear hsT
  go_enter Tryd.func17, Tryd.ntmps17
  go_wp2_with fail
  refine HST.out.mono ?_
  rintro e w1 ⟨tv, T, pa, pn, pc, s0, p1, rfl, hfl, hll, hsm, hs0, hr1, hp1, hg1⟩
  simp only [World.size_alloc] at hfl
  have hz0 := keep_blk hz0 hg1 (by omega)
  have gg1 := grown_tr gg0 hg1
  obtain ⟨ta, tc, rfl, hnc, hvc⟩ := hfl.1.form
  obtain ⟨tn, hn⟩ : ∃ tn, tn = T.length := ⟨_, rfl⟩
  rw [← hn] at hfl hnc ⊢
  have hz1 := heap_alloc_new w1 (.cells #[.slice ta tn tc] 29)
  have hgv := gr_al w1 (.cells #[.slice ta tn tc] 29)
  have hlo := lt_of_block hz0
  have hz0 := (hgv.block _ hlo).trans hz0
  have gg1 := grown_tr gg1 (grown_al w1 (.cells #[.slice ta tn tc] 29) (some g))
  have hfl := hfl.keepS (Same.of_below hgv (Nat.le_refl _))
  have hr1 := hr1.al (.cells #[.slice ta tn tc] 29)
  have hE := Own.empty (w1.alloc (.cells #[.slice ta tn tc] 29)) (w1.heap.size + 1) 47 2 eCm (by simp)
  have hgE := gr_al (w1.alloc (.cells #[.slice ta tn tc] 29)) (.cells #[] 47)
  have hz0 := (hgE.block _ (lt_of_block hz0)).trans hz0
  have hz1 := (hgE.block _ (lt_of_block hz1)).trans hz1
  have hfl := hfl.keepS (Same.of_below hgE (by simp))
  have hr1 := hr1.al (.cells #[] 47)
  have gg1 := grown_tr gg1 (grown_al (w1.alloc (.cells #[.slice ta tn tc] 29)) (.cells #[] 47) (some g))
  simp only [World.size_alloc] at hE
  have hone := one_lit g p1 [2, 3, 1, 4, 0, 6] ((w1.alloc (.cells #[.slice ta tn tc] 29)).alloc (.cells #[] 47)) hr1 (by omega) (by decide) (by decide)
  rw [show ((w1.alloc (.cells #[.slice ta tn tc] 29)).alloc (.cells #[] 47)).heap.size = w1.heap.size + 1 + 1 by simp] at hone
  have HONE := Lib.hid hone
  have HSM := Lib.hid hsm
  have HN := Lib.hid hn
  have hn11 : tn ≤ 11 := by omega
  have hs1 : w.heap.size + 1 ≤ w1.heap.size := by omega
  clear hone hsm hn HST hgv hgE hg1 hll
  obtain ⟨w0, hw0⟩ : ∃ w0, w0 = (w1.alloc (.cells #[.slice ta tn tc] 29)).alloc (.cells #[] 47) := ⟨_, rfl⟩
  have hsw0 : w0.heap.size = w1.heap.size + 2 := by rw [hw0]; simp
  have HW0 := Lib.hid hw0
  rw [← hw0] at hz0 hz1 hfl hE gg1
  have HZ0 := Lib.hid hz0
  have HZ1 := Lib.hid hz1
  have HFL := Lib.hid hfl
  have HSW := Lib.hid hsw0
  clear hw0 hz0 hz1 hfl hr1 hsw0
  go_wp2_with fail
  refine HONE.out.mono ?_
  rintro e w2 ⟨m, rfl, hin, hr2, hg2⟩
  have hm : 0 ≤ m ∧ m ≤ 6 := by simp at hin; omega
  obtain ⟨m, rfl⟩ : ∃ m' : Nat, m = m' := ⟨m.toNat, by omega⟩
  rw [← HW0.out] at hg2
  have hown2 := Own.keepR hE hg2 (by omega)
  have gg2 := grown_tr gg1 hg2
  have hsm2 : Same (w.heap.size + 1) (w1.heap.size + 1) w0 w2 := Same.of_grown hg2 (by have := HSW.out; omega) (fun k hk => by injection hk with hk; left; omega)
  have hz2 := keep_blk HZ0.out hg2 (by omega)
  have HE := Lib.hid hE
  clear hE hg2 hin HONE gg1
  go_wp2
  go_loopw [8, 9] (fun out i wr => ∃ j : Nat, i = .int .i64 j ∧ ∃ L : List Cmd, ∃ p', Own wr (w1.heap.size + 1) 47 2 eCm out L ∧ L.length + j ≤ 6 ∧ (∀ s ∈ L, s.name.size ≤ 9) ∧ Rdr wr g p' ∧ p' + 10 * j ≤ p + 1440 ∧ w.grownBy wr (some g) ∧ Same (w.heap.size + 1) (w1.heap.size + 1) w0 wr ∧ wr.heap[w.heap.size]? = some (.cells #[.slice none 0 0] 29) ∧ w1.heap.size + 2 ≤ wr.heap.size) (fun _ i _ => (intOf i).toNat)
  case atStart => exact ⟨m, rfl, [], _, hown2, by simp; omega, by simp, hr2, by omega, gg2, hsm2, hz2, by have := hown2.block _ rfl; have := lt_of_block hz2; omega⟩
  case round =>
    obtain ⟨j, rfl, L, p', hown, hll, hls, hR, hp', gg, hsam, hzr, hsr⟩ := hrel
    obtain ⟨va, vc, rfl, _, _⟩ := hown.form
    have HLS := Lib.hid hls
    have HO := Lib.hid hown
    have hob := hown.block
    have HOB := Lib.hid hob
    have z1 : wr.heap[w1.heap.size]? = some (.cells #[.slice ta tn tc] 29) := (hsam _ (by omega) (by omega)).trans HZ1.out
    have hflr := HFL.out.keepS (fun b h1 h2 => hsam b (by omega) (by omega))
    have HFLR := Lib.hid hflr
    have HSA := Lib.hid hsam
    have HZR := Lib.hid hzr
    have HZ1R := Lib.hid z1
    clear hls hown hob hflr hsam hzr z1 hr2 gg2 hsm2 hz2 hown2
    by_cases hlt2 : 0 < j
    · have hjw : IntKind.i64.wrap ((j : Int) - 1) = (j : Int) - 1 := IntWalk.i64_in _ (by omega)
      go_wp2_with fail
      refine (one_lit g _ [0, 0, 1, 2, 0] wr hR (by omega) (by decide) (by decide)).mono ?_
      rintro e w3 ⟨q, rfl, _, hr3, hg3⟩
      go_wp2_with fail
      refine (aName_any g _ w3 hr3 (by omega)).mono ?_
      rintro e w4 ⟨s, p4, rfl, hs, hr4, hp4, hg4⟩
      have g34 := grown_tr hg3 hg4
      have gg4 := grown_tr gg g34
      have ho4 := Own.keepR HO.out g34 (by omega)
      have hz04 := keep_blk HZR.out g34 (by omega)
      have hz14 := keep_blk HZ1R.out g34 (by omega)
      have hs4 := g34.size
      have hsa4 := HSA.out.trans (Same.of_grown g34 (by omega) (fun k hk => by injection hk with hk; left; omega))
      have hgC := gr_al w4 (.cells #[.int .i64 q, .string s] 47)
      have hzC := heap_alloc_new w4 (.cells #[.int .i64 q, .string s] 47)
      have ho4 := ho4.alloc (.cells #[.int .i64 q, .string s] 47)
      have hz04 := (hgC.block _ (lt_of_block hz04)).trans hz04
      have hz14 := (hgC.block _ (lt_of_block hz14)).trans hz14
      have hsa4 := hsa4.trans (Same.of_below hgC (by omega))
      have gg4 := grown_tr gg4 (grown_al w4 (.cells #[.int .i64 q, .string s] 47) (some g))
      have hr4 := hr4.al (.cells #[.int .i64 q, .string s] 47)
      obtain ⟨x5, _⟩ := row1 hz14
      have HO4 := Lib.hid ho4
      have HZ04 := Lib.hid hz04
      have HZ14 := Lib.hid hz14
      have HZC := Lib.hid hzC
      have HSA4 := Lib.hid hsa4
      clear ho4 hz04 hz14 hzC hsa4 hg3 hg4 g34 hR hr3 hgC
      by_cases hM : 0 < tn
      · have hMd : (0 : Int) < (tn : Int) := by omega
        go_wp2_with fail
        refine (pick_any g _ 4 _ hr4 (by omega) (by omega)).mono ?_
        rintro e w5 ⟨k, rfl, hk0, hk1, hr5, hg5⟩
        have gg5 := grown_tr gg4 hg5
        have ho5 := Own.keepR HO4.out hg5 (by omega)
        have hz05 := keep_blk HZ04.out hg5 (by omega)
        have hz15 := keep_blk HZ14.out hg5 (by omega)
        have hzc5 := keep_blk HZC.out hg5 (by omega)
        have hs5 : w4.heap.size + 1 ≤ w5.heap.size := by have := hg5.size; simpa using this
        have hsa5 := HSA4.out.trans (Same.of_grown hg5 (by simp; omega) (fun k hk => by injection hk with hk; left; omega))
        clear x5
        obtain ⟨x5, _⟩ := row1 hz15
        have HO5 := Lib.hid ho5
        have HZ05 := Lib.hid hz05
        have HZ15 := Lib.hid hz15
        have HZC5 := Lib.hid hzc5
        have HSA5 := Lib.hid hsa5
        clear ho5 hz05 hz15 hzc5 hsa5 hg5 hr4
        by_cases hk : 0 < k
        · have HPK := Lib.hid (pick_any g _ (tn : Int) (w5.drewN 1) hr5 (by omega) (by omega))
          go_wp2
          refine wp_region_held_drew (S := (fun W => W.cell? ⟨w1.heap.size, 0, none⟩ = some (.slice ta tn tc))) (by kernel_rfl) x5 (fun hS0 => ?_)
          refine wpAnyH_take (i := 0) (v := ?_) rfl (by kernel_rfl) (by kernel_rfl) (by kernel_rfl) (fun _ _ _ h => h) (Or.inl ⟨by rfl, ?_⟩) hS0 ?_
          rotate_left
          · (intro W hSw; (try dsimp only at hSw); go_simp; try (with_reducible rfl))
          try simp only [Act.put, List.getElem_toArray, List.getElem_cons_succ, List.getElem_cons_zero, List.setIfInBounds_toArray, List.set_cons_zero, List.set_cons_succ]
          refine wpAnyH_take (i := 1) (v := ?_) rfl (by kernel_rfl) (by kernel_rfl) (by kernel_rfl) (fun _ _ _ h => h) (Or.inl ⟨by rfl, ?_⟩) hS0 ?_
          rotate_left
          · (intro W hSw; (try dsimp only at hSw); go_simp; try (with_reducible rfl))
          try simp only [Act.put, List.getElem_toArray, List.getElem_cons_succ, List.getElem_cons_zero, List.setIfInBounds_toArray, List.set_cons_zero, List.set_cons_succ]
          refine wpAnyH_take (i := 2) (v := ?_) rfl (by kernel_rfl) (by kernel_rfl) (by kernel_rfl) (fun _ _ _ h => h) (Or.inl ⟨by rfl, ?_⟩) hS0 ?_
          rotate_left
          · (intro W hSw; (try dsimp only at hSw); go_simp; try (with_reducible rfl))
          try simp only [Act.put, List.getElem_toArray, List.getElem_cons_succ, List.getElem_cons_zero, List.setIfInBounds_toArray, List.set_cons_zero, List.set_cons_succ]
          refine wpAnyH_take (i := 3) (v := ?_) rfl (by kernel_rfl) (by kernel_rfl) (by kernel_rfl) (fun _ _ _ h => h) (Or.inl ⟨by rfl, ?_⟩) hS0 ?_
          rotate_left
          · (intro W hSw; (try dsimp only at hSw); go_simp; try (with_reducible rfl))
          try simp only [Act.put, List.getElem_toArray, List.getElem_cons_succ, List.getElem_cons_zero, List.setIfInBounds_toArray, List.set_cons_zero, List.set_cons_succ]
          refine wpAnyH_take (i := 4) (v := ?_) rfl (by kernel_rfl) (by kernel_rfl) (by kernel_rfl) (fun _ _ _ h => h) (Or.inl ⟨by rfl, ?_⟩) hS0 ?_
          rotate_left
          · (intro W hSw; (try dsimp only at hSw); go_simp; try (with_reducible rfl))
          try simp only [Act.put, List.getElem_toArray, List.getElem_cons_succ, List.getElem_cons_zero, List.setIfInBounds_toArray, List.set_cons_zero, List.set_cons_succ]
          refine wpAnyH_take (i := 5) (v := ?_) rfl (by kernel_rfl) (by kernel_rfl) (by kernel_rfl) (fun _ _ _ h => h) (Or.inl ⟨by rfl, ?_⟩) hS0 ?_
          rotate_left
          · (intro W hSw; (try dsimp only at hSw); go_simp; try (with_reducible rfl))
          try simp only [Act.put, List.getElem_toArray, List.getElem_cons_succ, List.getElem_cons_zero, List.setIfInBounds_toArray, List.set_cons_zero, List.set_cons_succ]
          refine wpAnyH_ready (rs := [6]) (by kernel_rfl) (by simp) ?_
          refine AllReadyH.cons rfl (fun K hK => ?_) AllReadyH.nil
          go_simp
          refine (HPK.out).mono ?_
          rintro e w6 ⟨i, rfl, hi0, hi1, hr6, hg6⟩
          try go_wp2_with fail
          refine hK.out _ _ (row1 (keep_blk HZ15.out (⟨hg6.os, hg6.tape, hg6.output, hg6.size, hg6.block⟩) (by omega))).1 (fun hS1 => ?_)
          clear hK K
          try simp only [Act.put, List.getElem_toArray, List.getElem_cons_succ, List.getElem_cons_zero, List.setIfInBounds_toArray, List.set_cons_zero, List.set_cons_succ]
          have hg6' : w5.grownBy w6 (some g) := ⟨hg6.os, hg6.tape, hg6.output, hg6.size, hg6.block⟩
          have gg6 := grown_tr gg5 hg6'
          have ho6 := Own.keepR HO5.out hg6' (by omega)
          have hz06 := keep_blk HZ05.out hg6' (by omega)
          have hz16 := keep_blk HZ15.out hg6' (by omega)
          have hzc6 := keep_blk HZC5.out hg6' (by omega)
          have hs6 := hg6'.size
          have hsa6 := HSA5.out.trans (Same.of_grown hg6' (by omega) (fun k hk => by injection hk with hk; left; omega))
          have hfl6 := HFL.out.keepS (fun b h1 h2 => hsa6 b (by omega) (by omega))
          have hi1 := hi1 (by omega)
          obtain ⟨jj, rfl⟩ : ∃ jj : Nat, i = jj := ⟨i.toNat, by omega⟩
          have hjn : jj < tn := by omega
          have hjM : jj < T.length := by have := HN.out; omega
          obtain ⟨f4s, f4b⟩ := hfl6
          obtain ⟨va', vc', ee, _, _, hcl⟩ := f4s
          injection ee with e1 e2 e3
          subst e1; subst e3
          clear e2
          obtain ⟨b, o, rfl, hbb, hc⟩ := hcl jj hjM
          obtain ⟨x, hx⟩ : ∃ x, x = T[jj] := ⟨_, rfl⟩
          obtain ⟨c0, c1, c2, c3, c4, c5⟩ := cells_fil (w := w6) (b := b) (o := o) (k := jj) (x := x) (fun i u hu => hc i u (by rw [← hx]; exact hu))
          have hxs := HSM.out x (by rw [hx]; exact List.getElem_mem hjM)
          have hfv := f4b _ (List.getElem_mem hjM)
          rw [← hx] at hfv
          obtain ⟨f, fv⟩ := x
          have hxs : SmFt f := hxs
          obtain ⟨fa, fc, hfe, _, _⟩ := hfv.form
          simp only at hfe
          subst hfe
          have HMN := Lib.hid (fun W => smoduleName_any (f, .slice fa f.body.length fc) W (Nat.le_trans hxs.2.2.1 (by decide)) (Nat.le_trans hxs.2.2.2 (by decide)))
          have hnl : (mk (nameP f)).size ≤ 9 := nameP_sizeN hxs.2.2.1 hxs.2.2.2
          obtain ⟨nm, hnm⟩ : ∃ nm, nm = mk (nameP f) := ⟨_, rfl⟩
          rw [← hnm] at hnl
          have HNM := Lib.hid hnm
          have HO6 := Lib.hid ho6
          have HZ06 := Lib.hid hz06
          have HZ16 := Lib.hid hz16
          have HZC6 := Lib.hid hzc6
          have HSA6 := Lib.hid hsa6
          clear hc hcl hx hfv hnm hi0 hi1 f4b ho6 hz06 hz16 hzc6 hsa6
          refine wpAnyH_take (i := 7) (v := ?_) rfl (by kernel_rfl) (by kernel_rfl) (by kernel_rfl) (fun _ _ _ h => h) (Or.inl ⟨by rfl, ?_⟩) hS1 ?_
          rotate_left
          · (intro W hSw; (try dsimp only at hSw); go_simp; try (with_reducible rfl))
          try simp only [Act.put, List.getElem_toArray, List.getElem_cons_succ, List.getElem_cons_zero, List.setIfInBounds_toArray, List.set_cons_zero, List.set_cons_succ]
          refine wpAnyH_ready (rs := [8]) (by kernel_rfl) (by simp) ?_
          refine AllReadyH.cons rfl (fun K hK => ?_) (AllReadyH.nil)
          go_simp
          refine hK.out _ _ hS1 (fun _ => ?_)
          clear hK K
          try simp only [Act.put, List.getElem_toArray, List.getElem_cons_succ, List.getElem_cons_zero, List.setIfInBounds_toArray, List.set_cons_zero, List.set_cons_succ]
          refine wpAnyH_ready (rs := [9]) (by kernel_rfl) (by simp) ?_
          refine AllReadyH.cons rfl (fun K hK => ?_) (AllReadyH.nil)
          go_simp
          refine (HMN.out _).mono ?_
          rintro e w7 ⟨rfl, hb7⟩
          simp only [← HNM.out]
          refine hK.out _ _ (row1 ((hb7.block _ (lt_of_block HZ16.out)).trans HZ16.out)).1 (fun hS2 => ?_)
          clear hK K
          try simp only [Act.put, List.getElem_toArray, List.getElem_cons_succ, List.getElem_cons_zero, List.setIfInBounds_toArray, List.set_cons_zero, List.set_cons_succ]
          refine wpAnyH_take (i := 10) (v := ?_) rfl (by kernel_rfl) (by kernel_rfl) (by kernel_rfl) (fun _ _ _ h => h) (Or.inl ⟨by rfl, ?_⟩) hS2 ?_
          rotate_left
          · (intro W hSw; (try dsimp only at hSw); go_simp; try (with_reducible rfl))
          try simp only [Act.put, List.getElem_toArray, List.getElem_cons_succ, List.getElem_cons_zero, List.setIfInBounds_toArray, List.set_cons_zero, List.set_cons_succ]
          have hzc7 := (hb7.block _ (lt_of_block HZC6.out)).trans HZC6.out
          obtain ⟨⟨m0, m1⟩, mf0, mf1⟩ := row2N hzc7
          refine wpAnyH_ready (rs := [11]) (by kernel_rfl) (by simp) ?_
          refine AllReadyH.cons rfl (fun K hK => ?_) (AllReadyH.nil)
          go_simp
          refine hK.out _ _ (by rw [World.cell?_setCell_far _ _ _ _ (by show w4.heap.size ≠ w1.heap.size; omega)]; exact hS2) (fun hS3 => ?_)
          clear hK K
          try simp only [Act.put, List.getElem_toArray, List.getElem_cons_succ, List.getElem_cons_zero, List.setIfInBounds_toArray, List.set_cons_zero, List.set_cons_succ]
          refine wpAnyH_done (by kernel_rfl) ?_ _
          have hs7 := hb7.size
          have hzc8 : (w7.setCell ⟨w4.heap.size, 1, none⟩ (.string nm)).heap[w4.heap.size]? = some (.cells #[.int .i64 q, .string nm] 47) := heap_setCell_same _ w4.heap.size 1 _ _ _ hzc7
          have ho8 : Own (w7.setCell ⟨w4.heap.size, 1, none⟩ (.string nm)) (w1.heap.size + 1) 47 2 eCm (.slice va L.length vc) L := (Own.keep HO6.out (fun b hb => hb7.block b (HO6.out.block b hb).2)).keep (fun b hb => Below.heap_setCell _ _ _ b (by show b ≠ w4.heap.size; have := (HOB.out b hb).2; omega))
          have hz08 := set_other (b' := w4.heap.size) (o := 1) (v := .string nm) ((hb7.block _ (lt_of_block HZ06.out)).trans HZ06.out) (by omega)
          have gg8 : w.grownBy (w7.setCell ⟨w4.heap.size, 1, none⟩ (.string nm)) (some g) := grown_fresh (grown_tr gg6 (⟨hb7.os, hb7.tape, hb7.output, hb7.size, fun i hi _ => hb7.block i hi⟩ : w6.grownBy w7 (some g))) (grown_set _ _ _ _) (by omega)
          have hr8 : Rdr (w7.setCell ⟨w4.heap.size, 1, none⟩ (.string nm)) g _ := (hr6.gr hb7).grown (grown_set _ _ _ _) (fun b hb => by injection hb with hb; omega)
          have hsa8 : Same (w.heap.size + 1) (w1.heap.size + 1) w0 (w7.setCell ⟨w4.heap.size, 1, none⟩ (.string nm)) := (HSA6.out.trans (Same.of_below hb7 (by omega))).trans (fun b h1 h2 => Below.heap_setCell _ _ _ b (by show b ≠ w4.heap.size; omega))
          have hsw8 : (w7.setCell ⟨w4.heap.size, 1, none⟩ (.string nm)).heap.size = w7.heap.size := by simp [World.setCell]
          obtain ⟨w8, hw8⟩ : ∃ w8, w8 = w7.setCell ⟨w4.heap.size, 1, none⟩ (.string nm) := ⟨_, rfl⟩
          rw [← hw8] at hzc8 ho8 hz08 gg8 hr8 hsa8 hsw8 ⊢
          have H8 := Lib.hid hzc8
          have HO8 := Lib.hid ho8
          have HZ08 := Lib.hid hz08
          have HSA8 := Lib.hid hsa8
          have HSW8 := Lib.hid hsw8
          clear hw8 hzc8 ho8 hz08 hsa8 hsw8 hzc7 m0 m1 mf0 mf1 hS0 hS1 hS2 hS3 x5 c0 c1 c2 c3 c4 c5
          obtain ⟨⟨n0, n1⟩, _⟩ := row2N (H8.out)
          have hsz9 := (show w4.heap.size + 1 ≤ w8.heap.size by rw [HSW8.out]; omega)
          have hgs := gr_al w8 (.cells #[.int .i64 q, .string nm] 47)
          have hsrc := SlR.oneAt w8 (w1.heap.size + 1) (w8.heap.size) (⟨q, nm⟩ : Cmd) 47 (enc := eCm) (k := 2) (rfl) (by omega) rfl
          have HO9 := Lib.hid ((HO8.out).alloc (.cells #[.int .i64 q, .string nm] 47))
          have HSRC := Lib.hid hsrc
          clear hsrc
          go_wp2_with (at_builtin
                       refine wpList_app _ rfl (.tmp 51) (.tmp 53) ti_cmdN rfl rfl HO9.out rfl HSRC.out (fun _ _ => rfl) (by simp [eCm, Value.oneCell']) (by unfold maxLen; simp; omega) (by simp; omega) (by simp; omega) ?_
                       intro v9 w9 hown9 hg9 hat9)
          go_roundw
          case rel =>
            refine ⟨j - 1, by go_num, L ++ [⟨q, nm⟩], (p4 + 1 + 1), hown9, by simp; omega, ?_, ?_, by omega, ?_, ?_, ?_, ?_⟩
            · intro y hy
              rw [List.mem_append, List.mem_singleton] at hy
              rcases hy with hy | rfl
              · exact HLS.out y hy
              · exact hnl
            · exact ((hr8).al _).grown hg9 (fun b hb => by have := (HOB.out b hb).1; omega)
            · exact grown_fresh2 (grown_tr (gg8) (grown_al w8 _ _)) hg9 (fun b hb => by have := (HOB.out b hb).1; omega)
            · exact ((HSA8.out).trans (Same.of_below hgs (by omega))).trans (Same.of_grown hg9 (by simp; omega) (fun k hk => by have := (HOB.out k hk).1; right; omega))
            · exact (hg9.block _ (by simp; omega) (by intro y; have := (HOB.out _ y.symm).1; omega)).trans ((hgs.block _ (by omega)).trans (HZ08.out))
            · have := hg9.size; simp at this; omega
          case measure => simp [intOf]; omega
        · have hkd : decide ((0 : Int) < k) = false := decide_eq_false hk
          obtain ⟨⟨n0, n1⟩, _⟩ := row2N (HZC5.out)
          have hsz9 := hs5
          have hgs := gr_al w5 (.cells #[.int .i64 q, .string s] 47)
          have hsrc := SlR.oneAt w5 (w1.heap.size + 1) (w5.heap.size) (⟨q, s⟩ : Cmd) 47 (enc := eCm) (k := 2) (rfl) (by omega) rfl
          have HO9 := Lib.hid ((HO5.out).alloc (.cells #[.int .i64 q, .string s] 47))
          have HSRC := Lib.hid hsrc
          clear hsrc
          go_wp2_with (at_builtin
                       refine wpList_app _ rfl (.tmp 51) (.tmp 53) ti_cmdN rfl rfl HO9.out rfl HSRC.out (fun _ _ => rfl) (by simp [eCm, Value.oneCell']) (by unfold maxLen; simp; omega) (by simp; omega) (by simp; omega) ?_
                       intro v9 w9 hown9 hg9 hat9)
          go_roundw
          case rel =>
            refine ⟨j - 1, by go_num, L ++ [⟨q, s⟩], (p4 + 1), hown9, by simp; omega, ?_, ?_, by omega, ?_, ?_, ?_, ?_⟩
            · intro y hy
              rw [List.mem_append, List.mem_singleton] at hy
              rcases hy with hy | rfl
              · exact HLS.out y hy
              · exact (by show s.size ≤ 9; omega)
            · exact ((hr5).al _).grown hg9 (fun b hb => by have := (HOB.out b hb).1; omega)
            · exact grown_fresh2 (grown_tr (gg5) (grown_al w5 _ _)) hg9 (fun b hb => by have := (HOB.out b hb).1; omega)
            · exact ((HSA5.out).trans (Same.of_below hgs (by omega))).trans (Same.of_grown hg9 (by simp; omega) (fun k hk => by have := (HOB.out k hk).1; right; omega))
            · exact (hg9.block _ (by simp; omega) (by intro y; have := (HOB.out _ y.symm).1; omega)).trans ((hgs.block _ (by omega)).trans (HZ05.out))
            · have := hg9.size; simp at this; omega
          case measure => simp [intOf]; omega
      · have hMd : decide ((0 : Int) < (tn : Int)) = false := decide_eq_false (by omega)
        obtain ⟨⟨n0, n1⟩, _⟩ := row2N (HZC.out)
        have hsz9 := (show w4.heap.size + 1 ≤ (w4.alloc (.cells #[.int .i64 q, .string s] 47)).heap.size by simp)
        have hgs := gr_al (w4.alloc (.cells #[.int .i64 q, .string s] 47)) (.cells #[.int .i64 q, .string s] 47)
        have hsrc := SlR.oneAt (w4.alloc (.cells #[.int .i64 q, .string s] 47)) (w1.heap.size + 1) (w4.heap.size + 1) (⟨q, s⟩ : Cmd) 47 (enc := eCm) (k := 2) (by simp) (by omega) rfl
        have HO9 := Lib.hid ((HO4.out).alloc (.cells #[.int .i64 q, .string s] 47))
        have HSRC := Lib.hid hsrc
        clear hsrc
        go_wp2_with (at_builtin
                     refine wpList_app _ rfl (.tmp 51) (.tmp 53) ti_cmdN rfl rfl HO9.out rfl HSRC.out (fun _ _ => rfl) (by simp [eCm, Value.oneCell']) (by unfold maxLen; simp; omega) (by simp; omega) (by simp; omega) ?_
                     intro v9 w9 hown9 hg9 hat9)
        go_roundw
        case rel =>
          refine ⟨j - 1, by go_num, L ++ [⟨q, s⟩], p4, hown9, by simp; omega, ?_, ?_, by omega, ?_, ?_, ?_, ?_⟩
          · intro y hy
            rw [List.mem_append, List.mem_singleton] at hy
            rcases hy with hy | rfl
            · exact HLS.out y hy
            · exact (by show s.size ≤ 9; omega)
          · exact ((hr4).al _).grown hg9 (fun b hb => by have := (HOB.out b hb).1; omega)
          · exact grown_fresh2 (grown_tr (gg4) (grown_al (w4.alloc (.cells #[.int .i64 q, .string s] 47)) _ _)) hg9 (fun b hb => by have := (HOB.out b hb).1; omega)
          · exact ((HSA4.out).trans (Same.of_below hgs (by omega))).trans (Same.of_grown hg9 (by simp; omega) (fun k hk => by have := (HOB.out k hk).1; right; omega))
          · exact (hg9.block _ (by simp; omega) (by intro y; have := (HOB.out _ y.symm).1; omega)).trans ((hgs.block _ (by omega)).trans (HZ04.out))
          · have := hg9.size; simp at this; omega
        case measure => simp [intOf]; omega
    · cases L with
      | nil =>
        obtain ⟨y1, _⟩ := row1 (HZ1R.out)
        obtain ⟨y0, yf0⟩ := row1 (HZR.out)
        have ZF := Lib.hid (HZR.out)
        have OF := Lib.hid (HO.out)
        go_wp2
        refine bodyPost_ret (results_row_tmp2 rfl _ _ w.heap.size 29 _ (0, 0) _ _ _ rfl rfl rfl (heap_set1 ZF.out) Tryd.underlying29 rfl (by kernel_rfl)) rfl ?_
        exact ⟨_, _, _, _, _, _, _, [], _, rfl, (own_setBN (b := w.heap.size) (o := 0) OF.out (by omega)).mono (base' := w.heap.size + 1) (by omega), by simp, HLS.out, (hR).grown (grown_set _ _ _ _) (fun b hb => by injection hb with hb; omega), by omega, grown_fresh (gg) (grown_set _ _ _ _) (Nat.le_refl _)⟩
      | cons x B =>
        have hni : (0 : Int) < (((x :: B).length : Nat) : Int) := by rw [List.length_cons]; omega
        obtain ⟨b, c0, ee, hbb, hbl, hcc, hcell, hfr⟩ := own_rowK (A := []) (K := 2) (enc := eCm) (fun _ => rfl) HO.out
        injection ee with e1 e2 e3
        clear e2 e3 hcc hcell hfr
        subst e1
        obtain ⟨n, hn⟩ : ∃ n, n = (x :: B).length := ⟨_, rfl⟩
        have HNB := Lib.hid (show n = B.length + 1 by rw [hn, List.length_cons])
        rw [← hn] at hni hll
        have HO' := HO.out
        rw [← hn] at HO' ⊢
        have HO2 := Lib.hid HO'
        have hni2 : 1 ≤ n := by omega
        clear HO' HO hn
        go_wp2_with fail
        refine (pick_any g _ 20 wr hR (by omega) (by omega)).mono ?_
        rintro e w3 ⟨k, rfl, hk0, hk1, hr3, hg3⟩
        have gg3 := grown_tr gg hg3
        have ho3 := Own.keepR HO2.out hg3 (by omega)
        have hz03 := keep_blk HZR.out hg3 (by omega)
        have hz13 := keep_blk HZ1R.out hg3 (by omega)
        have hs3 := hg3.size
        by_cases hk : k = 0
        · subst hk
          go_wp2_with fail
          refine (one_lit g _ [-1, 3] w3 hr3 (by omega) (by decide) (by decide)).mono ?_
          rintro e w4 ⟨q, rfl, _, hr4, hg4⟩
          have gg4 := grown_tr gg3 hg4
          have ho4 := Own.keepR ho3 hg4 (by omega)
          have hz04 := keep_blk hz03 hg4 (by omega)
          have hz14 := keep_blk hz13 hg4 (by omega)
          obtain ⟨b', c0', ee', hbb', hbl', hcc', hcell', hfr'⟩ := own_rowK (A := []) (K := 2) (enc := eCm) (fun _ => rfl) ho4
          injection ee' with e1' e2' e3'
          injection e1' with e1'
          injection e1' with e1'
          subst e1'
          have d0 := hcell' 0 _ rfl
          have g0 := hfr' 0
          simp only [List.length_nil, Nat.zero_mul, Nat.zero_add] at d0 g0
          have o1 := own_setK (enc := eCm) (K := 2) (A := []) (j := 0) (u := .int .i64 q) (x' := (⟨q, x.name⟩ : Cmd)) (fun _ => rfl) ho4 rfl (by decide) rfl
          simp only [List.length_nil, Nat.zero_mul, Nat.zero_add, List.nil_append] at o1
          have z0s := set_other (b' := b) (o := 0) (v := .int .i64 q) hz04 (by omega)
          have z1s := set_other (b' := b) (o := 0) (v := .int .i64 q) hz14 (by omega)
          have hr4s : Rdr (w4.setCell ⟨b, 0, none⟩ (.int .i64 q)) g _ := hr4.grown (grown_set _ _ _ _) (fun b hb => by injection hb with hb; omega)
          have gg4s := grown_fresh gg4 (grown_set w4 b 0 (.int .i64 q)) (by omega)
          clear hcell' hfr' hcc' e2' e3' ho4 ho3 hz03 hz13 hz04 hz14 hr4 hr3
          obtain ⟨y1, _⟩ := row1 (z1s)
          obtain ⟨y0, yf0⟩ := row1 (z0s)
          have ZF := Lib.hid (z0s)
          have OF := Lib.hid (o1)
          go_wp2
          refine bodyPost_ret (results_row_tmp2 rfl _ _ w.heap.size 29 _ (0, 0) _ _ _ rfl rfl rfl (heap_set1 ZF.out) Tryd.underlying29 rfl (by kernel_rfl)) rfl ?_
          exact ⟨_, _, _, _, _, _, .slice (some ⟨b, 0, none⟩) n vc, (⟨q, x.name⟩ : Cmd) :: B, _, rfl, (own_setBN (b := w.heap.size) (o := 0) OF.out (by omega)).mono (base' := w.heap.size + 1) (by omega), by simp only [List.length_cons]; have := HNB.out; omega, fun y hy => by
            rw [List.mem_cons] at hy
            rcases hy with rfl | hy
            · exact HLS.out x (List.mem_cons_self ..)
            · exact HLS.out y (List.mem_cons_of_mem _ hy), (hr4s).grown (grown_set _ _ _ _) (fun b hb => by injection hb with hb; omega), by omega, grown_fresh (gg4s) (grown_set _ _ _ _) (Nat.le_refl _)⟩
        · have e0 : (k == 0) = false := by simp [hk]
          clear hk
          obtain ⟨y1, _⟩ := row1 (hz13)
          obtain ⟨y0, yf0⟩ := row1 (hz03)
          have ZF := Lib.hid (hz03)
          have OF := Lib.hid (ho3)
          go_wp2
          refine bodyPost_ret (results_row_tmp2 rfl _ _ w.heap.size 29 _ (0, 0) _ _ _ rfl rfl rfl (heap_set1 ZF.out) Tryd.underlying29 rfl (by kernel_rfl)) rfl ?_
          exact ⟨_, _, _, _, _, _, .slice (some ⟨b, 0, none⟩) n vc, x :: B, _, rfl, (own_setBN (b := w.heap.size) (o := 0) OF.out (by omega)).mono (base' := w.heap.size + 1) (by omega), by simp only [List.length_cons]; have := HNB.out; omega, HLS.out, (hr3).grown (grown_set _ _ _ _) (fun b hb => by injection hb with hb; omega), by omega, grown_fresh (gg3) (grown_set _ _ _ _) (Nat.le_refl _)⟩
end Go.Proofs.YthjegibkbpafeaaDoor
