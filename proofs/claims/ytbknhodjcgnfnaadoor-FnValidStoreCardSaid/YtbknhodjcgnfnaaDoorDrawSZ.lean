/-
  Walks: stores of what is compiled, drawn. Printed by drawst.py.
-/
import Derived.Test.YtbknhodjcgnfnaaDoorDrawUZ
import Derived.Test.YtbknhodjcgnfnaaDoorZ7
namespace Imp
open Go Go.RowKit
theorem results_tmp_row {P : Program} {fn : Func} {p u : Tmp} {ty : TypeId} (h : fn.results = #[.tmp u, .cell p ty]) (tmps : Array Value) (w : World) (g : Nat) (t : TypeId) (cs : Array Value) (fr : Nat × Nat) (d : TypeDesc) (x : Value)
    (hp : tmps.getD p undef = .pointer (some ⟨g, 0, none⟩)) (hx : tmps.getD u undef = x) (hg : w.heap[g]? = some (.cells cs t fr))
    (hu : P.underlying ty = some d) (hd : (match d with | .struct _ | .array _ _ => true | _ => false) = true) (hi : (P.info? ty).map (·.size) = some cs.size) :
    (results fn tmps).run P w = .ok (.tuple #[x, .agg cs]) w := by
  have hp' : tmps[p]?.getD undef = .pointer (some ⟨g, 0, none⟩) := by simpa using hp
  have hx' : tmps[u]?.getD undef = x := by simpa using hx
  simp [results, h, hp', hx', asAddr, run_loadVar_row w g t ty cs fr d hg hu hd hi]
theorem drewC {W : World} {p : Addr} {o : Option Value} (h : W.cell? p = o) : W.drew.cell? p = o := h
theorem FlR.keepZ {w w' : World} {lo hi : Nat} {v : Value} {M : List FR} (h : FlR w lo hi v M) (hs : Same lo hi w w') : FlR w' lo hi v M := ⟨h.1.keep hs, fun r hr => SlR.keep (h.2 r hr) hs⟩
theorem StR.keepZ {w w' : World} {lo hi : Nat} {v : Value} {M : List CR} (h : StR w lo hi v M) (hs : Same lo hi w w') : StR w' lo hi v M := ⟨h.1.keep hs, fun r hr => SlR.keep (h.2 r hr) hs⟩
theorem StR.monoZ {w : World} {lo hi lo' hi' : Nat} {v : Value} {M : List CR} (h : StR w lo hi v M) (h1 : lo' ≤ lo) (h2 : hi ≤ hi') : StR w lo' hi' v M := ⟨SlR.mono h.1 h1 h2, fun r hr => SlR.mono (h.2 r hr) h1 h2⟩
theorem OwnN.stR {w : World} {base tO tI : Nat} {v : Value} {M : List CR} (h : OwnN w base tO 8 eCp tI 5 eSt Cmp.body v M) : StR w base w.heap.size v M :=
  ⟨h.1.reads (fun _ _ => rfl), fun r hr => (h.2.1 r hr).reads (fun _ _ => rfl)⟩
theorem flR_cells {W : World} {lo hi n c k b o : Nat} {T : List FR} (h : FlR W lo hi (.slice (some ⟨b, o, none⟩) n c) T) (hk : k < T.length) :
    W.cell? ⟨b, o + k * 6, none⟩ = some (.int .i64 T[k].1.root) ∧ W.cell? ⟨b, o + k * 6 + 1, none⟩ = some (.string T[k].1.pkg) ∧ W.cell? ⟨b, o + k * 6 + 2, none⟩ = some (.string T[k].1.name) ∧
    W.cell? ⟨b, o + k * 6 + 3, none⟩ = some (.bool T[k].1.init) ∧ W.cell? ⟨b, o + k * 6 + 4, none⟩ = some (.int .i64 T[k].1.stamp) ∧ W.cell? ⟨b, o + k * 6 + 5, none⟩ = some T[k].2 := by
  obtain ⟨a', c', ee, _, _, hcl⟩ := h.1
  injection ee with e1 e2 e3
  obtain ⟨b', o', eb, _, hc⟩ := hcl k hk
  rw [← e1] at eb
  injection eb with eb
  injection eb with e4 e5
  subst e4; subst e5
  exact cells_fil hc
theorem flR_at {W : World} {lo hi n c k : Nat} {a : Option Addr} {T : List FR} (h : FlR W lo hi (.slice a n c) T) (hk : k < T.length) : ∃ b o, a = some ⟨b, o, none⟩ := by
  obtain ⟨a', c', ee, _, _, hcl⟩ := h.1
  injection ee with e1 e2 e3
  obtain ⟨b', o', eb, _, _⟩ := hcl k hk
  exact ⟨b', o', e1.trans eb⟩
theorem split_at {α : Type} {M : List α} {i : Nat} (h : i < M.length) : ∃ A x B, M = A ++ x :: B ∧ A.length = i :=
  ⟨M.take i, M[i], M.drop (i + 1), by rw [List.getElem_cons_drop, List.take_append_drop], by rw [List.length_take]; omega⟩
/-- A compiled file of a drawn store. -/
def SmCa (c : Cmp) : Prop := c.mod.size ≤ 9 ∧ c.body.length ≤ 5 ∧ totB c.body ≤ 50
def SmCs (c : Cmp) : Prop := SmCa c ∧ 0 ≤ c.hash ∧ c.hash < 1000003
theorem smCs_of {f : Fil} (h : SmFd f) (k : Int) : SmCs (cmpOf f k) := by
  obtain ⟨h1, h2, h3, h4⟩ := h
  have ht := totB_small (L := f.body) (fun s hs => ⟨(h2 s hs).1, (h2 s hs).2.1⟩)
  have hh := hashP_ok (L := f.body) (fun s hs => (h2 s hs).2.2)
  exact ⟨⟨nameP_size h3 h4, h1, by show totB f.body ≤ 50; omega⟩, hh.1, hh.2⟩
theorem smCa_C {r : CR} (h : SmCa r.1) : SmC r := ⟨by have := h.1; omega, by have := h.2.1; omega, by have := h.2.2; omega⟩
end Imp
namespace Go.Proofs.YtbknhodjcgnfnaaDoor
open Go Go.RowKit Imp
set_option linter.unusedVariables false
set_option linter.unusedSimpArgs false
def zCpS : Value := .agg #[.int .i64 0, .string ByteArray.empty, .bool false, .int .i64 0, .int .i64 0, .int .i64 0, .int .i64 0, .slice none 0 0]
theorem ti_cmpS : TI Tryd.prog 23 29 8 88 := TI.mk' (z := zCpS) Tryd.underlying23 (by kernel_rfl) rfl (by decide)
def DStoreS (w : World) (g p c : Nat) (e : Ending) (w' : World) : Prop :=
  ∃ v ta tn tc, ∃ M : List CR, ∃ p', e = .returned (.tuple #[v, .agg #[.slice ta tn tc]]) ∧ OwnN w' w.heap.size 29 8 eCp 60 5 eSt Cmp.body v M ∧ M.length ≤ 10 ∧ (∀ r ∈ M, SmCs r.1) ∧ Rdr w' g p' ∧ p' ≤ p + c ∧ w.grownBy w' (some g)
set_option maxHeartbeats 12800000 in
set_option maxRecDepth 10000 in
theorem someStore_any (g p : Nat) (w : World) (h : Rdr w g p) (hp : p < 220000000) :
    Calls Tryd.prog 36 #[.pointer (some ⟨g, 0, none⟩)] w (DStoreS w g p 3000) := by
  have hlt := h.lt
  have hsT := someTree_any g p (w.alloc (.cells #[.slice none 0 0] 39)) (h.al _) (by omega)
  have hz0 := heap_alloc_new w (.cells #[.slice none 0 0] 39)
  have gg0 := grown_al w (.cells #[.slice none 0 0] 39) (some g)
  have HST := Lib.hid hsT
  clear hsT
  go_enter Tryd.func36, Tryd.ntmps36
  go_wp2_with fail
  refine HST.out.mono ?_
  rintro e w1 ⟨tv, T, p1, rfl, hown, hll, hsm, hr1, hp1, hg1⟩
  simp only [World.size_alloc] at hown
  have hz0 := keep_blk hz0 hg1 (by omega)
  have gg1 := grown_tr gg0 hg1
  obtain ⟨va, vc, rfl, hnc, hvc⟩ := hown.1.form
  obtain ⟨n, hn⟩ : ∃ n, n = T.length := ⟨_, rfl⟩
  rw [← hn] at hown hnc hll ⊢
  have hz1 := heap_alloc_new w1 (.cells #[.slice va n vc] 39)
  have hgv := gr_al w1 (.cells #[.slice va n vc] 39)
  have hlo := lt_of_block hz0
  have hz0 := (hgv.block _ hlo).trans hz0
  have hr1 := hr1.al (.cells #[.slice va n vc] 39)
  have gg1 := grown_tr gg1 (grown_al w1 (.cells #[.slice va n vc] 39) (some g))
  have hobl := hown.block
  have hfl := hown.flR
  have hown := hown.gr hgv
  have hfl := hfl.keepZ (Same.of_below hgv (Nat.le_refl _))
  have hoc : Own ((w1.alloc (.cells #[.slice va n vc] 39)).alloc (.cells #[] 29)) (w1.heap.size + 1) 29 8 eCp (.slice (some ⟨w1.heap.size + 1, 0, none⟩) 0 0) ([] : List CR) := by
    have := Own.empty (α := CR) (w1.alloc (.cells #[.slice va n vc] 39)) (w1.heap.size + 1) 29 8 eCp (by simp)
    rw [World.size_alloc] at this
    exact this
  have hkp : ∀ W, (w1.alloc (.cells #[.slice va n vc] 39)).grownBy W (some g) → W.heap[w.heap.size]? = some (.cells #[.slice none 0 0] 39) ∧ W.heap[w1.heap.size]? = some (.cells #[.slice va n vc] 39) ∧ OwnN W (w.heap.size + 1) 31 6 eF 60 5 eSt Fil.body (.slice va n vc) T ∧ FlR W (w.heap.size + 1) w1.heap.size (.slice va n vc) T ∧ w.grownBy W (some g) :=
    fun W hW => ⟨keep_blk hz0 hW (by omega), keep_blk hz1 hW (by omega), hown.keepR hW (by omega), hfl.keepZ (Same.of_grown hW (by simp) (fun k hk => by injection hk with hk; left; omega)), grown_tr gg1 hW⟩
  have HKP := Lib.hid hkp
  have HN := Lib.hid hn
  have HOB := Lib.hid hobl
  have HSM := Lib.hid hsm
  clear hkp hn hobl hsm hfl hown hz0 hz1 hgv gg0 gg1 hg1 HST
  go_wp2
  go_loopw [5, 6] (fun out i wr => ∃ k : Nat, k ≤ n ∧ i = .int .i64 k ∧ ∃ M : List CR, ∃ p', OwnN wr (w1.heap.size + 1) 29 8 eCp 60 5 eSt Cmp.body out M ∧ M.length ≤ k ∧ (∀ r ∈ M, SmCs r.1) ∧ Rdr wr g p' ∧ p' ≤ p1 + 2 * k ∧ (w1.alloc (.cells #[.slice va n vc] 39)).grownBy wr (some g)) (fun _ i _ => n - (intOf i).toNat)
  case atStart => exact ⟨0, Nat.zero_le _, rfl, [], p1, OwnN.nil _ hoc, Nat.le_refl _, by simp, hr1.al _, by omega, grown_al _ _ _⟩
  case round =>
    obtain ⟨k, hk, rfl, M, p', hC, hml, hms, hR, hp', g1⟩ := hrel
    obtain ⟨ca, cc, rfl, _, _⟩ := hC.1.form
    have k1 := (HKP.out _ g1).2.1
    obtain ⟨x1, xf1⟩ := row1 k1
    have HMS := Lib.hid hms
    clear hms hoc hr1
    by_cases hlt2 : k < n
    · have hkw : IntKind.i64.wrap ((k : Int) + 1) = (k : Int) + 1 := IntWalk.i64_in _ (by omega)
      clear k1
      go_wp2_with fail
      refine (pick_any g p' 3 wr hR (by omega) (by omega)).mono ?_
      rintro e w2 ⟨q, rfl, hq0, hq1, hr2, hg2⟩
      have hC := hC.keepR hg2 (by omega)
      have g2 := grown_tr g1 hg2
      have hs2 := g2.size
      simp only [World.size_alloc] at hs2
      clear hg2 g1 hR x1 xf1
      by_cases hq : 0 < q
      · have hkT : k < T.length := by have := HN.out; omega
        obtain ⟨b, o, hab⟩ := flR_at (HKP.out _ g2).2.2.2.1 hkT
        subst hab
        obtain ⟨x, hx⟩ : ∃ x, x = T[k] := ⟨_, rfl⟩
        have hxm : x ∈ T := by rw [hx]; exact List.getElem_mem hkT
        obtain ⟨f, fv⟩ := x
        have hfs : SmFd f := HSM.out _ hxm
        obtain ⟨fa, fc, hfe, _, _⟩ := ((HKP.out _ g2).2.2.2.1.2 _ hxm).form
        simp only at hfe
        subst hfe
        have hcs : ∀ W, (w1.alloc (.cells #[.slice (some ⟨b, o, none⟩) n vc] 39)).grownBy W (some g) → W.cell? ⟨w1.heap.size, 0, none⟩ = some (.slice (some ⟨b, o, none⟩) n vc) ∧ W.cell? ⟨b, o + k * 6, none⟩ = some (.int .i64 f.root) ∧ W.cell? ⟨b, o + k * 6 + 1, none⟩ = some (.string f.pkg) ∧ W.cell? ⟨b, o + k * 6 + 2, none⟩ = some (.string f.name) ∧ W.cell? ⟨b, o + k * 6 + 3, none⟩ = some (.bool f.init) ∧ W.cell? ⟨b, o + k * 6 + 4, none⟩ = some (.int .i64 f.stamp) ∧ W.cell? ⟨b, o + k * 6 + 5, none⟩ = some (.slice fa f.body.length fc) := fun W hW => by
          have hc6 := flR_cells (HKP.out _ hW).2.2.2.1 hkT
          rw [← hx] at hc6
          exact ⟨(row1 (HKP.out _ hW).2.1).1, hc6⟩
        have hcm : ∀ W q, (w1.alloc (.cells #[.slice (some ⟨b, o, none⟩) n vc] 39)).grownBy W (some g) → Calls Tryd.prog 23 #[vF (f, .slice fa f.body.length fc), .int .i64 q] W (fun e w' => ∃ C u, C = cmpOf f q ∧ e = .returned (vCm C u) ∧ Own w' W.heap.size 60 5 eSt u C.body ∧ Gr W w') := fun W q hW => by
          have hbr : BodyR W (w.heap.size + 1) w1.heap.size (f, .slice fa f.body.length fc) := (HKP.out _ hW).2.2.2.1.2 _ hxm
          have htb : totB f.body ≤ 50 := (smCs_of hfs 0).1.2.2
          have hsw := hW.size
          simp only [World.size_alloc] at hsw
          exact (scompiled_sm f _ q W (fun s hs => (hfs.2.1 s hs).2.2) hbr (by omega) (by have := hfs.2.2.1; omega) (by have := hfs.2.2.2; omega) (by have := hfs.1; omega) (by omega)).mono (fun e w' ⟨u, h1, h2, h3⟩ => ⟨_, u, rfl, h1, h2, h3⟩)
        have hkn : (k : Int) < (n : Int) := by omega
        have HCS := Lib.hid hcs
        have HCM := Lib.hid hcm
        have HPK := Lib.hid (pick_any g _ 3 (w2.drewN 1) hr2 (by omega) (by omega))
        have HC := Lib.hid hC
        have HFS := Lib.hid hfs
        have g2d : (w1.alloc (.cells #[.slice (some ⟨b, o, none⟩) n vc] 39)).grownBy (w2.drewN 1) (some g) := ⟨g2.os, g2.tape, g2.output, g2.size, g2.block⟩
        clear hcs hcm hx hxm hfs hC
        go_wp2
        refine wp_region_held_drew (S := (fun W => W.cell? ⟨w1.heap.size, 0, none⟩ = some (.slice (some ⟨b, o, none⟩) n vc) ∧ W.cell? ⟨b, o + k * 6, none⟩ = some (.int .i64 f.root) ∧ W.cell? ⟨b, o + k * 6 + 1, none⟩ = some (.string f.pkg) ∧ W.cell? ⟨b, o + k * 6 + 2, none⟩ = some (.string f.name) ∧ W.cell? ⟨b, o + k * 6 + 3, none⟩ = some (.bool f.init) ∧ W.cell? ⟨b, o + k * 6 + 4, none⟩ = some (.int .i64 f.stamp) ∧ W.cell? ⟨b, o + k * 6 + 5, none⟩ = some (.slice fa f.body.length fc))) (by kernel_rfl) (HCS.out _ g2d) (fun hS0 => ?_)
        refine wpAnyH_take (i := 0) (v := ?_) rfl (by kernel_rfl) (by kernel_rfl) (by kernel_rfl) (fun _ _ _ h => h) (Or.inl ⟨by rfl, ?_⟩) hS0 ?_
        rotate_left
        · (intro W hSw; (try dsimp only at hSw); go_simp; try (with_reducible rfl))
        try simp only [Act.put, List.getElem_toArray, List.getElem_cons_succ, List.getElem_cons_zero, List.setIfInBounds_toArray, List.set_cons_zero, List.set_cons_succ]
        refine wpAnyH_take (i := 1) (v := ?_) rfl (by kernel_rfl) (by kernel_rfl) (by kernel_rfl) (fun _ _ _ h => h) (Or.inl ⟨by rfl, ?_⟩) hS0 ?_
        rotate_left
        · (intro W hSw; (try dsimp only at hSw); go_simp; try (with_reducible rfl))
        try simp only [Act.put, List.getElem_toArray, List.getElem_cons_succ, List.getElem_cons_zero, List.setIfInBounds_toArray, List.set_cons_zero, List.set_cons_succ]
        refine wpAnyH_take (i := 2) (v := ?_) rfl (by kernel_rfl) (by kernel_rfl) (by kernel_rfl) (fun _ _ _ h => h) (Or.inl ⟨by rfl, ?_⟩) hS0 ?_
        rotate_left
        · (intro W hSw; (try dsimp only at hSw); go_simp; try (with_reducible rfl))
        try simp only [Act.put, List.getElem_toArray, List.getElem_cons_succ, List.getElem_cons_zero, List.setIfInBounds_toArray, List.set_cons_zero, List.set_cons_succ]
        refine wpAnyH_take (i := 3) (v := ?_) rfl (by kernel_rfl) (by kernel_rfl) (by kernel_rfl) (fun _ _ _ h => h) (Or.inl ⟨by rfl, ?_⟩) hS0 ?_
        rotate_left
        · (intro W hSw; (try dsimp only at hSw); go_simp; try (with_reducible rfl))
        try simp only [Act.put, List.getElem_toArray, List.getElem_cons_succ, List.getElem_cons_zero, List.setIfInBounds_toArray, List.set_cons_zero, List.set_cons_succ]
        refine wpAnyH_take (i := 4) (v := ?_) rfl (by kernel_rfl) (by kernel_rfl) (by kernel_rfl) (fun _ _ _ h => h) (Or.inl ⟨by rfl, ?_⟩) hS0 ?_
        rotate_left
        · (intro W hSw; (try dsimp only at hSw); go_simp; try (with_reducible rfl))
        try simp only [Act.put, List.getElem_toArray, List.getElem_cons_succ, List.getElem_cons_zero, List.setIfInBounds_toArray, List.set_cons_zero, List.set_cons_succ]
        refine wpAnyH_take (i := 5) (v := ?_) rfl (by kernel_rfl) (by kernel_rfl) (by kernel_rfl) (fun _ _ _ h => h) (Or.inl ⟨by rfl, ?_⟩) hS0 ?_
        rotate_left
        · (intro W hSw; (try dsimp only at hSw); go_simp; try (with_reducible rfl))
        try simp only [Act.put, List.getElem_toArray, List.getElem_cons_succ, List.getElem_cons_zero, List.setIfInBounds_toArray, List.set_cons_zero, List.set_cons_succ]
        refine wpAnyH_take (i := 6) (v := ?_) rfl (by kernel_rfl) (by kernel_rfl) (by kernel_rfl) (fun _ _ _ h => h) (Or.inl ⟨by rfl, ?_⟩) hS0 ?_
        rotate_left
        · (intro W hSw; (try dsimp only at hSw); go_simp; try (with_reducible rfl))
        try simp only [Act.put, List.getElem_toArray, List.getElem_cons_succ, List.getElem_cons_zero, List.setIfInBounds_toArray, List.set_cons_zero, List.set_cons_succ]
        refine wpAnyH_ready (rs := [7]) (by kernel_rfl) (by simp) ?_
        refine AllReadyH.cons rfl (fun K hK => ?_) AllReadyH.nil
        go_simp
        refine (HPK.out).mono ?_
        rintro e w3 ⟨q3, rfl, hq30, hq31, hr3, hg3⟩
        try go_wp2_with fail
        refine hK.out _ _ (HCS.out _ (grown_tr g2d hg3)) (fun hS1 => ?_)
        clear hK K
        try simp only [Act.put, List.getElem_toArray, List.getElem_cons_succ, List.getElem_cons_zero, List.setIfInBounds_toArray, List.set_cons_zero, List.set_cons_succ]
        have g3 := grown_tr g2d hg3
        have hg3' : w2.grownBy w3 (some g) := ⟨hg3.os, hg3.tape, hg3.output, hg3.size, hg3.block⟩
        have hC3 := HC.out.keepR hg3' (by omega)
        have hobl3 := hC3.block
        have hs3 := hg3'.size
        refine wpAnyH_ready (rs := [8]) (by kernel_rfl) (by simp) ?_
        refine AllReadyH.cons rfl (fun K hK => ?_) (AllReadyH.nil)
        go_simp
        refine (HCM.out w3 q3 g3).mono ?_
        rintro e w4 ⟨C, u4, hC4, rfl, ho4, hb4⟩
        obtain ⟨a4, k4, e4, _, _⟩ := ho4.form
        subst e4
        have HC4 := Lib.hid hC4
        clear hC4
        have hofb := ho4.block
        have hs4 := hb4.size
        have g4 : (w1.alloc (.cells #[.slice (some ⟨b, o, none⟩) n vc] 39)).grownBy w4 (some g) := grown_tr g3 ⟨hb4.os, hb4.tape, hb4.output, hb4.size, fun i hi _ => hb4.block i hi⟩
        refine hK.out _ _ (HCS.out _ g4) (fun hS2 => ?_)
        clear hK K
        try simp only [Act.put, List.getElem_toArray, List.getElem_cons_succ, List.getElem_cons_zero, List.setIfInBounds_toArray, List.set_cons_zero, List.set_cons_succ]
        refine wpAnyH_ready (rs := [9]) (by kernel_rfl) (by simp) ?_
        refine AllReadyH.cons rfl (fun K hK => ?_) (AllReadyH.nil)
        go_simp
        have hgB := gr_al w4 (.cells #[.int .i64 C.root, .string C.mod, .bool C.init, .int .i64 C.mode, .int .i64 C.stamp, .int .i64 C.size, .int .i64 C.hash, .slice a4 C.body.length k4] 29)
        have g5 := grown_tr g4 (grown_al w4 (.cells #[.int .i64 C.root, .string C.mod, .bool C.init, .int .i64 C.mode, .int .i64 C.stamp, .int .i64 C.size, .int .i64 C.hash, .slice a4 C.body.length k4] 29) (some g))
        refine hK.out _ _ (HCS.out _ g5) (fun hS3 => ?_)
        clear hK K
        try simp only [Act.put, List.getElem_toArray, List.getElem_cons_succ, List.getElem_cons_zero, List.setIfInBounds_toArray, List.set_cons_zero, List.set_cons_succ]
        have hC5 := (hC3.gr hb4).gr hgB
        have hofA := (ho4.mono (base' := w1.heap.size + 1) (by omega)).alloc (.cells #[.int .i64 C.root, .string C.mod, .bool C.init, .int .i64 C.mode, .int .i64 C.stamp, .int .i64 C.size, .int .i64 C.hash, .slice a4 C.body.length k4] 29)
        have hsrc := SlR.oneAt w4 0 w4.heap.size ((C, .slice a4 C.body.length k4) : CR) 29 (enc := eCp) (k := 8) rfl (Nat.zero_le _) rfl
        refine wpAnyH_ready (rs := [10]) (by kernel_rfl) (by simp) ?_
        refine AllReadyH.cons rfl (fun K hK => ?_) (AllReadyH.nil)
        refine step_app _ rfl (.tmp 21) (.tmp 30) ti_cmpS rfl (by simp [Act.eval]) hC5.1 (by simp [Act.eval]) hsrc (fun _ _ => rfl) (by simp [eCp, Value.oneCell']) (by unfold maxLen; simp; omega) (by simp; omega) (by simp; omega) ?_
        intro v9 w9 hown9 hg9 hat9
        obtain ⟨va9, vc9, hv9, _, _⟩ := hown9.form
        have hv9' : v9 = .slice va9 (M.length + 1) vc9 := by rw [hv9, List.length_append]; rfl
        clear hv9
        subst hv9'
        have g9 : (w1.alloc (.cells #[.slice (some ⟨b, o, none⟩) n vc] 39)).grownBy w9 (some g) := grown_fresh2 g5 hg9 (fun b hb => by have := (hobl3 _ (Or.inl hb)).1; simp only [World.size_alloc]; omega)
        refine hK.out _ _ (HCS.out _ g9) (fun hS9 => ?_)
        clear hK K
        try simp only [Act.put, List.getElem_toArray, List.getElem_cons_succ, List.getElem_cons_zero, List.setIfInBounds_toArray, List.set_cons_zero, List.set_cons_succ]
        refine wpAnyH_take (i := 11) (v := ?_) rfl (by kernel_rfl) (by kernel_rfl) (by kernel_rfl) (fun _ _ _ h => h) (Or.inl ⟨by rfl, ?_⟩) hS9 ?_
        rotate_left
        · (intro W hSw; (try dsimp only at hSw); go_simp; try (with_reducible rfl))
        try simp only [Act.put, List.getElem_toArray, List.getElem_cons_succ, List.getElem_cons_zero, List.setIfInBounds_toArray, List.set_cons_zero, List.set_cons_succ]
        refine wpAnyH_done (by kernel_rfl) ?_ _
        go_wp2
        go_roundw
        case rel =>
          have o9 := OwnN.app (x := ((C, .slice a4 C.body.length k4) : CR)) hC5 hofA (fun b hb q => by have h1 := (hofb b hb).1; have h2 := (hobl3 b q).2; omega) hown9 hg9 hat9
          refine ⟨k + 1, by omega, by go_num, M ++ [(C, .slice a4 C.body.length k4)], _, o9, by simp; omega, ?_, (((hr3.gr hb4).al _).grown hg9 (fun b hb => by have := (hobl3 _ (Or.inl hb)).1; have := hr1.lt; omega)), by omega, g9⟩
          intro r hr
          rw [List.mem_append, List.mem_singleton] at hr
          rcases hr with hr | rfl
          · exact HMS.out r hr
          · rw [HC4.out]; exact smCs_of HFS.out q3
        case measure => simp [intOf]; omega
      · have hqd : decide ((0 : Int) < q) = false := decide_eq_false hq
        go_wp2
        go_roundw
        case rel => exact ⟨k + 1, by omega, by go_num, M, _, hC, by omega, HMS.out, hr2, by omega, g2⟩
        case measure => simp [intOf]; omega

    · obtain ⟨z0, z1, hT, _, gg⟩ := HKP.out _ g1
      have hcb := hC.block
      have hob1 : ∀ b, va = some ⟨b, 0, none⟩ → b < w1.heap.size := fun b q => by subst q; exact (HOB.out b (Or.inl rfl)).2
      have hkn : k = n := by omega
      subst hkn
      have HN2 := HN
      have HCB := Lib.hid (fun b hb => (hcb b hb).1)
      have HO1 := Lib.hid hob1
      have hkn' : decide ((k : Int) < (k : Int)) = false := decide_eq_false (by omega)
      clear hlt2 hcb hob1
      go_wp2
      go_loopw [7] (fun i wr2 => ∃ j : Nat, j ≤ k ∧ i = .int .i64 j ∧ ∃ T' : List FR, ∃ p2, T'.length = k ∧ wr2.heap[w.heap.size]? = some (.cells #[.slice none 0 0] 39) ∧ wr2.heap[w1.heap.size]? = some (.cells #[.slice va k vc] 39) ∧ OwnN wr2 (w.heap.size + 1) 31 6 eF 60 5 eSt Fil.body (.slice va k vc) T' ∧ OwnN wr2 (w1.heap.size + 1) 29 8 eCp 60 5 eSt Cmp.body (.slice ca M.length cc) M ∧ Rdr wr2 g p2 ∧ p2 ≤ p1 + 2 * k + 102 * j ∧ w.grownBy wr2 (some g)) (fun i _ => k - (intOf i).toNat)
      case atStart => exact ⟨0, Nat.zero_le _, rfl, T, p', HN.out.symm, z0, z1, hT, hC, hR, by omega, gg⟩
      case round =>
        obtain ⟨j, hj, rfl, T', p2, hTl, z0, z1, hT, hC, hR, hp2, gg⟩ := hrel
        have HTL := Lib.hid hTl
        clear hTl
        obtain ⟨x1, xf1⟩ := row1 z1
        by_cases hlt3 : j < k
        · have hjw : IntKind.i64.wrap ((j : Int) + 1) = (j : Int) + 1 := IntWalk.i64_in _ (by omega)
          obtain ⟨A, x, B, hX, hAl⟩ := split_at (show j < T'.length by have := HTL.out; omega)
          subst hX
          obtain ⟨⟨root, pkg, name, init, stamp, body⟩, xv⟩ := x
          have HAl := Lib.hid hAl
          have hT0 := hT
          obtain ⟨b, c', ee, hbb, hbl, hc', _, _⟩ := own_rowK (K := 6) (enc := eF) (fun _ => rfl) hT0.1
          injection ee with e1 e2 e3
          clear e2 e3 hAl hT0 hc'
          subst e1
          have hb1 := HO1.out b rfl
          go_wp2_with fail
          refine (pick_any g p2 4 wr hR (by omega) (by omega)).mono ?_
          rintro e w2 ⟨q, rfl, hq0, hq1, hr2, hg2⟩
          have hq1 := hq1 (by omega)
          have z0 := keep_blk z0 hg2 (by omega)
          have z1 := keep_blk z1 hg2 (by omega)
          have hT := hT.keepR hg2 (by omega)
          have hC := hC.keepR hg2 (by omega)
          have gg := grown_tr gg hg2
          have hjk : (j : Int) < (k : Int) := by omega
          clear x1 xf1 hR hg2
          obtain ⟨x1, xf1⟩ := row1 z1
          have Z0 := Lib.hid z0
          have Z1 := Lib.hid z1
          have HT := Lib.hid hT
          have HC := Lib.hid hC
          clear z0 z1 hT hC
          have hne1 : ¬ b = w1.heap.size := by omega
          have hne2 : ¬ w1.heap.size = b := by omega
          rcases (show q = 0 ∨ q = 1 ∨ q = 2 ∨ q = 3 by omega) with rfl | rfl | rfl | rfl

          · skip
            have HPB := Lib.hid (someBody_sm g _ (w2.drewN 1) hr2 (by omega))
            go_wp2
            refine wp_region_held_drew (S := (fun W => W.cell? ⟨w1.heap.size, 0, none⟩ = some (.slice (some ⟨b, 0, none⟩) k vc))) (by kernel_rfl) x1 (fun hS0 => ?_)
            refine wpAnyH_take (i := 0) (v := ?_) rfl (by kernel_rfl) (by kernel_rfl) (by kernel_rfl) (fun _ _ _ h => h) (Or.inl ⟨by rfl, ?_⟩) hS0 ?_
            rotate_left
            · (intro W hSw; (try dsimp only at hSw); go_simp; try (with_reducible rfl))
            try simp only [Act.put, List.getElem_toArray, List.getElem_cons_succ, List.getElem_cons_zero, List.setIfInBounds_toArray, List.set_cons_zero, List.set_cons_succ]
            refine wpAnyH_take (i := 1) (v := ?_) rfl (by kernel_rfl) (by kernel_rfl) (by kernel_rfl) (fun _ _ _ h => h) (Or.inl ⟨by rfl, ?_⟩) hS0 ?_
            rotate_left
            · (intro W hSw; (try dsimp only at hSw); go_simp; try (with_reducible rfl))
            try simp only [Act.put, List.getElem_toArray, List.getElem_cons_succ, List.getElem_cons_zero, List.setIfInBounds_toArray, List.set_cons_zero, List.set_cons_succ]
            refine wpAnyH_take (i := 2) (v := ?_) rfl (by kernel_rfl) (by kernel_rfl) (by kernel_rfl) (fun _ _ _ h => h) (Or.inl ⟨by rfl, ?_⟩) hS0 ?_
            rotate_left
            · (intro W hSw; (try dsimp only at hSw); go_simp; try (with_reducible rfl))
            try simp only [Act.put, List.getElem_toArray, List.getElem_cons_succ, List.getElem_cons_zero, List.setIfInBounds_toArray, List.set_cons_zero, List.set_cons_succ]
            refine wpAnyH_take (i := 3) (v := ?_) rfl (by kernel_rfl) (by kernel_rfl) (by kernel_rfl) (fun _ _ _ h => h) (Or.inl ⟨by rfl, ?_⟩) hS0 ?_
            rotate_left
            · (intro W hSw; (try dsimp only at hSw); go_simp; try (with_reducible rfl))
            try simp only [Act.put, List.getElem_toArray, List.getElem_cons_succ, List.getElem_cons_zero, List.setIfInBounds_toArray, List.set_cons_zero, List.set_cons_succ]
            refine wpAnyH_ready (rs := [4]) (by kernel_rfl) (by simp) ?_
            refine AllReadyH.cons rfl (fun K hK => ?_) (AllReadyH.nil)
            go_simp
            refine HPB.out.mono ?_
            rintro e w3 ⟨bv, bb, p3, rfl, hob, hbl4, hbs, hr3, hp3, hg3⟩
            obtain ⟨ba, bc, rfl, _, _⟩ := hob.form
            have hg3' : w2.grownBy w3 (some g) := ⟨hg3.os, hg3.tape, hg3.output, hg3.size, hg3.block⟩
            have z0 := keep_blk Z0.out hg3' (by omega)
            have z1 := keep_blk Z1.out hg3' (by omega)
            have hT := HT.out.keepR hg3' (by omega)
            have hC := HC.out.keepR hg3' (by omega)
            have gg3 := grown_tr gg hg3'
            have hoblT := HT.out.block
            have hofb := hob.block
            have hs2 := gg.size
            obtain ⟨b', c', ee, _, hbl3, _, hcell, hfr⟩ := own_rowK (K := 6) (enc := eF) (fun _ => rfl) hT.1
            injection ee with e1 e2 e3
            injection e1 with e1
            injection e1 with e1
            clear e2 e3
            subst e1
            have c5 := hcell 5 _ rfl
            have f5 := hfr (j * 6 + 5)
            rw [HAl.out] at c5
            have o1 := OwnN.put (j := 5) (u := .slice ba bb.length bc) (x' := ((⟨root, pkg, name, init, stamp, bb⟩ : Fil), (.slice ba bb.length bc : Value))) hT (fun _ => rfl) rfl (by decide) rfl (hob.mono (by have := (hoblT b (Or.inl rfl)).2; simp only [World.drewN, World.drew]; omega)) (fun y hy q => by
              have h1 := (hofb y hy).1
              have h2 := (hoblT y q).2
              simp only [World.drewN, World.drew] at h1
              omega)
            rw [HAl.out] at o1
            have hC1 : OwnN (w3.setCell ⟨b, j * 6 + 5, none⟩ (.slice ba bb.length bc)) (w1.heap.size + 1) 29 8 eCp 60 5 eSt Cmp.body (.slice ca M.length cc) M := hC.chg (p := fun y => y = b) (ChgN.set w3 b (j * 6 + 5) _ rfl) (fun y hy q => by have := HCB.out y hy; omega)
            have z0' := set_other (b' := b) (o := j * 6 + 5) (v := .slice ba bb.length bc) z0 (by omega)
            have z1' := set_other (b' := b) (o := j * 6 + 5) (v := .slice ba bb.length bc) z1 (by omega)
            have gg4 := grown_fresh gg3 (grown_set w3 b (j * 6 + 5) (.slice ba bb.length bc)) (by omega)
            have hr4 := hr3.grown (grown_set w3 b (j * 6 + 5) (.slice ba bb.length bc)) (fun y hy => by injection hy with hy; omega)
            have S3 := (row1 z1).1
            have S4 := (row1 z1').1
            have HO1' := Lib.hid o1
            have HC1 := Lib.hid hC1
            have Z0' := Lib.hid z0'
            have Z1' := Lib.hid z1'
            clear hT hC hoblT o1 hC1 z0 z1 z0' z1' hcell hfr x1 xf1
            refine hK.out _ _ S3 (fun hS1 => ?_)
            clear hK K
            try simp only [Act.put, List.getElem_toArray, List.getElem_cons_succ, List.getElem_cons_zero, List.setIfInBounds_toArray, List.set_cons_zero, List.set_cons_succ]
            refine wpAnyH_take (i := 5) (v := ?_) rfl (by kernel_rfl) (by kernel_rfl) (by kernel_rfl) (fun _ _ _ h => h) (Or.inl ⟨by rfl, ?_⟩) hS1 ?_
            rotate_left
            · (intro W hSw; (try dsimp only at hSw); go_simp; try (with_reducible rfl))
            try simp only [Act.put, List.getElem_toArray, List.getElem_cons_succ, List.getElem_cons_zero, List.setIfInBounds_toArray, List.set_cons_zero, List.set_cons_succ]
            refine wpAnyH_take (i := 6) (v := ?_) rfl (by kernel_rfl) (by kernel_rfl) (by kernel_rfl) (fun _ _ _ h => h) (Or.inl ⟨by rfl, ?_⟩) hS1 ?_
            rotate_left
            · (intro W hSw; (try dsimp only at hSw); go_simp; try (with_reducible rfl))
            try simp only [Act.put, List.getElem_toArray, List.getElem_cons_succ, List.getElem_cons_zero, List.setIfInBounds_toArray, List.set_cons_zero, List.set_cons_succ]
            refine wpAnyH_ready (rs := [7]) (by kernel_rfl) (by simp) ?_
            refine AllReadyH.cons rfl (fun K hK => ?_) (AllReadyH.nil)
            go_simp
            refine hK.out _ _ S4 (fun hS2 => ?_)
            clear hK K
            try simp only [Act.put, List.getElem_toArray, List.getElem_cons_succ, List.getElem_cons_zero, List.setIfInBounds_toArray, List.set_cons_zero, List.set_cons_succ]
            refine wpAnyH_done (by kernel_rfl) ?_ _
            go_wp2
            go_roundw
            case rel => exact ⟨j + 1, by omega, by go_num, _, _, by have := HTL.out; simp only [List.length_append, List.length_cons] at this ⊢; exact this, Z0'.out, Z1'.out, HO1'.out, HC1.out, hr4, by omega, gg4⟩
            case measure => simp [intOf]; omega
          · skip
            have HPB := Lib.hid (someBody_sm g _ (w2.drewN 1) hr2 (by omega))
            go_wp2
            refine wp_region_held_drew (S := (fun W => W.cell? ⟨w1.heap.size, 0, none⟩ = some (.slice (some ⟨b, 0, none⟩) k vc))) (by kernel_rfl) x1 (fun hS0 => ?_)
            refine wpAnyH_take (i := 0) (v := ?_) rfl (by kernel_rfl) (by kernel_rfl) (by kernel_rfl) (fun _ _ _ h => h) (Or.inl ⟨by rfl, ?_⟩) hS0 ?_
            rotate_left
            · (intro W hSw; (try dsimp only at hSw); go_simp; try (with_reducible rfl))
            try simp only [Act.put, List.getElem_toArray, List.getElem_cons_succ, List.getElem_cons_zero, List.setIfInBounds_toArray, List.set_cons_zero, List.set_cons_succ]
            refine wpAnyH_take (i := 1) (v := ?_) rfl (by kernel_rfl) (by kernel_rfl) (by kernel_rfl) (fun _ _ _ h => h) (Or.inl ⟨by rfl, ?_⟩) hS0 ?_
            rotate_left
            · (intro W hSw; (try dsimp only at hSw); go_simp; try (with_reducible rfl))
            try simp only [Act.put, List.getElem_toArray, List.getElem_cons_succ, List.getElem_cons_zero, List.setIfInBounds_toArray, List.set_cons_zero, List.set_cons_succ]
            refine wpAnyH_take (i := 2) (v := ?_) rfl (by kernel_rfl) (by kernel_rfl) (by kernel_rfl) (fun _ _ _ h => h) (Or.inl ⟨by rfl, ?_⟩) hS0 ?_
            rotate_left
            · (intro W hSw; (try dsimp only at hSw); go_simp; try (with_reducible rfl))
            try simp only [Act.put, List.getElem_toArray, List.getElem_cons_succ, List.getElem_cons_zero, List.setIfInBounds_toArray, List.set_cons_zero, List.set_cons_succ]
            refine wpAnyH_take (i := 3) (v := ?_) rfl (by kernel_rfl) (by kernel_rfl) (by kernel_rfl) (fun _ _ _ h => h) (Or.inl ⟨by rfl, ?_⟩) hS0 ?_
            rotate_left
            · (intro W hSw; (try dsimp only at hSw); go_simp; try (with_reducible rfl))
            try simp only [Act.put, List.getElem_toArray, List.getElem_cons_succ, List.getElem_cons_zero, List.setIfInBounds_toArray, List.set_cons_zero, List.set_cons_succ]
            refine wpAnyH_ready (rs := [4]) (by kernel_rfl) (by simp) ?_
            refine AllReadyH.cons rfl (fun K hK => ?_) (AllReadyH.nil)
            go_simp
            refine HPB.out.mono ?_
            rintro e w3 ⟨bv, bb, p3, rfl, hob, hbl4, hbs, hr3, hp3, hg3⟩
            obtain ⟨ba, bc, rfl, _, _⟩ := hob.form
            have hg3' : w2.grownBy w3 (some g) := ⟨hg3.os, hg3.tape, hg3.output, hg3.size, hg3.block⟩
            have z0 := keep_blk Z0.out hg3' (by omega)
            have z1 := keep_blk Z1.out hg3' (by omega)
            have hT := HT.out.keepR hg3' (by omega)
            have hC := HC.out.keepR hg3' (by omega)
            have gg3 := grown_tr gg hg3'
            have hoblT := HT.out.block
            have hofb := hob.block
            have hs2 := gg.size
            obtain ⟨b', c', ee, _, hbl3, _, hcell, hfr⟩ := own_rowK (K := 6) (enc := eF) (fun _ => rfl) hT.1
            injection ee with e1 e2 e3
            injection e1 with e1
            injection e1 with e1
            clear e2 e3
            subst e1
            have c5 := hcell 5 _ rfl
            have f5 := hfr (j * 6 + 5)
            rw [HAl.out] at c5
            have o1 := OwnN.put (j := 5) (u := .slice ba bb.length bc) (x' := ((⟨root, pkg, name, init, stamp, bb⟩ : Fil), (.slice ba bb.length bc : Value))) hT (fun _ => rfl) rfl (by decide) rfl (hob.mono (by have := (hoblT b (Or.inl rfl)).2; simp only [World.drewN, World.drew]; omega)) (fun y hy q => by
              have h1 := (hofb y hy).1
              have h2 := (hoblT y q).2
              simp only [World.drewN, World.drew] at h1
              omega)
            rw [HAl.out] at o1
            have hC1 : OwnN (w3.setCell ⟨b, j * 6 + 5, none⟩ (.slice ba bb.length bc)) (w1.heap.size + 1) 29 8 eCp 60 5 eSt Cmp.body (.slice ca M.length cc) M := hC.chg (p := fun y => y = b) (ChgN.set w3 b (j * 6 + 5) _ rfl) (fun y hy q => by have := HCB.out y hy; omega)
            have z0' := set_other (b' := b) (o := j * 6 + 5) (v := .slice ba bb.length bc) z0 (by omega)
            have z1' := set_other (b' := b) (o := j * 6 + 5) (v := .slice ba bb.length bc) z1 (by omega)
            have gg4 := grown_fresh gg3 (grown_set w3 b (j * 6 + 5) (.slice ba bb.length bc)) (by omega)
            have hr4 := hr3.grown (grown_set w3 b (j * 6 + 5) (.slice ba bb.length bc)) (fun y hy => by injection hy with hy; omega)
            have S3 := (row1 z1).1
            have S4 := (row1 z1').1
            have HO1' := Lib.hid o1
            have HC1 := Lib.hid hC1
            have Z0' := Lib.hid z0'
            have Z1' := Lib.hid z1'
            clear hT hC hoblT o1 hC1 z0 z1 z0' z1' hcell hfr x1 xf1
            refine hK.out _ _ S3 (fun hS1 => ?_)
            clear hK K
            try simp only [Act.put, List.getElem_toArray, List.getElem_cons_succ, List.getElem_cons_zero, List.setIfInBounds_toArray, List.set_cons_zero, List.set_cons_succ]
            refine wpAnyH_take (i := 5) (v := ?_) rfl (by kernel_rfl) (by kernel_rfl) (by kernel_rfl) (fun _ _ _ h => h) (Or.inl ⟨by rfl, ?_⟩) hS1 ?_
            rotate_left
            · (intro W hSw; (try dsimp only at hSw); go_simp; try (with_reducible rfl))
            try simp only [Act.put, List.getElem_toArray, List.getElem_cons_succ, List.getElem_cons_zero, List.setIfInBounds_toArray, List.set_cons_zero, List.set_cons_succ]
            refine wpAnyH_take (i := 6) (v := ?_) rfl (by kernel_rfl) (by kernel_rfl) (by kernel_rfl) (fun _ _ _ h => h) (Or.inl ⟨by rfl, ?_⟩) hS1 ?_
            rotate_left
            · (intro W hSw; (try dsimp only at hSw); go_simp; try (with_reducible rfl))
            try simp only [Act.put, List.getElem_toArray, List.getElem_cons_succ, List.getElem_cons_zero, List.setIfInBounds_toArray, List.set_cons_zero, List.set_cons_succ]
            refine wpAnyH_ready (rs := [7]) (by kernel_rfl) (by simp) ?_
            refine AllReadyH.cons rfl (fun K hK => ?_) (AllReadyH.nil)
            go_simp
            refine hK.out _ _ S4 (fun hS2 => ?_)
            clear hK K
            try simp only [Act.put, List.getElem_toArray, List.getElem_cons_succ, List.getElem_cons_zero, List.setIfInBounds_toArray, List.set_cons_zero, List.set_cons_succ]
            refine wpAnyH_done (by kernel_rfl) ?_ _
            obtain ⟨WW, hWW⟩ : ∃ WW, WW = (w3.setCell ⟨b, j * 6 + 5, none⟩ (.slice ba bb.length bc)) := ⟨_, rfl⟩
            rw [← hWW] at hr4 gg4
            have HWW := Lib.hid hWW
            have hO2 := HO1'.out
            have hC2 := HC1.out
            have z02 := Z0'.out
            have z12 := Z1'.out
            rw [← hWW] at hO2 hC2 z02 z12
            have HPQ := Lib.hid (pick_any g _ 100 (WW.drewN 1) hr4 (by omega) (by omega))
            have y1 := (row1 z12).1
            have HO2 := Lib.hid hO2
            have HC2 := Lib.hid hC2
            have Z02 := Lib.hid z02
            have Z12 := Lib.hid z12
            clear hO2 hC2 z02 z12 hWW c5 f5
            go_wp2
            rw [← HWW.out]
            refine wp_region_held_drew (S := (fun W => W.cell? ⟨w1.heap.size, 0, none⟩ = some (.slice (some ⟨b, 0, none⟩) k vc))) (by kernel_rfl) y1 (fun hU0 => ?_)
            refine wpAnyH_take (i := 0) (v := ?_) rfl (by kernel_rfl) (by kernel_rfl) (by kernel_rfl) (fun _ _ _ h => h) (Or.inl ⟨by rfl, ?_⟩) hU0 ?_
            rotate_left
            · (intro W hSw; (try dsimp only at hSw); go_simp; try (with_reducible rfl))
            try simp only [Act.put, List.getElem_toArray, List.getElem_cons_succ, List.getElem_cons_zero, List.setIfInBounds_toArray, List.set_cons_zero, List.set_cons_succ]
            refine wpAnyH_take (i := 1) (v := ?_) rfl (by kernel_rfl) (by kernel_rfl) (by kernel_rfl) (fun _ _ _ h => h) (Or.inl ⟨by rfl, ?_⟩) hU0 ?_
            rotate_left
            · (intro W hSw; (try dsimp only at hSw); go_simp; try (with_reducible rfl))
            try simp only [Act.put, List.getElem_toArray, List.getElem_cons_succ, List.getElem_cons_zero, List.setIfInBounds_toArray, List.set_cons_zero, List.set_cons_succ]
            refine wpAnyH_take (i := 2) (v := ?_) rfl (by kernel_rfl) (by kernel_rfl) (by kernel_rfl) (fun _ _ _ h => h) (Or.inl ⟨by rfl, ?_⟩) hU0 ?_
            rotate_left
            · (intro W hSw; (try dsimp only at hSw); go_simp; try (with_reducible rfl))
            try simp only [Act.put, List.getElem_toArray, List.getElem_cons_succ, List.getElem_cons_zero, List.setIfInBounds_toArray, List.set_cons_zero, List.set_cons_succ]
            refine wpAnyH_take (i := 3) (v := ?_) rfl (by kernel_rfl) (by kernel_rfl) (by kernel_rfl) (fun _ _ _ h => h) (Or.inl ⟨by rfl, ?_⟩) hU0 ?_
            rotate_left
            · (intro W hSw; (try dsimp only at hSw); go_simp; try (with_reducible rfl))
            try simp only [Act.put, List.getElem_toArray, List.getElem_cons_succ, List.getElem_cons_zero, List.setIfInBounds_toArray, List.set_cons_zero, List.set_cons_succ]
            refine wpAnyH_ready (rs := [4]) (by kernel_rfl) (by simp) ?_
            refine AllReadyH.cons rfl (fun K hK => ?_) (AllReadyH.nil)
            go_simp
            refine HPQ.out.mono ?_
            rintro e w5 ⟨st, rfl, hst0, hst1, hr5, hg5⟩
            have hg5' : WW.grownBy w5 (some g) := ⟨hg5.os, hg5.tape, hg5.output, hg5.size, hg5.block⟩
            have z0 := keep_blk Z02.out hg5' (by omega)
            have z1 := keep_blk Z12.out hg5' (by omega)
            have hT := HO2.out.keepR hg5' (by omega)
            have hC := HC2.out.keepR hg5' (by omega)
            have gg5 := grown_tr gg4 hg5'
            obtain ⟨b', c', ee, _, hbl5, _, hcell, hfr⟩ := own_rowK (K := 6) (enc := eF) (fun _ => rfl) hT.1
            injection ee with e1 e2 e3
            injection e1 with e1
            injection e1 with e1
            clear e2 e3
            subst e1
            have c4 := hcell 4 _ rfl
            have f4 := hfr (j * 6 + 4)
            rw [HAl.out] at c4
            have o1 := OwnN.set (j := 4) (u := .int .i64 st) (x' := ((⟨root, pkg, name, init, st, bb⟩ : Fil), (.slice ba bb.length bc : Value))) hT (fun _ => rfl) rfl (by decide) rfl rfl rfl
            rw [HAl.out] at o1
            have hC1 : OwnN (w5.setCell ⟨b, j * 6 + 4, none⟩ (.int .i64 st)) (w1.heap.size + 1) 29 8 eCp 60 5 eSt Cmp.body (.slice ca M.length cc) M := hC.chg (p := fun y => y = b) (ChgN.set w5 b (j * 6 + 4) _ rfl) (fun y hy q => by have := HCB.out y hy; omega)
            have z0' := set_other (b' := b) (o := j * 6 + 4) (v := .int .i64 st) z0 (by omega)
            have z1' := set_other (b' := b) (o := j * 6 + 4) (v := .int .i64 st) z1 (by omega)
            have hs2 := gg.size
            have gg6 := grown_fresh gg5 (grown_set w5 b (j * 6 + 4) (.int .i64 st)) (by omega)
            have hr6 := hr5.grown (grown_set w5 b (j * 6 + 4) (.int .i64 st)) (fun y hy => by injection hy with hy; omega)
            have S5 := (row1 z1).1
            have S6 := (row1 z1').1
            have HO3 := Lib.hid o1
            have HC3 := Lib.hid hC1
            have Z03 := Lib.hid z0'
            have Z13 := Lib.hid z1'
            clear hT hC o1 hC1 z0 z1 z0' z1' hcell hfr y1
            refine hK.out _ _ S5 (fun hS1 => ?_)
            clear hK K
            try simp only [Act.put, List.getElem_toArray, List.getElem_cons_succ, List.getElem_cons_zero, List.setIfInBounds_toArray, List.set_cons_zero, List.set_cons_succ]
            refine wpAnyH_take (i := 5) (v := ?_) rfl (by kernel_rfl) (by kernel_rfl) (by kernel_rfl) (fun _ _ _ h => h) (Or.inl ⟨by rfl, ?_⟩) hS1 ?_
            rotate_left
            · (intro W hSw; (try dsimp only at hSw); go_simp; try (with_reducible rfl))
            try simp only [Act.put, List.getElem_toArray, List.getElem_cons_succ, List.getElem_cons_zero, List.setIfInBounds_toArray, List.set_cons_zero, List.set_cons_succ]
            refine wpAnyH_take (i := 6) (v := ?_) rfl (by kernel_rfl) (by kernel_rfl) (by kernel_rfl) (fun _ _ _ h => h) (Or.inl ⟨by rfl, ?_⟩) hS1 ?_
            rotate_left
            · (intro W hSw; (try dsimp only at hSw); go_simp; try (with_reducible rfl))
            try simp only [Act.put, List.getElem_toArray, List.getElem_cons_succ, List.getElem_cons_zero, List.setIfInBounds_toArray, List.set_cons_zero, List.set_cons_succ]
            refine wpAnyH_ready (rs := [7]) (by kernel_rfl) (by simp) ?_
            refine AllReadyH.cons rfl (fun K hK => ?_) (AllReadyH.nil)
            go_simp
            refine hK.out _ _ S6 (fun hS2 => ?_)
            clear hK K
            try simp only [Act.put, List.getElem_toArray, List.getElem_cons_succ, List.getElem_cons_zero, List.setIfInBounds_toArray, List.set_cons_zero, List.set_cons_succ]
            refine wpAnyH_done (by kernel_rfl) ?_ _
            go_wp2
            go_roundw
            case rel => exact ⟨j + 1, by omega, by go_num, _, _, by have := HTL.out; simp only [List.length_append, List.length_cons] at this ⊢; exact this, Z03.out, Z13.out, HO3.out, HC3.out, hr6, by omega, gg6⟩
            case measure => simp [intOf]; omega
          · skip
            go_wp2
            go_roundw
            case rel => exact ⟨j + 1, by omega, by go_num, _, _, HTL.out, Z0.out, Z1.out, HT.out, HC.out, hr2, by omega, gg⟩
            case measure => simp [intOf]; omega
          · skip
            go_wp2
            go_roundw
            case rel => exact ⟨j + 1, by omega, by go_num, _, _, HTL.out, Z0.out, Z1.out, HT.out, HC.out, hr2, by omega, gg⟩
            case measure => simp [intOf]; omega
        · have hjk' : decide ((j : Int) < (k : Int)) = false := decide_eq_false (by omega)
          obtain ⟨y0, yf0⟩ := row1 z0
          have Z0 := Lib.hid z0
          have Z1 := Lib.hid z1
          clear z0 z1
          have hlo' := lt_of_block Z1.out
          have hCF := (hC.setB (b := w.heap.size) (o := 0) (u := .slice va k vc) (by omega)).mono (base' := w.heap.size) (by omega)
          have hRF := hR.grown (grown_set wr w.heap.size 0 (.slice va k vc)) (fun b hb => by injection hb with hb; omega)
          have ggF := grown_fresh gg (grown_set wr w.heap.size 0 (.slice va k vc)) (Nat.le_refl _)
          have S3 : (wr.setCell ⟨w.heap.size, 0, none⟩ (.slice va k vc)).cell? ⟨w1.heap.size, 0, none⟩ = some (.slice va k vc) := by
            rw [World.cell?_setCell_far _ _ _ _ (by show w.heap.size ≠ w1.heap.size; omega)]; exact x1
          have HCF := Lib.hid hCF
          have HRF := Lib.hid hRF
          have GGF := Lib.hid ggF
          have HS3 := Lib.hid S3
          have ZF := Lib.hid (drewH (heap_set1 (b0 := .slice va k vc) Z0.out))
          clear hCF hRF ggF S3 hC hR gg
          go_wp2
          refine wp_region_held_drew (S := (fun W => W.cell? ⟨w1.heap.size, 0, none⟩ = some (.slice va k vc))) (by kernel_rfl) x1 (fun hS0 => ?_)
          refine wpAnyH_take (i := 0) (v := ?_) rfl (by kernel_rfl) (by kernel_rfl) (by kernel_rfl) (fun _ _ _ h => h) (Or.inl ⟨by rfl, ?_⟩) hS0 ?_
          rotate_left
          · (intro W hSw; (try dsimp only at hSw); go_simp; try (with_reducible rfl))
          try simp only [Act.put, List.getElem_toArray, List.getElem_cons_succ, List.getElem_cons_zero, List.setIfInBounds_toArray, List.set_cons_zero, List.set_cons_succ]
          refine wpAnyH_take (i := 1) (v := ?_) rfl (by kernel_rfl) (by kernel_rfl) (by kernel_rfl) (fun _ _ _ h => h) (Or.inl ⟨by rfl, ?_⟩) hS0 ?_
          rotate_left
          · (intro W hSw; (try dsimp only at hSw); go_simp; try (with_reducible rfl))
          try simp only [Act.put, List.getElem_toArray, List.getElem_cons_succ, List.getElem_cons_zero, List.setIfInBounds_toArray, List.set_cons_zero, List.set_cons_succ]
          refine wpAnyH_take (i := 2) (v := ?_) rfl (by kernel_rfl) (by kernel_rfl) (by kernel_rfl) (fun _ _ _ h => h) (Or.inl ⟨by rfl, ?_⟩) hS0 ?_
          rotate_left
          · (intro W hSw; (try dsimp only at hSw); go_simp; try (with_reducible rfl))
          try simp only [Act.put, List.getElem_toArray, List.getElem_cons_succ, List.getElem_cons_zero, List.setIfInBounds_toArray, List.set_cons_zero, List.set_cons_succ]
          refine wpAnyH_ready (rs := [3]) (by kernel_rfl) (by simp) ?_
          refine AllReadyH.cons rfl (fun K hK => ?_) (AllReadyH.nil)
          go_simp
          refine hK.out _ _ ?_ (fun hS9 => ?_)
          · exact drewC HS3.out
          clear hK K
          try simp only [Act.put, List.getElem_toArray, List.getElem_cons_succ, List.getElem_cons_zero, List.setIfInBounds_toArray, List.set_cons_zero, List.set_cons_succ]
          refine wpAnyH_done (by kernel_rfl) ?_ _
          go_wp2
          refine bodyPost_ret (results_tmp_row rfl _ _ w.heap.size 39 _ (0, 0) _ _ rfl rfl ZF.out Tryd.underlying39 rfl (by kernel_rfl)) rfl ?_
          exact ⟨_, _, _, _, M, _, rfl, HCF.out, by omega, HMS.out, HRF.out, by omega, GGF.out.os, GGF.out.tape, GGF.out.output, GGF.out.size, GGF.out.block⟩

def DStoreA (w : World) (g p c : Nat) (e : Ending) (w' : World) : Prop :=
  ∃ v ta tn tc, ∃ M : List CR, ∃ p', e = .returned (.tuple #[v, .agg #[.slice ta tn tc]]) ∧ StR w' (w.heap.size + 1) w'.heap.size v M ∧ M.length ≤ 11 ∧ (∀ r ∈ M, SmCa r.1) ∧ Rdr w' g p' ∧ p' ≤ p + c ∧ w.grownBy w' (some g)
set_option maxHeartbeats 6400000 in
set_option maxRecDepth 10000 in
theorem anyStore_any (g p : Nat) (w : World) (h : Rdr w g p) (hp : p < 210000000) :
    Calls Tryd.prog 14 #[.pointer (some ⟨g, 0, none⟩)] w (DStoreA w g p 3010) := by
  have hlt := h.lt
  have hsT := someStore_any g p (w.alloc (.cells #[.slice none 0 0] 39)) (h.al _) (by omega)
  have hz0 := heap_alloc_new w (.cells #[.slice none 0 0] 39)
  have gg0 := grown_al w (.cells #[.slice none 0 0] 39) (some g)
  have HST := Lib.hid hsT
  clear hsT
  go_enter Tryd.func14, Tryd.ntmps14
  go_wp2_with fail
  refine HST.out.mono ?_
  rintro e w1 ⟨lv, va, n, vc, M, p1, rfl, hown, hll, hsm, hr1, hp1, hg1⟩
  simp only [World.size_alloc] at hown
  have hz0 := keep_blk hz0 hg1 (by omega)
  have gg1 := grown_tr gg0 hg1
  obtain ⟨la, lc, rfl, hnc, hvc⟩ := hown.1.form
  obtain ⟨m, hm⟩ : ∃ m, m = M.length := ⟨_, rfl⟩
  rw [← hm] at hown hnc ⊢
  have hz1 := heap_alloc_new w1 (.cells #[.slice va n vc] 39)
  have hgv := gr_al w1 (.cells #[.slice va n vc] 39)
  have hlo := lt_of_block hz0
  have hz0 := (hgv.block _ hlo).trans hz0
  have hr1 := hr1.al (.cells #[.slice va n vc] 39)
  have gg1 := grown_tr gg1 (grown_al w1 (.cells #[.slice va n vc] 39) (some g))
  have hobl := hown.block
  have hown := hown.gr hgv
  obtain ⟨x1, xf1⟩ := row1 hz1
  have HYA := Lib.hid hz0
  have HYB := Lib.hid hz1
  have HSM := Lib.hid hsm
  have HOB := Lib.hid hobl
  clear gg0 hg1 HST hsm hobl hgv hz0 hz1
  cases M with
  | nil =>
    have hm0 : m = 0 := by rw [hm]; rfl
    subst hm0
    obtain ⟨x0, xf0⟩ := row1 HYA.out
    obtain ⟨WW, hWW⟩ : ∃ WW, WW = (w1.alloc (.cells #[.slice va n vc] 39)) := ⟨_, rfl⟩
    have z0 := HYA.out
    have z1 := HYB.out
    rw [← hWW] at hown z0 z1 hr1 gg1 x0 xf0 x1 xf1
    have HWW := Lib.hid hWW
    have HO := Lib.hid hown
    have Z0 := Lib.hid z0
    have Z1 := Lib.hid z1
    clear hown hm hnc hWW z0 z1 HYA HYB
    go_wp2
    rw [← HWW.out]
    have hSF := (StR.keepZ (w' := WW.setCell ⟨w.heap.size, 0, none⟩ (.slice va n vc)) (OwnN.stR HO.out) (fun i h1 _ => Below.heap_setCell _ _ _ i (by show i ≠ w.heap.size; omega))).monoZ (lo' := w.heap.size + 1) (hi' := (WW.setCell ⟨w.heap.size, 0, none⟩ (.slice va n vc)).heap.size) (Nat.le_refl _) (by simp [World.setCell])
    have hRF := (hr1).grown (grown_set WW w.heap.size 0 (.slice va n vc)) (fun b hb => by injection hb with hb; omega)
    have ggF := grown_fresh (gg1) (grown_set WW w.heap.size 0 (.slice va n vc)) (Nat.le_refl _)
    have S3 : (WW.setCell ⟨w.heap.size, 0, none⟩ (.slice va n vc)).cell? ⟨w1.heap.size, 0, none⟩ = some (.slice va n vc) := by
      rw [World.cell?_setCell_far _ _ _ _ (by show w.heap.size ≠ w1.heap.size; omega)]; exact (row1 (Z1.out)).1
    have HSF := Lib.hid hSF
    have HRF := Lib.hid hRF
    have GGF := Lib.hid ggF
    have HS3 := Lib.hid S3
    have ZF := Lib.hid (drewH (heap_set1 (b0 := .slice va n vc) (Z0.out)))
    clear hSF hRF ggF S3
    refine wp_region_held_drew (S := (fun W => W.cell? ⟨w1.heap.size, 0, none⟩ = some (.slice va n vc))) (by kernel_rfl) x1 (fun hS0 => ?_)
    refine wpAnyH_take (i := 0) (v := ?_) rfl (by kernel_rfl) (by kernel_rfl) (by kernel_rfl) (fun _ _ _ h => h) (Or.inl ⟨by rfl, ?_⟩) hS0 ?_
    rotate_left
    · (intro W hSw; (try dsimp only at hSw); go_simp; try (with_reducible rfl))
    try simp only [Act.put, List.getElem_toArray, List.getElem_cons_succ, List.getElem_cons_zero, List.setIfInBounds_toArray, List.set_cons_zero, List.set_cons_succ]
    refine wpAnyH_take (i := 1) (v := ?_) rfl (by kernel_rfl) (by kernel_rfl) (by kernel_rfl) (fun _ _ _ h => h) (Or.inl ⟨by rfl, ?_⟩) hS0 ?_
    rotate_left
    · (intro W hSw; (try dsimp only at hSw); go_simp; try (with_reducible rfl))
    try simp only [Act.put, List.getElem_toArray, List.getElem_cons_succ, List.getElem_cons_zero, List.setIfInBounds_toArray, List.set_cons_zero, List.set_cons_succ]
    refine wpAnyH_take (i := 2) (v := ?_) rfl (by kernel_rfl) (by kernel_rfl) (by kernel_rfl) (fun _ _ _ h => h) (Or.inl ⟨by rfl, ?_⟩) hS0 ?_
    rotate_left
    · (intro W hSw; (try dsimp only at hSw); go_simp; try (with_reducible rfl))
    try simp only [Act.put, List.getElem_toArray, List.getElem_cons_succ, List.getElem_cons_zero, List.setIfInBounds_toArray, List.set_cons_zero, List.set_cons_succ]
    refine wpAnyH_ready (rs := [3]) (by kernel_rfl) (by simp) ?_
    refine AllReadyH.cons rfl (fun K hK => ?_) (AllReadyH.nil)
    go_simp
    refine hK.out _ _ ?_ (fun hS9 => ?_)
    · exact drewC HS3.out
    clear hK K
    try simp only [Act.put, List.getElem_toArray, List.getElem_cons_succ, List.getElem_cons_zero, List.setIfInBounds_toArray, List.set_cons_zero, List.set_cons_succ]
    refine wpAnyH_done (by kernel_rfl) ?_ _
    go_wp2
    refine bodyPost_ret (results_tmp_row rfl _ _ w.heap.size 39 _ (0, 0) _ _ rfl rfl ZF.out Tryd.underlying39 rfl (by kernel_rfl)) rfl ?_
    exact ⟨_, _, _, _, [], _, rfl, HSF.out, (by simp), (by simp), HRF.out, by omega, GGF.out.os, GGF.out.tape, GGF.out.output, GGF.out.size, GGF.out.block⟩
  | cons x B =>
    obtain ⟨⟨root, mod, init, mode, stamp, size, hash, body⟩, xv⟩ := x
    have hxo := hown.2.1 _ (List.mem_cons_self ..)
    obtain ⟨xa, xc, hxv, hxc, hxc2⟩ := hxo.form
    simp only at hxv hxc
    subst hxv
    have hmi : (0 : Int) < (m : Int) := by rw [hm, List.length_cons]; omega
    have hml : B.length + 1 = m := by rw [hm, List.length_cons]
    have hm10 : m ≤ 10 := by omega
    have hsx : SmCs ⟨root, mod, init, mode, stamp, size, hash, body⟩ := HSM.out _ (List.mem_cons_self ..)
    have HMM := Lib.hid hml
    clear hm hnc hxo hll hml
    go_wp2_with fail
    refine (pick_any g _ 20 _ hr1 (by omega) (by omega)).mono ?_
    rintro e w2 ⟨k, rfl, hk0, hk1, hr2, hg2⟩
    have hown := hown.keepR hg2 (by omega)
    have gg2 := grown_tr gg1 hg2
    have hzc0 := keep_blk HYA.out hg2 (by omega)
    have hzc1 := keep_blk HYB.out hg2 (by have := hr1.lt; omega)
    have hs2 : w1.heap.size + 1 ≤ w2.heap.size := by have := hg2.size; simpa using this
    obtain ⟨b, c0, ee, hbb, hbl, hcc, hcell, hfr⟩ := own_rowK (A := []) (K := 8) (enc := eCp) (fun _ => rfl) hown.1
    injection ee with e1 e2 e3
    clear e2 e3 hcc
    subst e1
    have hbl1 : b < w1.heap.size := (HOB.out b (Or.inl rfl)).2
    have c0 := hcell 0 _ rfl
    have c1 := hcell 1 _ rfl
    have c2 := hcell 2 _ rfl
    have c3 := hcell 3 _ rfl
    have c4 := hcell 4 _ rfl
    have c5 := hcell 5 _ rfl
    have c6 := hcell 6 _ rfl
    have c7 := hcell 7 _ rfl
    have f3 := hfr 3
    have f6 := hfr 6
    simp only [List.length_nil, Nat.zero_mul, Nat.zero_add] at c0 c1 c2 c3 c4 c5 c6 c7 f3 f6
    clear x1 xf1 hcell hfr hg2 gg1 hr1
    obtain ⟨x1, xf1⟩ := row1 hzc1
    have HZ0 := Lib.hid hzc0
    have HZ1 := Lib.hid hzc1
    have HO := Lib.hid hown
    have hs1 : w.heap.size < w2.heap.size := by omega
    clear hzc0 hzc1 hown HYA HYB
    have hne1 : ¬ b = w1.heap.size := by omega
    have hne2 : ¬ w1.heap.size = b := by omega
    by_cases h0 : k = 0
    · subst h0
      have hwr : IntKind.i64.wrap (hash + 1) = hash + 1 := IntWalk.i64_in _ (by have : 0 ≤ hash ∧ hash < 1000003 := hsx.2; omega)
      have o1 := OwnN.set (A := []) (j := 6) (u := .int .i64 (hash + 1)) (x' := ((⟨root, mod, init, mode, stamp, size, hash + 1, body⟩ : Cmp), (.slice xa body.length xc : Value))) HO.out (fun _ => rfl) rfl (by decide) rfl rfl rfl
      simp only [List.length_nil, Nat.zero_mul, Nat.zero_add] at o1
      have z0 := set_other (b' := b) (o := 6) (v := .int .i64 (hash + 1)) HZ0.out (by omega)
      have z1 := set_other (b' := b) (o := 6) (v := .int .i64 (hash + 1)) HZ1.out (by omega)
      have hr3 := hr2.grown (grown_set w2 b 6 (.int .i64 (hash + 1))) (fun y hy => by injection hy with hy; omega)
      have gg3 := grown_fresh gg2 (grown_set w2 b 6 (.int .i64 (hash + 1))) (by omega)
      obtain ⟨WW, hWW⟩ : ∃ WW, WW = w2.setCell ⟨b, 6, none⟩ (.int .i64 (hash + 1)) := ⟨_, rfl⟩
      rw [← hWW] at o1 z0 z1 hr3 gg3
      have HWW := Lib.hid hWW
      have O1 := Lib.hid o1
      have Z0 := Lib.hid z0
      have Z1 := Lib.hid z1
      have y1 := (row1 z1).1
      obtain ⟨y0, yf0⟩ := row1 z0
      clear hWW o1 z0 z1
      go_wp2
      rw [← HWW.out]
      have hSF := (StR.keepZ (w' := WW.setCell ⟨w.heap.size, 0, none⟩ (.slice va n vc)) (OwnN.stR O1.out) (fun i h1 _ => Below.heap_setCell _ _ _ i (by show i ≠ w.heap.size; omega))).monoZ (lo' := w.heap.size + 1) (hi' := (WW.setCell ⟨w.heap.size, 0, none⟩ (.slice va n vc)).heap.size) (Nat.le_refl _) (by simp [World.setCell])
      have hRF := (hr3).grown (grown_set WW w.heap.size 0 (.slice va n vc)) (fun b hb => by injection hb with hb; omega)
      have ggF := grown_fresh (gg3) (grown_set WW w.heap.size 0 (.slice va n vc)) (Nat.le_refl _)
      have S3 : (WW.setCell ⟨w.heap.size, 0, none⟩ (.slice va n vc)).cell? ⟨w1.heap.size, 0, none⟩ = some (.slice va n vc) := by
        rw [World.cell?_setCell_far _ _ _ _ (by show w.heap.size ≠ w1.heap.size; omega)]; exact (row1 (Z1.out)).1
      have HSF := Lib.hid hSF
      have HRF := Lib.hid hRF
      have GGF := Lib.hid ggF
      have HS3 := Lib.hid S3
      have ZF := Lib.hid (drewH (heap_set1 (b0 := .slice va n vc) (Z0.out)))
      clear hSF hRF ggF S3
      refine wp_region_held_drew (S := (fun W => W.cell? ⟨w1.heap.size, 0, none⟩ = some (.slice va n vc))) (by kernel_rfl) y1 (fun hS0 => ?_)
      refine wpAnyH_take (i := 0) (v := ?_) rfl (by kernel_rfl) (by kernel_rfl) (by kernel_rfl) (fun _ _ _ h => h) (Or.inl ⟨by rfl, ?_⟩) hS0 ?_
      rotate_left
      · (intro W hSw; (try dsimp only at hSw); go_simp; try (with_reducible rfl))
      try simp only [Act.put, List.getElem_toArray, List.getElem_cons_succ, List.getElem_cons_zero, List.setIfInBounds_toArray, List.set_cons_zero, List.set_cons_succ]
      refine wpAnyH_take (i := 1) (v := ?_) rfl (by kernel_rfl) (by kernel_rfl) (by kernel_rfl) (fun _ _ _ h => h) (Or.inl ⟨by rfl, ?_⟩) hS0 ?_
      rotate_left
      · (intro W hSw; (try dsimp only at hSw); go_simp; try (with_reducible rfl))
      try simp only [Act.put, List.getElem_toArray, List.getElem_cons_succ, List.getElem_cons_zero, List.setIfInBounds_toArray, List.set_cons_zero, List.set_cons_succ]
      refine wpAnyH_take (i := 2) (v := ?_) rfl (by kernel_rfl) (by kernel_rfl) (by kernel_rfl) (fun _ _ _ h => h) (Or.inl ⟨by rfl, ?_⟩) hS0 ?_
      rotate_left
      · (intro W hSw; (try dsimp only at hSw); go_simp; try (with_reducible rfl))
      try simp only [Act.put, List.getElem_toArray, List.getElem_cons_succ, List.getElem_cons_zero, List.setIfInBounds_toArray, List.set_cons_zero, List.set_cons_succ]
      refine wpAnyH_ready (rs := [3]) (by kernel_rfl) (by simp) ?_
      refine AllReadyH.cons rfl (fun K hK => ?_) (AllReadyH.nil)
      go_simp
      refine hK.out _ _ ?_ (fun hS9 => ?_)
      · exact drewC HS3.out
      clear hK K
      try simp only [Act.put, List.getElem_toArray, List.getElem_cons_succ, List.getElem_cons_zero, List.setIfInBounds_toArray, List.set_cons_zero, List.set_cons_succ]
      refine wpAnyH_done (by kernel_rfl) ?_ _
      go_wp2
      refine bodyPost_ret (results_tmp_row rfl _ _ w.heap.size 39 _ (0, 0) _ _ rfl rfl ZF.out Tryd.underlying39 rfl (by kernel_rfl)) rfl ?_
      exact ⟨_, _, _, _, ((⟨root, mod, init, mode, stamp, size, hash + 1, body⟩ : Cmp), (.slice xa body.length xc : Value)) :: B, _, rfl, HSF.out, (by have := HMM.out; simp only [List.length_cons]; omega), (fun r hr => (List.mem_cons.1 hr).elim (fun q => by rw [q]; exact hsx.1) (fun q => (HSM.out r (List.mem_cons_of_mem _ q)).1)), HRF.out, by omega, GGF.out.os, GGF.out.tape, GGF.out.output, GGF.out.size, GGF.out.block⟩
    · have q0 : (k == 0) = false := by simp [h0]
      by_cases h1 : k = 1
      · subst h1
        have HSRC := Lib.hid (SlR.oneAt w2 0 w2.heap.size ((⟨root, mod, init, mode, stamp, size, hash, body⟩ : Cmp), (.slice xa body.length xc : Value)) 29 (enc := eCp) (k := 8) rfl (Nat.zero_le _) rfl)
        have gA := gr_al w2 (.cells #[.int .i64 root, .string mod, .bool init, .int .i64 mode, .int .i64 stamp, .int .i64 size, .int .i64 hash, .slice xa body.length xc] 29)
        have HOA := Lib.hid (HO.out.gr gA)
        go_wp2_with (at_builtin
                     refine wpList_app _ rfl (.tmp 28) (.tmp 32) ti_cmpS rfl rfl HOA.out.1 rfl HSRC.out (fun _ _ => rfl) (by simp [eCp, Value.oneCell']) (by unfold maxLen; have := HMM.out; simp only [List.length_cons, List.length_nil]; omega) (by have := HMM.out; simp only [List.length_cons, List.length_nil]; omega) (by simp only [World.size_alloc]; omega) ?_
                     intro v9 w9 hown9 hg9 hat9
                     obtain ⟨va9, vc9, hv9, _, _⟩ := hown9.form
                     have hv9' : v9 = .slice va9 (m + 1) vc9 := by rw [hv9, List.length_append, List.length_cons, HMM.out]; rfl
                     clear hv9
                     subst hv9'
                     have hz19 := (hg9.block w1.heap.size (by simp only [World.size_alloc]; omega) (by intro y; have y : some _ = some b := y; injection y with y; omega)).trans ((gA.block _ (lt_of_block HZ1.out)).trans HZ1.out)
                     have hz09 := (hg9.block w.heap.size (by simp only [World.size_alloc]; omega) (by intro y; have y : some _ = some b := y; injection y with y; omega)).trans ((gA.block _ (lt_of_block HZ0.out)).trans HZ0.out)
                     obtain ⟨y1, _⟩ := row1 hz19
                     obtain ⟨y0, yf0⟩ := row1 hz09
                     have Z09 := Lib.hid hz09
                     have Z19 := Lib.hid hz19
                     clear hz09 hz19)
        have gg9 : w.grownBy w9 (some g) := grown_fresh2 (grown_tr gg2 (grown_al w2 _ _)) hg9 (fun q hq => by have hq : some b = some q := hq; injection hq with hq; omega)
        have hr9 : Rdr w9 g _ := (hr2.al _).grown hg9 (fun q hq => by have hq : some b = some q := hq; injection hq with hq; omega)
        have hin : ∀ r ∈ (((⟨root, mod, init, mode, stamp, size, hash, body⟩ : Cmp), (.slice xa body.length xc : Value)) :: B ++ [((⟨root, mod, init, mode, stamp, size, hash, body⟩ : Cmp), (.slice xa body.length xc : Value))]), r ∈ (((⟨root, mod, init, mode, stamp, size, hash, body⟩ : Cmp), (.slice xa body.length xc : Value)) :: B) := fun r hr => by
          rw [List.mem_append, List.mem_singleton] at hr
          rcases hr with hr | rfl
          · exact hr
          · exact List.mem_cons_self ..
        have hst : StR w9 (w.heap.size + 1) w9.heap.size _ (((⟨root, mod, init, mode, stamp, size, hash, body⟩ : Cmp), (.slice xa body.length xc : Value)) :: B ++ [((⟨root, mod, init, mode, stamp, size, hash, body⟩ : Cmp), (.slice xa body.length xc : Value))]) := ⟨hown9.reads (fun _ _ => rfl), fun r hr => ((HOA.out.2.1 r (hin r hr)).keep (fun q hq => hg9.block q ((HOA.out.2.1 r (hin r hr)).block q hq).2 (by intro y; exact HOA.out.2.2.2 r (hin r hr) q hq y.symm))).reads (fun _ _ => rfl)⟩
        have hSF := (StR.keepZ (w' := w9.setCell ⟨w.heap.size, 0, none⟩ (.slice va n vc)) (hst) (fun i h1 _ => Below.heap_setCell _ _ _ i (by show i ≠ w.heap.size; omega))).monoZ (lo' := w.heap.size + 1) (hi' := (w9.setCell ⟨w.heap.size, 0, none⟩ (.slice va n vc)).heap.size) (Nat.le_refl _) (by simp [World.setCell])
        have hRF := (hr9).grown (grown_set w9 w.heap.size 0 (.slice va n vc)) (fun b hb => by injection hb with hb; omega)
        have ggF := grown_fresh (gg9) (grown_set w9 w.heap.size 0 (.slice va n vc)) (Nat.le_refl _)
        have S3 : (w9.setCell ⟨w.heap.size, 0, none⟩ (.slice va n vc)).cell? ⟨w1.heap.size, 0, none⟩ = some (.slice va n vc) := by
          rw [World.cell?_setCell_far _ _ _ _ (by show w.heap.size ≠ w1.heap.size; omega)]; exact (row1 (Z19.out)).1
        have HSF := Lib.hid hSF
        have HRF := Lib.hid hRF
        have GGF := Lib.hid ggF
        have HS3 := Lib.hid S3
        have ZF := Lib.hid (drewH (heap_set1 (b0 := .slice va n vc) (Z09.out)))
        clear hSF hRF ggF S3
        refine wp_region_held_drew (S := (fun W => W.cell? ⟨w1.heap.size, 0, none⟩ = some (.slice va n vc))) (by kernel_rfl) y1 (fun hS0 => ?_)
        refine wpAnyH_take (i := 0) (v := ?_) rfl (by kernel_rfl) (by kernel_rfl) (by kernel_rfl) (fun _ _ _ h => h) (Or.inl ⟨by rfl, ?_⟩) hS0 ?_
        rotate_left
        · (intro W hSw; (try dsimp only at hSw); go_simp; try (with_reducible rfl))
        try simp only [Act.put, List.getElem_toArray, List.getElem_cons_succ, List.getElem_cons_zero, List.setIfInBounds_toArray, List.set_cons_zero, List.set_cons_succ]
        refine wpAnyH_take (i := 1) (v := ?_) rfl (by kernel_rfl) (by kernel_rfl) (by kernel_rfl) (fun _ _ _ h => h) (Or.inl ⟨by rfl, ?_⟩) hS0 ?_
        rotate_left
        · (intro W hSw; (try dsimp only at hSw); go_simp; try (with_reducible rfl))
        try simp only [Act.put, List.getElem_toArray, List.getElem_cons_succ, List.getElem_cons_zero, List.setIfInBounds_toArray, List.set_cons_zero, List.set_cons_succ]
        refine wpAnyH_take (i := 2) (v := ?_) rfl (by kernel_rfl) (by kernel_rfl) (by kernel_rfl) (fun _ _ _ h => h) (Or.inl ⟨by rfl, ?_⟩) hS0 ?_
        rotate_left
        · (intro W hSw; (try dsimp only at hSw); go_simp; try (with_reducible rfl))
        try simp only [Act.put, List.getElem_toArray, List.getElem_cons_succ, List.getElem_cons_zero, List.setIfInBounds_toArray, List.set_cons_zero, List.set_cons_succ]
        refine wpAnyH_ready (rs := [3]) (by kernel_rfl) (by simp) ?_
        refine AllReadyH.cons rfl (fun K hK => ?_) (AllReadyH.nil)
        go_simp
        refine hK.out _ _ ?_ (fun hS9 => ?_)
        · exact drewC HS3.out
        clear hK K
        try simp only [Act.put, List.getElem_toArray, List.getElem_cons_succ, List.getElem_cons_zero, List.setIfInBounds_toArray, List.set_cons_zero, List.set_cons_succ]
        refine wpAnyH_done (by kernel_rfl) ?_ _
        go_wp2
        refine bodyPost_ret (results_tmp_row rfl _ _ w.heap.size 39 _ (0, 0) _ _ rfl rfl ZF.out Tryd.underlying39 rfl (by kernel_rfl)) rfl ?_
        exact ⟨_, _, _, _, (((⟨root, mod, init, mode, stamp, size, hash, body⟩ : Cmp), (.slice xa body.length xc : Value)) :: B ++ [((⟨root, mod, init, mode, stamp, size, hash, body⟩ : Cmp), (.slice xa body.length xc : Value))]), _, rfl, HSF.out, (by have := HMM.out; simp only [List.length_cons, List.length_append, List.length_nil]; omega), (fun r hr => (HSM.out r (hin r hr)).1), HRF.out, by omega, GGF.out.os, GGF.out.tape, GGF.out.output, GGF.out.size, GGF.out.block⟩
      · have q1 : (k == 1) = false := by simp [h1]
        by_cases h2 : k = 2
        · subst h2
          have HONE := Lib.hid (one_lit g _ [-1, 3] w2 hr2 (by omega) (by decide) (by decide))
          go_wp2_with fail
          refine HONE.out.mono ?_
          rintro e w3 ⟨q, rfl, hq, hr3, hg3⟩
          have hg3' : w2.grownBy w3 (some g) := hg3
          have hoT := HO.out.keepR hg3' (by omega)
          have z03 := keep_blk HZ0.out hg3' (by omega)
          have z13 := keep_blk HZ1.out hg3' (by omega)
          have gg3 := grown_tr gg2 hg3'
          obtain ⟨b', c0', ee, hbb', hbl', hcc', hcell, hfr⟩ := own_rowK (A := []) (K := 8) (enc := eCp) (fun _ => rfl) hoT.1
          injection ee with e1 e2 e3
          injection e1 with e1
          injection e1 with e1
          clear e2 e3 hcc'
          subst e1
          clear c0 c1 c2 c3 c4 c5 c6 c7 f3 f6 x1 xf1
          have c3 := hcell 3 _ rfl
          have f3 := hfr 3
          simp only [List.length_nil, Nat.zero_mul, Nat.zero_add] at c3 f3
          have o1 := OwnN.set (A := []) (j := 3) (u := .int .i64 q) (x' := ((⟨root, mod, init, q, stamp, size, hash, body⟩ : Cmp), (.slice xa body.length xc : Value))) hoT (fun _ => rfl) rfl (by decide) rfl rfl rfl
          simp only [List.length_nil, Nat.zero_mul, Nat.zero_add] at o1
          have z0 := set_other (b' := b) (o := 3) (v := .int .i64 q) z03 (by omega)
          have z1 := set_other (b' := b) (o := 3) (v := .int .i64 q) z13 (by omega)
          have hr4 := hr3.grown (grown_set w3 b 3 (.int .i64 q)) (fun y hy => by injection hy with hy; omega)
          have gg4 := grown_fresh gg3 (grown_set w3 b 3 (.int .i64 q)) (by omega)
          obtain ⟨WW, hWW⟩ : ∃ WW, WW = w3.setCell ⟨b, 3, none⟩ (.int .i64 q) := ⟨_, rfl⟩
          rw [← hWW] at o1 z0 z1 hr4 gg4
          have HWW := Lib.hid hWW
          have O1 := Lib.hid o1
          have Z0 := Lib.hid z0
          have Z1 := Lib.hid z1
          have y1 := (row1 z1).1
          obtain ⟨y0, yf0⟩ := row1 z0
          clear hWW o1 z0 z1 z03 z13 hoT hq hcell hfr
          go_wp2
          rw [← HWW.out]
          have hSF := (StR.keepZ (w' := WW.setCell ⟨w.heap.size, 0, none⟩ (.slice va n vc)) (OwnN.stR O1.out) (fun i h1 _ => Below.heap_setCell _ _ _ i (by show i ≠ w.heap.size; omega))).monoZ (lo' := w.heap.size + 1) (hi' := (WW.setCell ⟨w.heap.size, 0, none⟩ (.slice va n vc)).heap.size) (Nat.le_refl _) (by simp [World.setCell])
          have hRF := (hr4).grown (grown_set WW w.heap.size 0 (.slice va n vc)) (fun b hb => by injection hb with hb; omega)
          have ggF := grown_fresh (gg4) (grown_set WW w.heap.size 0 (.slice va n vc)) (Nat.le_refl _)
          have S3 : (WW.setCell ⟨w.heap.size, 0, none⟩ (.slice va n vc)).cell? ⟨w1.heap.size, 0, none⟩ = some (.slice va n vc) := by
            rw [World.cell?_setCell_far _ _ _ _ (by show w.heap.size ≠ w1.heap.size; omega)]; exact (row1 (Z1.out)).1
          have HSF := Lib.hid hSF
          have HRF := Lib.hid hRF
          have GGF := Lib.hid ggF
          have HS3 := Lib.hid S3
          have ZF := Lib.hid (drewH (heap_set1 (b0 := .slice va n vc) (Z0.out)))
          clear hSF hRF ggF S3
          refine wp_region_held_drew (S := (fun W => W.cell? ⟨w1.heap.size, 0, none⟩ = some (.slice va n vc))) (by kernel_rfl) y1 (fun hS0 => ?_)
          refine wpAnyH_take (i := 0) (v := ?_) rfl (by kernel_rfl) (by kernel_rfl) (by kernel_rfl) (fun _ _ _ h => h) (Or.inl ⟨by rfl, ?_⟩) hS0 ?_
          rotate_left
          · (intro W hSw; (try dsimp only at hSw); go_simp; try (with_reducible rfl))
          try simp only [Act.put, List.getElem_toArray, List.getElem_cons_succ, List.getElem_cons_zero, List.setIfInBounds_toArray, List.set_cons_zero, List.set_cons_succ]
          refine wpAnyH_take (i := 1) (v := ?_) rfl (by kernel_rfl) (by kernel_rfl) (by kernel_rfl) (fun _ _ _ h => h) (Or.inl ⟨by rfl, ?_⟩) hS0 ?_
          rotate_left
          · (intro W hSw; (try dsimp only at hSw); go_simp; try (with_reducible rfl))
          try simp only [Act.put, List.getElem_toArray, List.getElem_cons_succ, List.getElem_cons_zero, List.setIfInBounds_toArray, List.set_cons_zero, List.set_cons_succ]
          refine wpAnyH_take (i := 2) (v := ?_) rfl (by kernel_rfl) (by kernel_rfl) (by kernel_rfl) (fun _ _ _ h => h) (Or.inl ⟨by rfl, ?_⟩) hS0 ?_
          rotate_left
          · (intro W hSw; (try dsimp only at hSw); go_simp; try (with_reducible rfl))
          try simp only [Act.put, List.getElem_toArray, List.getElem_cons_succ, List.getElem_cons_zero, List.setIfInBounds_toArray, List.set_cons_zero, List.set_cons_succ]
          refine wpAnyH_ready (rs := [3]) (by kernel_rfl) (by simp) ?_
          refine AllReadyH.cons rfl (fun K hK => ?_) (AllReadyH.nil)
          go_simp
          refine hK.out _ _ ?_ (fun hS9 => ?_)
          · exact drewC HS3.out
          clear hK K
          try simp only [Act.put, List.getElem_toArray, List.getElem_cons_succ, List.getElem_cons_zero, List.setIfInBounds_toArray, List.set_cons_zero, List.set_cons_succ]
          refine wpAnyH_done (by kernel_rfl) ?_ _
          go_wp2
          refine bodyPost_ret (results_tmp_row rfl _ _ w.heap.size 39 _ (0, 0) _ _ rfl rfl ZF.out Tryd.underlying39 rfl (by kernel_rfl)) rfl ?_
          exact ⟨_, _, _, _, ((⟨root, mod, init, q, stamp, size, hash, body⟩ : Cmp), (.slice xa body.length xc : Value)) :: B, _, rfl, HSF.out, (by have := HMM.out; simp only [List.length_cons]; omega), (fun r hr => (List.mem_cons.1 hr).elim (fun q => by rw [q]; exact hsx.1) (fun q => (HSM.out r (List.mem_cons_of_mem _ q)).1)), HRF.out, by omega, GGF.out.os, GGF.out.tape, GGF.out.output, GGF.out.size, GGF.out.block⟩
        · have q2 : (k == 2) = false := by simp [h2]
          obtain ⟨y0, yf0⟩ := row1 HZ0.out
          clear h0 h1 h2
          go_wp2
          have hSF := (StR.keepZ (w' := w2.setCell ⟨w.heap.size, 0, none⟩ (.slice va n vc)) (OwnN.stR HO.out) (fun i h1 _ => Below.heap_setCell _ _ _ i (by show i ≠ w.heap.size; omega))).monoZ (lo' := w.heap.size + 1) (hi' := (w2.setCell ⟨w.heap.size, 0, none⟩ (.slice va n vc)).heap.size) (Nat.le_refl _) (by simp [World.setCell])
          have hRF := (hr2).grown (grown_set w2 w.heap.size 0 (.slice va n vc)) (fun b hb => by injection hb with hb; omega)
          have ggF := grown_fresh (gg2) (grown_set w2 w.heap.size 0 (.slice va n vc)) (Nat.le_refl _)
          have S3 : (w2.setCell ⟨w.heap.size, 0, none⟩ (.slice va n vc)).cell? ⟨w1.heap.size, 0, none⟩ = some (.slice va n vc) := by
            rw [World.cell?_setCell_far _ _ _ _ (by show w.heap.size ≠ w1.heap.size; omega)]; exact (row1 (HZ1.out)).1
          have HSF := Lib.hid hSF
          have HRF := Lib.hid hRF
          have GGF := Lib.hid ggF
          have HS3 := Lib.hid S3
          have ZF := Lib.hid (drewH (heap_set1 (b0 := .slice va n vc) (HZ0.out)))
          clear hSF hRF ggF S3
          refine wp_region_held_drew (S := (fun W => W.cell? ⟨w1.heap.size, 0, none⟩ = some (.slice va n vc))) (by kernel_rfl) x1 (fun hS0 => ?_)
          refine wpAnyH_take (i := 0) (v := ?_) rfl (by kernel_rfl) (by kernel_rfl) (by kernel_rfl) (fun _ _ _ h => h) (Or.inl ⟨by rfl, ?_⟩) hS0 ?_
          rotate_left
          · (intro W hSw; (try dsimp only at hSw); go_simp; try (with_reducible rfl))
          try simp only [Act.put, List.getElem_toArray, List.getElem_cons_succ, List.getElem_cons_zero, List.setIfInBounds_toArray, List.set_cons_zero, List.set_cons_succ]
          refine wpAnyH_take (i := 1) (v := ?_) rfl (by kernel_rfl) (by kernel_rfl) (by kernel_rfl) (fun _ _ _ h => h) (Or.inl ⟨by rfl, ?_⟩) hS0 ?_
          rotate_left
          · (intro W hSw; (try dsimp only at hSw); go_simp; try (with_reducible rfl))
          try simp only [Act.put, List.getElem_toArray, List.getElem_cons_succ, List.getElem_cons_zero, List.setIfInBounds_toArray, List.set_cons_zero, List.set_cons_succ]
          refine wpAnyH_take (i := 2) (v := ?_) rfl (by kernel_rfl) (by kernel_rfl) (by kernel_rfl) (fun _ _ _ h => h) (Or.inl ⟨by rfl, ?_⟩) hS0 ?_
          rotate_left
          · (intro W hSw; (try dsimp only at hSw); go_simp; try (with_reducible rfl))
          try simp only [Act.put, List.getElem_toArray, List.getElem_cons_succ, List.getElem_cons_zero, List.setIfInBounds_toArray, List.set_cons_zero, List.set_cons_succ]
          refine wpAnyH_ready (rs := [3]) (by kernel_rfl) (by simp) ?_
          refine AllReadyH.cons rfl (fun K hK => ?_) (AllReadyH.nil)
          go_simp
          refine hK.out _ _ ?_ (fun hS9 => ?_)
          · exact drewC HS3.out
          clear hK K
          try simp only [Act.put, List.getElem_toArray, List.getElem_cons_succ, List.getElem_cons_zero, List.setIfInBounds_toArray, List.set_cons_zero, List.set_cons_succ]
          refine wpAnyH_done (by kernel_rfl) ?_ _
          go_wp2
          refine bodyPost_ret (results_tmp_row rfl _ _ w.heap.size 39 _ (0, 0) _ _ rfl rfl ZF.out Tryd.underlying39 rfl (by kernel_rfl)) rfl ?_
          exact ⟨_, _, _, _, ((⟨root, mod, init, mode, stamp, size, hash, body⟩ : Cmp), (.slice xa body.length xc : Value)) :: B, _, rfl, HSF.out, (by have := HMM.out; simp only [List.length_cons]; omega), (fun r hr => (List.mem_cons.1 hr).elim (fun q => by rw [q]; exact hsx.1) (fun q => (HSM.out r (List.mem_cons_of_mem _ q)).1)), HRF.out, by omega, GGF.out.os, GGF.out.tape, GGF.out.output, GGF.out.size, GGF.out.block⟩
end Go.Proofs.YtbknhodjcgnfnaaDoor
