/-
  Walks: disks changed, by a file that is added or removed. Printed by diske.py.
-/
import Derived.Test.YtepljjaienpepaaDoorDiskDZ
import Derived.Laws.ResultCell
namespace Imp
open Go Go.RowKit
theorem own_typed {α : Type} {w : World} {base e k b t : Nat} {enc : α → List Value} {v : Value} {L : List α} {cs : Array Value} (h : Own w base e k enc v L) (hb : v.ownBlock = some b) (hz : w.heap[b]? = some (.cells cs t (0, 0))) : e = t := by
  rcases h.2 with ⟨hv, _⟩ | ⟨g, cap, cur, hv, _, hh, _⟩
  · rw [hv] at hb; cases hb
  · rw [hv] at hb
    have hb : some g = some b := hb
    injection hb with hb
    subst hb
    rw [hz] at hh
    injection hh with hh
    injection hh with _ h2 _
    exact h2.symm
theorem own_is {α : Type} {w : World} {base e k b : Nat} {enc : α → List Value} {v : Value} {L : List α} (h : Own w base e k enc v L) (hb : v.ownBlock = some b) : ∃ cs, w.heap[b]? = some (.cells cs e (0, 0)) := by
  rcases h.2 with ⟨hv, _⟩ | ⟨g, cap, cur, hv, _, hh, _⟩
  · rw [hv] at hb; cases hb
  · rw [hv] at hb
    have hb : some g = some b := hb
    injection hb with hb
    subst hb
    exact ⟨_, hh⟩
theorem ownN_typed {w : World} {base tO K tI kI b t : Nat} {α β : Type} {enc : α × Value → List Value} {encI : β → List Value} {inner : α → List β} {v : Value} {M : List (α × Value)} {cs : Array Value}
    (h : OwnN w base tO K enc tI kI encI inner v M) (hb : ownsN v M b) (hz : w.heap[b]? = some (.cells cs t (0, 0))) : tO = t ∨ tI = t := by
  rcases hb with hb | ⟨r, hr, hb⟩
  · exact Or.inl (own_typed h.1 hb hz)
  · exact Or.inr (own_typed (h.2.1 r hr) hb hz)
theorem FlR.monoD {w : World} {lo hi lo' hi' : Nat} {v : Value} {M : List FR} (h : FlR w lo hi v M) (h1 : lo' ≤ lo) (h2 : hi ≤ hi') : FlR w lo' hi' v M :=
  ⟨SlR.mono h.1 h1 h2, fun r hr => SlR.mono (h.2 r hr) h1 h2⟩
theorem DsR.monoD {w : World} {lo hi lo' hi' : Nat} {v : Value} {M : List DR} (h : DsR w lo hi v M) (h1 : lo' ≤ lo) (h2 : hi ≤ hi') : DsR w lo' hi' v M :=
  ⟨SlR.mono h.1 h1 h2, fun r hr => SlR.mono (h.2 r hr) h1 h2⟩
theorem FlR.keepD {w w' : World} {lo hi : Nat} {v : Value} {M : List FR} (h : FlR w lo hi v M) (hs : Same lo hi w w') : FlR w' lo hi v M := ⟨h.1.keep hs, fun r hr => SlR.keep (h.2 r hr) hs⟩
theorem results_row_tmpD {P : Program} {fn : Func} {p u : Tmp} {ty : TypeId} (h : fn.results = #[.cell p ty, .tmp u]) (tmps : Array Value) (w : World) (g : Nat) (t : TypeId) (cs : Array Value) (fr : Nat × Nat) (d : TypeDesc) (x : Value)
    (hp : tmps.getD p undef = .pointer (some ⟨g, 0, none⟩)) (hx : tmps.getD u undef = x) (hg : w.heap[g]? = some (.cells cs t fr))
    (hu : P.underlying ty = some d) (hd : (match d with | .struct _ | .array _ _ => true | _ => false) = true) (hi : (P.info? ty).map (·.size) = some cs.size) :
    (results fn tmps).run P w = .ok (.tuple #[.agg cs, x]) w := by
  have hp' : tmps[p]?.getD undef = .pointer (some ⟨g, 0, none⟩) := by simpa using hp
  have hx' : tmps[u]?.getD undef = x := by simpa using hx
  simp [results, h, hp', hx', asAddr, run_loadVar_row w g t ty cs fr d hg hu hd hi]
theorem pkg_small {p : ByteArray} (h : vPkg (bs p) = true) : p.size ≤ 11 := by
  unfold vPkg at h
  rw [Bool.or_eq_true] at h
  rcases h with h | h
  · rw [List.isEmpty_iff] at h
    have := bs_length p
    rw [h] at this
    simp at this; omega
  · have := vName_length h
    rw [bs_length] at this; exact this
theorem okDirs_small {st nm : Int} {T : List Dr} (h : okDirs st nm T = true) : T.length ≤ 20 ∧ ∀ d ∈ T, d.pkg.size ≤ 11 ∧ (d.names.length : Int) ≤ nm := by
  rw [okDirs_iff] at h
  refine ⟨h.2.2, fun d hd => ?_⟩
  have := h.1 d hd
  unfold okDr at this
  simp only [Bool.and_eq_true, Bool.not_eq_true', decide_eq_false_iff_not] at this
  exact ⟨pkg_small this.1.1.2, by omega⟩
theorem okFil_pkg {f : Fil} (h : okFil f = true) : vPkg (bs f.pkg) = true := by
  unfold okFil at h
  simp only [Bool.and_eq_true] at h
  exact h.1.1.1.2
theorem okTree_mem {T : List Fil} (h : okTree T = true) {f : Fil} (hf : f ∈ T) : okFil f = true := ((okTree_iff _).1 h).1 f hf
end Imp
namespace Go.Proofs.YtepljjaienpepaaDoor
open Go Go.RowKit Imp
set_option linter.unusedVariables false
set_option linter.unusedSimpArgs false
theorem smF_Fd {r : FR} (h : SmFd r.1) : SmF r := by
  obtain ⟨h1, h2, h3, h4⟩ := h
  exact ⟨by omega, by omega, fun s hs => by obtain ⟨q1, q2, _⟩ := h2 s hs; unfold szSt; omega⟩
def DChg (w : World) (v2 : Value) (T2 : List FR) (c : Int) (e : Ending) (w' : World) : Prop :=
  Gr w w' ∧ ((∃ u, ∃ M : List DR, e = .returned (.tuple #[vDk v2 c u, .bool true]) ∧ OwnD w' w.heap.size 34 9 u M ∧ okDisk (T2.map (·.1)) c (M.map (·.1)) = true) ∨ e = .returned (.tuple #[vDk (.slice none 0 0) 0 (.slice none 0 0), .bool false]))
set_option maxHeartbeats 6400000 in
set_option maxRecDepth 10000 in
theorem schanged_any {lo hi lo2 hi2 : Nat} (ta : Option Addr) (tn tc : Nat) (clock : Int) (dv : Value) (D : List DR) (v2 : Value) (T2 : List FR) (root : Int) (p : ByteArray) (ticks : Int) (w : World) (hok : OkW w)
    (hd : DsR w lo hi dv D) (hhi : hi ≤ w.heap.size) (ht2 : FlR w lo2 hi2 v2 T2) (hhi2 : hi2 ≤ w.heap.size) (hDl : D.length ≤ 20) (hDn : ∀ r ∈ D, r.1.names.length ≤ 1000) (hDp : ∀ r ∈ D, r.1.pkg.size ≤ 11) (hsm : ∀ r ∈ T2, SmF r)
    (hp : vPkg (bs p) = true) (hc : 0 ≤ clock ∧ clock ≤ 1000) (htk : 0 ≤ ticks ∧ ticks ≤ 1000) :
    Calls Tryd.prog 52 #[vDk (.slice ta tn tc) clock dv, .agg #[v2], .int .i64 root, .string p, .int .i64 ticks] w (DChg w v2 T2 (clock + ticks)) := by
  obtain ⟨t2a, t2c, rfl, _, _⟩ := ht2.1.form
  obtain ⟨da, dc, rfl, _, _⟩ := hd.1.form
  have hg3 : Gr w (((w.alloc (.cells #[.slice ta tn tc, .int .i64 clock, .slice da D.length dc] 28)).alloc (.cells #[.slice t2a T2.length t2c] 25)).alloc (.cells #[.slice none 0 0, .int .i64 0, .slice none 0 0] 28)) := gr_alloc3 w _ _ _
  have hz0 : (((w.alloc (.cells #[.slice ta tn tc, .int .i64 clock, .slice da D.length dc] 28)).alloc (.cells #[.slice t2a T2.length t2c] 25)).alloc (.cells #[.slice none 0 0, .int .i64 0, .slice none 0 0] 28)).heap[w.heap.size]? = some (.cells #[.slice ta tn tc, .int .i64 clock, .slice da D.length dc] 28) := ((gr_al ((w.alloc (.cells #[.slice ta tn tc, .int .i64 clock, .slice da D.length dc] 28)).alloc (.cells #[.slice t2a T2.length t2c] 25)) (.cells #[.slice none 0 0, .int .i64 0, .slice none 0 0] 28)).block w.heap.size (by simp <;> omega)).trans ((Below.heap_alloc (w.alloc (.cells #[.slice ta tn tc, .int .i64 clock, .slice da D.length dc] 28)) (.cells #[.slice t2a T2.length t2c] 25) w.heap.size (by simp)).trans (heap_alloc_new w (.cells #[.slice ta tn tc, .int .i64 clock, .slice da D.length dc] 28)))
  have hz1 : (((w.alloc (.cells #[.slice ta tn tc, .int .i64 clock, .slice da D.length dc] 28)).alloc (.cells #[.slice t2a T2.length t2c] 25)).alloc (.cells #[.slice none 0 0, .int .i64 0, .slice none 0 0] 28)).heap[w.heap.size + 1]? = some (.cells #[.slice t2a T2.length t2c] 25) := heap_alloc3_mid w _ _ _
  have hz2 : (((w.alloc (.cells #[.slice ta tn tc, .int .i64 clock, .slice da D.length dc] 28)).alloc (.cells #[.slice t2a T2.length t2c] 25)).alloc (.cells #[.slice none 0 0, .int .i64 0, .slice none 0 0] 28)).heap[w.heap.size + 1 + 1]? = some (.cells #[.slice none 0 0, .int .i64 0, .slice none 0 0] 28) := heap_alloc3_new w _ _ _
  obtain ⟨WW, hWW⟩ : ∃ WW, WW = (((w.alloc (.cells #[.slice ta tn tc, .int .i64 clock, .slice da D.length dc] 28)).alloc (.cells #[.slice t2a T2.length t2c] 25)).alloc (.cells #[.slice none 0 0, .int .i64 0, .slice none 0 0] 28)) := ⟨_, rfl⟩
  have hWs : WW.heap.size = w.heap.size + 3 := by rw [hWW]; simp
  rw [← hWW] at hg3 hz0 hz1 hz2
  have hcp := fun W (h : Gr WW W) => scopyDirs_own (.slice da D.length dc) D W (hd.below (hg3.tr h) hhi) (Nat.le_trans hhi (hg3.tr h).size) (by omega) hDn
  have hcs : ∀ W, Gr WW W → (W.cell? ⟨w.heap.size, 0, none⟩ = some (.slice ta tn tc) ∧ W.cell? ⟨w.heap.size, 1, none⟩ = some (.int .i64 clock) ∧ W.cell? ⟨w.heap.size, 2, none⟩ = some (.slice da D.length dc)) ∧ W.cell? ⟨w.heap.size + 1, 0, none⟩ = some (.slice t2a T2.length t2c) := fun W h => ⟨(rows3 ((h.block _ (by omega)).trans hz0)).1, (row1 ((h.block _ (by omega)).trans hz1)).1⟩
  have hws : IntKind.i64.wrap (clock + ticks) = clock + ticks := IntWalk.i64_in _ (by omega)
  have HCP := Lib.hid hcp
  have HCS := Lib.hid hcs
  have HZ2 := Lib.hid hz2
  have HWW := Lib.hid hWW
  have HWS := Lib.hid hWs
  have HDP := Lib.hid hDp
  have HSM := Lib.hid hsm
  clear hcp hcs hz0 hz1 hz2 hWW hDp hDn hWs hsm
  go_enter Tryd.func52, Tryd.ntmps52
  go_wp2
  rw [← HWW.out]
  go_cut [12] from 13 (fun s12 wa => ∃ (ua : Option Addr) (uc b12 : Nat) (M : List DR), s12 = .pointer (some ⟨b12, 0, none⟩) ∧ wa.heap[b12]? = some (.cells #[.slice t2a T2.length t2c, .int .i64 (clock + ticks), .slice ua M.length uc] 28) ∧ M.map (·.1) = D.map (·.1) ∧ OwnD wa (w.heap.size + 3) 34 9 (.slice ua M.length uc) M ∧ w.heap.size + 3 ≤ b12 ∧ Gr WW wa)
  case first =>
    refine wp_region_held_drew (S := (fun W => (W.cell? ⟨w.heap.size, 0, none⟩ = some (.slice ta tn tc) ∧ W.cell? ⟨w.heap.size, 1, none⟩ = some (.int .i64 clock) ∧ W.cell? ⟨w.heap.size, 2, none⟩ = some (.slice da D.length dc)) ∧ W.cell? ⟨w.heap.size + 1, 0, none⟩ = some (.slice t2a T2.length t2c))) (by kernel_rfl) (HCS.out _ (below_drewN (Gr.rfl' _) 1)) (fun hS0 => ?_)
    refine wpAnyH_take (i := 0) (v := ?_) rfl (by kernel_rfl) (by kernel_rfl) (by kernel_rfl) (fun _ _ _ h => h) (Or.inl ⟨by rfl, ?_⟩) hS0 ?_
    rotate_left
    · (intro W hSw; (try dsimp only at hSw); go_simp; try (with_reducible rfl))
    try simp only [Act.put, List.getElem_toArray, List.getElem_cons_succ, List.getElem_cons_zero, List.setIfInBounds_toArray, List.set_cons_zero, List.set_cons_succ]
    refine wpAnyH_take (i := 1) (v := ?_) rfl (by kernel_rfl) (by kernel_rfl) (by kernel_rfl) (fun _ _ _ h => h) (Or.inl ⟨by rfl, ?_⟩) hS0 ?_
    rotate_left
    · (intro W hSw; (try dsimp only at hSw); go_simp; try (with_reducible rfl))
    try simp only [Act.put, List.getElem_toArray, List.getElem_cons_succ, List.getElem_cons_zero, List.setIfInBounds_toArray, List.set_cons_zero, List.set_cons_succ]
    refine wpAnyH_take (i := 2) (v := ?_) rfl (by kernel_rfl) (by kernel_rfl) (by kernel_rfl) (fun _ _ _ h => h) (Or.inl ⟨by rfl, ?_⟩) hS0 ?_
    rotate_left
    · (intro W hSw; (try dsimp only at hSw); go_simp; try (with_reducible rfl))
    try simp only [Act.put, List.getElem_toArray, List.getElem_cons_succ, List.getElem_cons_zero, List.setIfInBounds_toArray, List.set_cons_zero, List.set_cons_succ]
    refine wpAnyH_take (i := 3) (v := ?_) rfl (by kernel_rfl) (by kernel_rfl) (by kernel_rfl) (fun _ _ _ h => h) (Or.inl ⟨by rfl, ?_⟩) hS0 ?_
    rotate_left
    · (intro W hSw; (try dsimp only at hSw); go_simp; try (with_reducible rfl))
    try simp only [Act.put, List.getElem_toArray, List.getElem_cons_succ, List.getElem_cons_zero, List.setIfInBounds_toArray, List.set_cons_zero, List.set_cons_succ]
    refine wpAnyH_take (i := 4) (v := ?_) rfl (by kernel_rfl) (by kernel_rfl) (by kernel_rfl) (fun _ _ _ h => h) (Or.inl ⟨by rfl, ?_⟩) hS0 ?_
    rotate_left
    · (intro W hSw; (try dsimp only at hSw); go_simp; try (with_reducible rfl))
    try simp only [Act.put, List.getElem_toArray, List.getElem_cons_succ, List.getElem_cons_zero, List.setIfInBounds_toArray, List.set_cons_zero, List.set_cons_succ]
    refine wpAnyH_take (i := 5) (v := ?_) rfl (by kernel_rfl) (by kernel_rfl) (by kernel_rfl) (fun _ _ _ h => h) (Or.inl ⟨by rfl, ?_⟩) hS0 ?_
    rotate_left
    · (intro W hSw; (try dsimp only at hSw); go_simp; try (with_reducible rfl))
    try simp only [Act.put, List.getElem_toArray, List.getElem_cons_succ, List.getElem_cons_zero, List.setIfInBounds_toArray, List.set_cons_zero, List.set_cons_succ]
    refine wpAnyH_take (i := 6) (v := ?_) rfl (by kernel_rfl) (by kernel_rfl) (by kernel_rfl) (fun _ _ _ h => h) (Or.inl ⟨by rfl, ?_⟩) hS0 ?_
    rotate_left
    · (intro W hSw; (try dsimp only at hSw); go_simp; try (with_reducible rfl))
    try simp only [Act.put, List.getElem_toArray, List.getElem_cons_succ, List.getElem_cons_zero, List.setIfInBounds_toArray, List.set_cons_zero, List.set_cons_succ]
    refine wpAnyH_ready (rs := [7, 9]) (by kernel_rfl) (by simp) ?_
    refine AllReadyH.cons rfl (fun K hK => ?_) (AllReadyH.cons rfl (fun K hK => ?_) (AllReadyH.nil))
    · skip
      go_simp
      refine (HCP.out _ ((below_drewN (Gr.rfl' _) 1))).mono ?_
      rintro e w4 ⟨u4, M, rfl, hM, ho4, hb4⟩
      obtain ⟨ua, uc, e4, _, _⟩ := ho4.1.form
      subst e4
      have HM := Lib.hid hM
      clear hM
      refine hK.out _ _ (HCS.out _ ((show Gr WW _ from (below_drewN (Gr.rfl' _) 1)).tr hb4)) (fun hS1 => ?_)
      clear hK K
      try simp only [Act.put, List.getElem_toArray, List.getElem_cons_succ, List.getElem_cons_zero, List.setIfInBounds_toArray, List.set_cons_zero, List.set_cons_succ]
      refine wpAnyH_take (i := 8) (v := ?_) rfl (by kernel_rfl) (by kernel_rfl) (by kernel_rfl) (fun _ _ _ h => h) (Or.inl ⟨by rfl, ?_⟩) hS1 ?_
      rotate_left
      · (intro W hSw; (try dsimp only at hSw); go_simp; try (with_reducible rfl))
      try simp only [Act.put, List.getElem_toArray, List.getElem_cons_succ, List.getElem_cons_zero, List.setIfInBounds_toArray, List.set_cons_zero, List.set_cons_succ]
      refine wpAnyH_ready (rs := [9]) (by kernel_rfl) (by simp) ?_
      refine AllReadyH.cons rfl (fun K hK => ?_) (AllReadyH.nil)
      go_simp
      have gB := gr_al w4 (.cells #[.slice none 0 0, .int .i64 0, .slice none 0 0] 28)
      have hgW : Gr WW w4 := (show Gr WW _ from below_drewN (Gr.rfl' _) 1).tr hb4
      refine hK.out _ _ (HCS.out _ (hgW.tr gB)) (fun hS2 => ?_)
      clear hK K
      try simp only [Act.put, List.getElem_toArray, List.getElem_cons_succ, List.getElem_cons_zero, List.setIfInBounds_toArray, List.set_cons_zero, List.set_cons_succ]
      refine wpAnyH_ready (rs := [10]) (by kernel_rfl) (by simp) ?_
      refine AllReadyH.cons rfl (fun K hK => ?_) (AllReadyH.nil)
      go_simp
      have gC := gr_al w4 (.cells #[.slice t2a T2.length t2c, .int .i64 (clock + ticks), .slice ua M.length uc] 28)
      refine hK.out _ _ (HCS.out _ (hgW.tr gC)) (fun hS3 => ?_)
      clear hK K
      try simp only [Act.put, List.getElem_toArray, List.getElem_cons_succ, List.getElem_cons_zero, List.setIfInBounds_toArray, List.set_cons_zero, List.set_cons_succ]
      refine wpAnyH_done (by kernel_rfl) ?_ _
      have hs4 := hb4.size
      simp only [World.drewN, World.drew] at hs4
      go_wp2_with fail
      go_meet
      have hws4 := HWS.out
      case rel => exact ⟨ua, uc, w4.heap.size, M, rfl, heap_alloc_new w4 (.cells #[.slice t2a T2.length t2c, .int .i64 (clock + ticks), .slice ua M.length uc] 28), HM.out, (ho4.mono (by simp only [World.drewN, World.drew]; omega)).gr gC, by omega, hgW.tr gC⟩
    · skip
      go_simp
      have gA := gr_al (WW.drewN 1) (.cells #[.slice none 0 0, .int .i64 0, .slice none 0 0] 28)
      have hgA : Gr WW ((WW.drewN 1).alloc (.cells #[.slice none 0 0, .int .i64 0, .slice none 0 0] 28)) := (show Gr WW _ from below_drewN (Gr.rfl' _) 1).tr gA
      have zA : ((WW.drewN 1).alloc (.cells #[.slice none 0 0, .int .i64 0, .slice none 0 0] 28)).heap[WW.heap.size]? = some (.cells #[.slice none 0 0, .int .i64 0, .slice none 0 0] 28) := heap_alloc_new (WW.drewN 1) (.cells #[.slice none 0 0, .int .i64 0, .slice none 0 0] 28)
      have HZA := Lib.hid zA
      clear zA
      refine hK.out _ _ (HCS.out _ hgA) (fun hS2 => ?_)
      clear hK K
      try simp only [Act.put, List.getElem_toArray, List.getElem_cons_succ, List.getElem_cons_zero, List.setIfInBounds_toArray, List.set_cons_zero, List.set_cons_succ]
      refine wpAnyH_ready (rs := [7]) (by kernel_rfl) (by simp) ?_
      refine AllReadyH.cons rfl (fun K hK => ?_) (AllReadyH.nil)
      go_simp
      refine (HCP.out _ (hgA)).mono ?_
      rintro e w4 ⟨u4, M, rfl, hM, ho4, hb4⟩
      obtain ⟨ua, uc, e4, _, _⟩ := ho4.1.form
      subst e4
      have HM := Lib.hid hM
      clear hM
      refine hK.out _ _ (HCS.out _ ((show Gr WW _ from hgA).tr hb4)) (fun hS1 => ?_)
      clear hK K
      try simp only [Act.put, List.getElem_toArray, List.getElem_cons_succ, List.getElem_cons_zero, List.setIfInBounds_toArray, List.set_cons_zero, List.set_cons_succ]
      refine wpAnyH_take (i := 8) (v := ?_) rfl (by kernel_rfl) (by kernel_rfl) (by kernel_rfl) (fun _ _ _ h => h) (Or.inl ⟨by rfl, ?_⟩) hS1 ?_
      rotate_left
      · (intro W hSw; (try dsimp only at hSw); go_simp; try (with_reducible rfl))
      try simp only [Act.put, List.getElem_toArray, List.getElem_cons_succ, List.getElem_cons_zero, List.setIfInBounds_toArray, List.set_cons_zero, List.set_cons_succ]
      have hgW : Gr WW w4 := hgA.tr hb4
      have z4 := (hb4.block _ (lt_of_block HZA.out)).trans HZA.out
      obtain ⟨_, m0, m1, m2⟩ := rows3 z4
      have hput := put3 z4 (.slice t2a T2.length t2c) (.int .i64 (clock + ticks)) (.slice ua M.length uc)
      have HPUT := Lib.hid hput
      clear hput z4
      have hgP : Gr w4 w4 := Gr.rfl' _
      have hcsP : ∀ W, w4.grownBy W (some WW.heap.size) → (W.cell? ⟨w.heap.size, 0, none⟩ = some (.slice ta tn tc) ∧ W.cell? ⟨w.heap.size, 1, none⟩ = some (.int .i64 clock) ∧ W.cell? ⟨w.heap.size, 2, none⟩ = some (.slice da D.length dc)) ∧ W.cell? ⟨w.heap.size + 1, 0, none⟩ = some (.slice t2a T2.length t2c) := fun W h => by
        have q1 := HCS.out w4 hgW
        have hws4 := HWS.out
        refine ⟨⟨?_, ?_, ?_⟩, ?_⟩
        · exact (h.cell q1.1.1 (by intro y; injection y with y; have y : w.heap.size = WW.heap.size := y; omega))
        · exact (h.cell q1.1.2.1 (by intro y; injection y with y; have y : w.heap.size = WW.heap.size := y; omega))
        · exact (h.cell q1.1.2.2 (by intro y; injection y with y; have y : w.heap.size = WW.heap.size := y; omega))
        · exact (h.cell q1.2 (by intro y; injection y with y; have y : w.heap.size + 1 = WW.heap.size := y; omega))
      have HSP := Lib.hid hcsP
      clear hcsP
      refine wpAnyH_ready (rs := [10]) (by kernel_rfl) (by simp) ?_
      refine AllReadyH.cons rfl (fun K hK => ?_) (AllReadyH.nil)
      go_simp
      refine hK.out _ _ (HSP.out _ HPUT.out.2) (fun hS3 => ?_)
      clear hK K
      try simp only [Act.put, List.getElem_toArray, List.getElem_cons_succ, List.getElem_cons_zero, List.setIfInBounds_toArray, List.set_cons_zero, List.set_cons_succ]
      refine wpAnyH_done (by kernel_rfl) ?_ _
      have hs4 := hb4.size
      simp only [World.size_alloc, World.drewN, World.drew] at hs4
      have hgF : Gr WW _ := hgW.grown HPUT.out.2 hgW.size (fun b hb => by injection hb with hb; omega)
      go_wp2_with fail
      go_meet
      have hws4 := HWS.out
      case rel => exact ⟨ua, uc, WW.heap.size, M, rfl, HPUT.out.1, HM.out, (ho4.mono (by simp only [World.size_alloc, World.drewN, World.drew]; omega)).chg (p := fun b => b = WW.heap.size) (ChgN.of_grown HPUT.out.2 (fun b hb => by injection hb with hb; exact hb.symm)) (fun b hb y => by have h9 := (ho4.block b hb).1; simp only [World.size_alloc, World.drewN, World.drew] at h9; omega), by omega, hgF⟩
  case rest =>
    obtain ⟨ua, uc, b12, M, rfl, z12, hM, hO, hb12, hgc⟩ := hcut
    have hMl : M.length ≤ 20 := by have := congrArg List.length hM; simp only [List.length_map] at this; omega
    have hMp : ∀ r ∈ M, r.1.pkg.size ≤ 11 := fun r hr => by
      have h9 : r.1 ∈ D.map (·.1) := by rw [← hM]; exact List.mem_map_of_mem hr
      rw [List.mem_map] at h9
      obtain ⟨r', hr', e'⟩ := h9
      rw [← e']; exact HDP.out r' hr'
    have hne : ∀ b, ownsN (.slice ua M.length uc) M b → b ≠ b12 := fun b hb y => by
      subst y
      rcases ownN_typed hO hb z12 with z | z <;> exact absurd z (by decide)
    obtain ⟨⟨x0, x1, x2⟩, _⟩ := rows3 z12
    have hsc := hgc.size
    have hws3 := HWS.out
    have hob := hO.block
    have z10c := (hgc.block _ (lt_of_block HZ2.out)).trans HZ2.out
    have HST := Lib.hid (sstamped_own t2a T2.length t2c (clock + ticks) (.slice ua M.length uc) M root p wc hO (by omega) (by omega) hMp hp)
    have HZ12 := Lib.hid z12
    have HZ10 := Lib.hid z10c
    have HNE := Lib.hid hne
    clear hM z12 hMp hO hne z10c HCP HCS HDP
    go_wp2_with fail
    refine HST.out.mono ?_
    rintro e w5 ⟨u5, M5, rfl, hO5, hl5, hp5, hg5⟩
    obtain ⟨ub, uc5, rfl, _, _⟩ := hO5.1.form
    have z5 := (hg5.block b12 (lt_of_block HZ12.out) (fun y => HNE.out b12 (Or.inl y.symm) rfl)).trans HZ12.out
    have hne5 : ∀ b, ownsN (.slice ub M5.length uc5) M5 b → b ≠ b12 := fun b hb y => by
      subst y
      rcases ownN_typed hO5 hb z5 with z | z <;> exact absurd z (by decide)
    have z10 := (hg5.block (w.heap.size + 1 + 1) (lt_of_block HZ10.out) (fun y => by have := (hob _ (Or.inl y.symm)).1; omega)).trans HZ10.out
    clear x0 x1 x2
    obtain ⟨⟨x0, x1, x2⟩, m0, m1, m2⟩ := rows3 z5
    have hput := put3 z5 (.slice t2a T2.length t2c) (.int .i64 (clock + ticks)) (.slice ub M5.length uc5)
    have z10b := (hput.2.block (w.heap.size + 1 + 1) (lt_of_block z10) (by intro y; injection y with y; omega)).trans z10
    have hgw5 : Gr w w5 := (hg3.tr hgc).grown hg5 (hg3.tr hgc).size (fun b hb => by have := (hob _ (Or.inl hb)).1; omega)
    have hgw6 := hgw5.grown hput.2 hgw5.size (fun b hb => by injection hb with hb; omega)
    have hO6 := hO5.chg (p := fun b => b = b12) (ChgN.of_grown hput.2 (fun b hb => by injection hb with hb; exact hb.symm)) (fun b hb y => hne5 b hb y)
    obtain ⟨W6, hW6⟩ : ∃ W6, W6 = (((w5.setCell ⟨b12, 0, none⟩ (.slice t2a T2.length t2c)).setCell ⟨b12, 1, none⟩ (.int .i64 (clock + ticks))).setCell ⟨b12, 2, none⟩ (.slice ub M5.length uc5)) := ⟨_, rfl⟩
    rw [← hW6] at hput z10b hgw6 hO6
    have z6 := hput.1
    have hgw6 : Gr w W6 := hgw6
    have hvd := svalidDisk_any (lo := 0) (hi := W6.heap.size) (.slice t2a T2.length t2c) (.slice ub M5.length uc5) T2 (clock + ticks) M5 W6 (hok.gr hgw6) ((ht2.below hgw6 hhi2).monoD (Nat.zero_le _) (Nat.le_trans hhi2 hgw6.size)) ((OwnD.reads hO6).monoD (Nat.zero_le _) (Nat.le_refl _)) (Nat.le_refl _) HSM.out (fun r hr => by have := hp5 r hr; unfold SmD; omega)
    obtain ⟨R, hR⟩ : ∃ R, okDisk (T2.map (·.1)) (clock + ticks) (M5.map (·.1)) = R := ⟨_, rfl⟩
    rw [hR] at hvd
    have HR := Lib.hid hR
    have HVD := Lib.hid hvd
    have HW6 := Lib.hid hW6
    have HZ6 := Lib.hid z6
    have HZ10b := Lib.hid z10b
    have HO6 := Lib.hid hO6
    clear hR hvd hW6 z6 z10b hO6 hO5 hput hne5 z5 z10 HST
    go_wp2_with fail
    rw [← HW6.out]
    refine HVD.out.mono ?_
    rintro e w7 ⟨rfl, hb7⟩
    have z7 := (hb7.block _ (lt_of_block HZ6.out)).trans HZ6.out
    have z17 := (hb7.block _ (lt_of_block HZ10b.out)).trans HZ10b.out
    have hgw7 := hgw6.tr hb7
    clear x0 x1 x2 m0 m1 m2
    obtain ⟨⟨x0, x1, x2⟩, _⟩ := rows3 z7
    obtain ⟨⟨p0, p1, p2⟩, n0, n1, n2⟩ := rows3 z17
    cases R
    · have HP := Lib.hid (put3 z17 (.slice none 0 0) (.int .i64 0) (.slice none 0 0))
      clear z7 z17
      go_wp2
      refine bodyPost_ret (results_row_tmpD rfl _ _ (w.heap.size + 1 + 1) 28 _ (0, 0) _ _ rfl rfl HP.out.1 Tryd.underlying28 rfl (by kernel_rfl)) rfl ?_
      exact ⟨hgw7.grown HP.out.2 hgw7.size (fun b hb => by injection hb with hb; omega), Or.inr rfl⟩
    · have HP := Lib.hid (put3 z17 (.slice t2a T2.length t2c) (.int .i64 (clock + ticks)) (.slice ub M5.length uc5))
      have hO7 := (OwnN.gr HO6.out hb7).chg (p := fun b => b = w.heap.size + 1 + 1) (ChgN.of_grown HP.out.2 (fun b hb => by injection hb with hb; exact hb.symm)) (fun b hb y => by have := (HO6.out.block b hb).1; omega)
      have HO7 := Lib.hid hO7
      clear z7 z17 hO7
      go_wp2
      refine bodyPost_ret (results_row_tmpD rfl _ _ (w.heap.size + 1 + 1) 28 _ (0, 0) _ _ rfl rfl HP.out.1 Tryd.underlying28 rfl (by kernel_rfl)) rfl ?_
      exact ⟨hgw7.grown HP.out.2 hgw7.size (fun b hb => by injection hb with hb; omega), Or.inl ⟨_, M5, rfl, HO7.out.mono (by omega), HR.out⟩⟩
def DkO (w : World) (base : Nat) (tv : Value) (c : Int) (dv : Value) (T : List FR) (D : List DR) : Prop :=
  OwnN w base 55 6 eF 78 5 eSt Fil.body tv T ∧ OwnD w base 34 9 dv D ∧ okDisk (T.map (·.1)) c (D.map (·.1)) = true ∧ ∀ r ∈ T, SmFd r.1
def DDk (w : World) (e : Ending) (w' : World) : Prop := Gr w w' ∧ ∃ tv c dv T D ok, e = .returned (.tuple #[vDk tv c dv, .bool ok]) ∧ DkO w' w.heap.size tv c dv T D
theorem dkO_nil (w : World) (base : Nat) : DkO w base (.slice none 0 0) 0 (.slice none 0 0) [] [] :=
  ⟨OwnN.nil _ (Own.nil _ _ _ _ _), OwnN.nil _ (Own.nil _ _ _ _ _), rfl, by simp⟩
set_option maxHeartbeats 6400000 in
set_option maxRecDepth 10000 in
theorem sDiskAdd_any {lo hi lo2 hi2 : Nat} (tv dv : Value) (T : List FR) (clock : Int) (D : List DR) (f : Fil) (fv : Value) (ticks : Int) (w : World) (hok : OkW w) (ht : FlR w lo hi tv T) (hd : DsR w lo hi dv D) (hhi : hi ≤ w.heap.size)
    (hf : SlR w lo2 hi2 5 eSt fv f.body) (hhi2 : hi2 ≤ w.heap.size) (hv : okDisk (T.map (·.1)) clock (D.map (·.1)) = true) (hst : ∀ r ∈ T, SmFd r.1) (hsf : SmFd f) (htk : 0 ≤ ticks ∧ ticks ≤ 200) :
    Calls Tryd.prog 37 #[vDk tv clock dv, vF (f, fv), .int .i64 ticks] w (DDk w) := by
  obtain ⟨ta, tc, rfl, _, _⟩ := ht.1.form
  obtain ⟨da, dc, rfl, _, _⟩ := hd.1.form
  obtain ⟨fa, fc, rfl, _, _⟩ := hf.form
  obtain ⟨hv1, hv2, hv3⟩ := (okDisk_iff _ _ _).1 hv
  obtain ⟨hdl, hdd⟩ := okDirs_small hv3
  have hTl : T.length ≤ 12 := by have := ((okTree_iff _).1 hv1).2.2; simpa using this
  have hDl : D.length ≤ 20 := by simpa using hdl
  have hDm : ∀ r ∈ D, r.1.pkg.size ≤ 11 ∧ (r.1.names.length : Int) ≤ 0 := fun r hr => hdd r.1 (List.mem_map_of_mem hr)
  have hg3 : Gr w (((w.alloc (.cells #[.slice ta T.length tc, .int .i64 clock, .slice da D.length dc] 28)).alloc (.cells #[.int .i64 f.root, .string f.pkg, .string f.name, .bool f.init, .int .i64 f.stamp, .slice fa f.body.length fc] 55)).alloc (.cells #[.slice none 0 0, .int .i64 0, .slice none 0 0] 28)) := gr_alloc3 w _ _ _
  have hz0 : (((w.alloc (.cells #[.slice ta T.length tc, .int .i64 clock, .slice da D.length dc] 28)).alloc (.cells #[.int .i64 f.root, .string f.pkg, .string f.name, .bool f.init, .int .i64 f.stamp, .slice fa f.body.length fc] 55)).alloc (.cells #[.slice none 0 0, .int .i64 0, .slice none 0 0] 28)).heap[w.heap.size]? = some (.cells #[.slice ta T.length tc, .int .i64 clock, .slice da D.length dc] 28) := ((gr_al ((w.alloc (.cells #[.slice ta T.length tc, .int .i64 clock, .slice da D.length dc] 28)).alloc (.cells #[.int .i64 f.root, .string f.pkg, .string f.name, .bool f.init, .int .i64 f.stamp, .slice fa f.body.length fc] 55)) (.cells #[.slice none 0 0, .int .i64 0, .slice none 0 0] 28)).block w.heap.size (by simp <;> omega)).trans ((Below.heap_alloc (w.alloc (.cells #[.slice ta T.length tc, .int .i64 clock, .slice da D.length dc] 28)) (.cells #[.int .i64 f.root, .string f.pkg, .string f.name, .bool f.init, .int .i64 f.stamp, .slice fa f.body.length fc] 55) w.heap.size (by simp)).trans (heap_alloc_new w (.cells #[.slice ta T.length tc, .int .i64 clock, .slice da D.length dc] 28)))
  have hz1 : (((w.alloc (.cells #[.slice ta T.length tc, .int .i64 clock, .slice da D.length dc] 28)).alloc (.cells #[.int .i64 f.root, .string f.pkg, .string f.name, .bool f.init, .int .i64 f.stamp, .slice fa f.body.length fc] 55)).alloc (.cells #[.slice none 0 0, .int .i64 0, .slice none 0 0] 28)).heap[w.heap.size + 1]? = some (.cells #[.int .i64 f.root, .string f.pkg, .string f.name, .bool f.init, .int .i64 f.stamp, .slice fa f.body.length fc] 55) := heap_alloc3_mid w _ _ _
  have hz2 : (((w.alloc (.cells #[.slice ta T.length tc, .int .i64 clock, .slice da D.length dc] 28)).alloc (.cells #[.int .i64 f.root, .string f.pkg, .string f.name, .bool f.init, .int .i64 f.stamp, .slice fa f.body.length fc] 55)).alloc (.cells #[.slice none 0 0, .int .i64 0, .slice none 0 0] 28)).heap[w.heap.size + 1 + 1]? = some (.cells #[.slice none 0 0, .int .i64 0, .slice none 0 0] 28) := heap_alloc3_new w _ _ _
  have hWs : (((w.alloc (.cells #[.slice ta T.length tc, .int .i64 clock, .slice da D.length dc] 28)).alloc (.cells #[.int .i64 f.root, .string f.pkg, .string f.name, .bool f.init, .int .i64 f.stamp, .slice fa f.body.length fc] 55)).alloc (.cells #[.slice none 0 0, .int .i64 0, .slice none 0 0] 28)).heap.size = w.heap.size + 3 := by simp
  have hvd := fun W (h : Gr w W) => svalidDisk_any _ _ T clock D W (hok.gr h) (ht.below h hhi) (hd.below h hhi) (Nat.le_trans hhi h.size) (fun r hr => smF_Fd (hst r hr)) (fun r hr => by have := (hDm r hr).1; unfold SmD; omega)
  rw [hv] at hvd
  have hrg : ∀ W, Calls Tryd.prog 19 #[.int .i64 ticks, .int .i64 0, .int .i64 200] W fun e w' => e = .returned (.bool true) ∧ w' = W := fun W => (inRange_any ticks 0 200 W).mono (fun e w' h => by
    obtain ⟨h1, h2⟩ := h
    rw [decide_eq_true htk.1, decide_eq_true htk.2] at h1
    exact ⟨h1, by first | exact h2 | exact h2.symm⟩)
  have haf := fun W (h : Gr w W) => sAddFile_any _ T f _ W (hok.gr h) (ht.below h hhi) (Nat.le_trans hhi h.size) (SlR.below hf h hhi2) (Nat.le_trans hhi2 h.size) (by omega) (fun r hr => by have := (hst r hr).1; omega) (by have := hsf.1; omega) (fun r hr => smF_Fd (hst r hr)) (smF_Fd (r := (f, .slice fa f.body.length fc)) hsf)
  rw [hv1, Bool.true_and] at haf
  have hch := fun (u : Value) (M : List FR) lo3 hi3 W (h : Gr w W) (hM : FlR W lo3 hi3 u M) (h3 : hi3 ≤ W.heap.size) (hs : ∀ r ∈ M, SmFd r.1) (hp : vPkg (bs f.pkg) = true) => schanged_any ta T.length tc clock (.slice da D.length dc) D u M f.root f.pkg ticks W (hok.gr h) (hd.below h hhi) (Nat.le_trans hhi h.size) hM h3 (by omega) (fun r hr => by have := (hDm r hr).2; omega) (fun r hr => (hDm r hr).1) (fun r hr => smF_Fd (hs r hr)) hp ⟨hv2.1, by omega⟩ ⟨htk.1, by omega⟩
  obtain ⟨B, hB⟩ : ∃ B, okTree (T.map (·.1) ++ [f]) = B := ⟨_, rfl⟩
  rw [hB] at haf
  obtain ⟨⟨x0, x1, x2⟩, _⟩ := rows3 hz0
  have HB := Lib.hid hB
  have HZ0 := Lib.hid hz0
  have HZ1 := Lib.hid hz1
  have HZ2 := Lib.hid hz2
  have HV := Lib.hid hvd
  have HRG := Lib.hid hrg
  have HAF := Lib.hid haf
  have HCH := Lib.hid hch
  have HST := Lib.hid hst
  have HWS := Lib.hid hWs
  clear hB hz0 hz1 hz2 hvd hrg haf hch hst hDm hdd hv hv1 hv3 hdl hWs
  go_enter Tryd.func37, Tryd.ntmps37
  go_wp2_with fail
  refine (HV.out _ hg3).mono ?_
  rintro e w2 ⟨rfl, hb2⟩
  have hg2 := hg3.tr hb2
  clear x0 x1 x2
  have y0 := (hb2.block _ (lt_of_block HZ0.out)).trans HZ0.out
  have y1 := (hb2.block _ (lt_of_block HZ1.out)).trans HZ1.out
  have y2 := (hb2.block _ (lt_of_block HZ2.out)).trans HZ2.out
  obtain ⟨⟨x0, x1, x2⟩, _⟩ := rows3 y0
  obtain ⟨⟨f0, f1, f2, f3, f4, f5⟩, _⟩ := rows6 y1
  have hl0 := lt_of_block y0
  have hs2 := hb2.size
  rw [HWS.out] at hs2
  have HY0 := Lib.hid y0
  have HY1 := Lib.hid y1
  have HY2 := Lib.hid y2
  clear y0 y1 y2
  go_wp2_with fail
  refine (HRG.out _).mono ?_
  rintro e w' ⟨rfl, rfl⟩
  go_wp2_with fail
  refine (HAF.out _ hg2).mono ?_
  rintro e w3 ⟨u, M, rfl, hM, hO, hb3⟩
  obtain ⟨ua, uc, rfl, _, _⟩ := hO.1.form
  have g8 := gr_al w3 (.cells #[.slice ua M.length uc] 25)
  have z8 := heap_alloc_new w3 (.cells #[.slice ua M.length uc] 25)
  have hg8 := hb3.tr g8
  have hgw8 := hg2.tr hg8
  have y0 := (hg8.block _ (lt_of_block HY0.out)).trans HY0.out
  have y1 := (hg8.block _ (lt_of_block HY1.out)).trans HY1.out
  have y2 := (hg8.block _ (lt_of_block HY2.out)).trans HY2.out
  clear x0 x1 x2 f0 f1 f2 f3 f4 f5
  obtain ⟨⟨x0, x1, x2⟩, _⟩ := rows3 y0
  obtain ⟨⟨f0, f1, f2, f3, f4, f5⟩, _⟩ := rows6 y1
  obtain ⟨⟨p0, p1, p2⟩, n0, n1, n2⟩ := rows3 y2
  obtain ⟨t8, _⟩ := row1 z8
  have hs8 := hg8.size
  simp only [World.size_alloc] at hs8
  have HM := Lib.hid hM
  have HO := Lib.hid hO
  clear hM hO y0 y1 z8
  cases B
  · have HP := Lib.hid (put3 y2 (.slice none 0 0) (.int .i64 0) (.slice none 0 0))
    clear y2
    go_wp2
    refine bodyPost_ret (results_row_tmpD rfl _ _ (w.heap.size + 1 + 1) 28 _ (0, 0) _ _ rfl rfl HP.out.1 Tryd.underlying28 rfl (by kernel_rfl)) rfl ?_
    exact ⟨hgw8.grown HP.out.2 hgw8.size (fun b hb => by injection hb with hb; omega), _, _, _, [], [], _, rfl, dkO_nil _ _⟩
  · have hMs : ∀ r ∈ M, SmFd r.1 := fun r hr => by
      have h9 : r.1 ∈ T.map (·.1) ++ [f] := by have := HM.out; simp only [↓reduceIte] at this; rw [← this]; exact List.mem_map_of_mem hr
      rw [List.mem_append, List.mem_singleton] at h9
      rcases h9 with h9 | h9
      · rw [List.mem_map] at h9
        obtain ⟨r', hr', e'⟩ := h9
        rw [← e']; exact HST.out r' hr'
      · rw [h9]; exact hsf
    have hpk : vPkg (bs f.pkg) = true := okFil_pkg (okTree_mem HB.out (by simp))
    have hfl := (OwnN.flR HO.out).below g8 (Nat.le_refl _)
    have HFL := Lib.hid hfl
    have HMS := Lib.hid hMs
    have HY2b := Lib.hid y2
    clear hfl hMs y2
    go_wp2_with fail
    refine (HCH.out _ M _ _ _ hgw8 HFL.out g8.size HMS.out hpk).mono ?_
    rintro e w5 ⟨hg5, hcase⟩
    have y5 := (hg5.block _ (lt_of_block HY2b.out)).trans HY2b.out
    have hgw5 := hgw8.tr hg5
    have hl5 := hg5.size
    clear p0 p1 p2 n0 n1 n2
    obtain ⟨⟨p0, p1, p2⟩, n0, n1, n2⟩ := rows3 y5
    rcases hcase with ⟨u5, M5, rfl, hO5, hok5⟩ | rfl
    · obtain ⟨ub, uc5, rfl, _, _⟩ := hO5.1.form
      have HP := Lib.hid (put3 y5 (.slice ua M.length uc) (.int .i64 (clock + ticks)) (.slice ub M5.length uc5))
      have HO5 := Lib.hid hO5
      have HK5 := Lib.hid hok5
      clear y5 hO5 hok5
      go_wp2
      refine bodyPost_ret (results_row_tmpD rfl _ _ (w.heap.size + 1 + 1) 28 _ (0, 0) _ _ rfl rfl HP.out.1 Tryd.underlying28 rfl (by kernel_rfl)) rfl ?_
      refine ⟨hgw5.grown HP.out.2 hgw5.size (fun b hb => by injection hb with hb; omega), _, _, _, M, M5, _, rfl, ?_, ?_, HK5.out, HMS.out⟩
      · exact (((OwnN.gr HO.out g8).gr hg5).chg (p := fun b => b = w.heap.size + 1 + 1) (ChgN.of_grown HP.out.2 (fun b hb => by injection hb with hb; exact hb.symm)) (fun b hb y => by have := (HO.out.block b hb).1; omega)).mono (by omega)
      · exact (HO5.out.chg (p := fun b => b = w.heap.size + 1 + 1) (ChgN.of_grown HP.out.2 (fun b hb => by injection hb with hb; exact hb.symm)) (fun b hb y => by have := (HO5.out.block b hb).1; simp only [World.size_alloc] at this; omega)).mono (by simp only [World.size_alloc]; omega)
    · have HP := Lib.hid (put3 y5 (.slice none 0 0) (.int .i64 0) (.slice none 0 0))
      clear y5
      go_wp2
      refine bodyPost_ret (results_row_tmpD rfl _ _ (w.heap.size + 1 + 1) 28 _ (0, 0) _ _ rfl rfl HP.out.1 Tryd.underlying28 rfl (by kernel_rfl)) rfl ?_
      exact ⟨hgw5.grown HP.out.2 hgw5.size (fun b hb => by injection hb with hb; omega), _, _, _, [], [], _, rfl, dkO_nil _ _⟩
end Go.Proofs.YtepljjaienpepaaDoor
