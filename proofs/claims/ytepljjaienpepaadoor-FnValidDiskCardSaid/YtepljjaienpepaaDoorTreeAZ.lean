/-
  Walks: a file added to a tree, both packages. Printed by treea.py.
-/
import Derived.Test.YtepljjaienpepaaDoorTreeRZ
import Derived.Test.YtepljjaienpepaaDoorZ6
import Derived.Laws.ResultCell
namespace Imp
open Go Go.RowKit
theorem results_row_tmp {P : Program} {fn : Func} {p u : Tmp} {ty : TypeId} (h : fn.results = #[.cell p ty, .tmp u]) (tmps : Array Value) (w : World) (g : Nat) (t : TypeId) (cs : Array Value) (fr : Nat × Nat) (d : TypeDesc) (x : Value)
    (hp : tmps.getD p undef = .pointer (some ⟨g, 0, none⟩)) (hx : tmps.getD u undef = x) (hg : w.heap[g]? = some (.cells cs t fr))
    (hu : P.underlying ty = some d) (hd : (match d with | .struct _ | .array _ _ => true | _ => false) = true) (hi : (P.info? ty).map (·.size) = some cs.size) :
    (results fn tmps).run P w = .ok (.tuple #[.agg cs, x]) w := by
  have hp' : tmps[p]?.getD undef = .pointer (some ⟨g, 0, none⟩) := by simpa using hp
  have hx' : tmps[u]?.getD undef = x := by simpa using hx
  simp [results, h, hp', hx', asAddr, run_loadVar_row w g t ty cs fr d hg hu hd hi]
end Imp
namespace Imp
open Go Go.RowKit
theorem OwnN.flR2 {w : World} {base tF tS : Nat} {v : Value} {M : List FR} (h : OwnN w base tF 6 eF tS 5 eSt Fil.body v M) : FlR w base w.heap.size v M :=
  ⟨h.1.reads (fun _ _ => rfl), fun r hr => (h.2.1 r hr).reads (fun _ _ => rfl)⟩
end Imp
namespace Go.Proofs.YtepljjaienpepaaDoor
open Go Go.RowKit Imp
set_option linter.unusedVariables false
set_option linter.unusedSimpArgs false
theorem smF_of2 {L M : List FR} (h : ∀ r ∈ L, SmF r) (e : M.map (·.1) = L.map (·.1)) : ∀ r ∈ M, SmF r := by
  intro r hr
  have : r.1 ∈ L.map (·.1) := by rw [← e]; exact List.mem_map_of_mem hr
  rw [List.mem_map] at this
  obtain ⟨r', hr', e'⟩ := this
  have := h r' hr'
  unfold SmF at this ⊢
  rw [← e']; exact this
/-- A tree and whether it is one. -/
def DTb (w : World) (b : Bool) (T : List Fil) (e : Ending) (w' : World) : Prop :=
  ∃ u, ∃ M : List FR, e = .returned (.tuple #[.agg #[u], .bool b]) ∧ M.map (·.1) = (if b then T else []) ∧ OwnN w' (w.heap.size + 2) 55 6 eF 78 5 eSt Fil.body u M ∧ Gr w w'

set_option maxHeartbeats 3200000 in
theorem sAddFile_any {lo hi lo2 hi2 : Nat} (tv : Value) (L : List FR) (f : Fil) (fv : Value) (w : World) (hok : OkW w) (hv : FlR w lo hi tv L) (hhi : hi ≤ w.heap.size) (hf : SlR w lo2 hi2 5 eSt fv f.body) (hhi2 : hi2 ≤ w.heap.size)
    (hl : L.length ≤ 1048576) (hn : ∀ r ∈ L, r.1.body.length ≤ 1048576) (hfn : f.body.length ≤ 1048576) (hsm : ∀ r ∈ L, SmF r) (hsf : SmF (f, fv)) :
    Calls Tryd.prog 53 #[.agg #[tv], vF (f, fv)] w (DTb w (okTree (L.map (·.1)) && okTree (L.map (·.1) ++ [f])) (L.map (·.1) ++ [f])) := by
  obtain ⟨ta, tc, rfl, _, _⟩ := hv.1.form
  obtain ⟨fa, fc, rfl, _, _⟩ := hf.form
  have hg3 := gr_alloc3 w (.cells #[.slice ta L.length tc] 25) (.cells #[.int .i64 f.root, .string f.pkg, .string f.name, .bool f.init, .int .i64 f.stamp, .slice fa f.body.length fc] 55) (.cells #[.slice none 0 0] 25)
  have hz2 : (((w.alloc (.cells #[.slice ta L.length tc] 25)).alloc (.cells #[.int .i64 f.root, .string f.pkg, .string f.name, .bool f.init, .int .i64 f.stamp, .slice fa f.body.length fc] 55)).alloc (.cells #[.slice none 0 0] 25)).heap[w.heap.size + 2]? = some (.cells #[.slice none 0 0] 25) := heap_alloc3_new w _ _ _
  have hz1 : (((w.alloc (.cells #[.slice ta L.length tc] 25)).alloc (.cells #[.int .i64 f.root, .string f.pkg, .string f.name, .bool f.init, .int .i64 f.stamp, .slice fa f.body.length fc] 55)).alloc (.cells #[.slice none 0 0] 25)).heap[w.heap.size + 1]? = some (.cells #[.int .i64 f.root, .string f.pkg, .string f.name, .bool f.init, .int .i64 f.stamp, .slice fa f.body.length fc] 55) := heap_alloc3_mid w _ _ _
  have hz0 : (((w.alloc (.cells #[.slice ta L.length tc] 25)).alloc (.cells #[.int .i64 f.root, .string f.pkg, .string f.name, .bool f.init, .int .i64 f.stamp, .slice fa f.body.length fc] 55)).alloc (.cells #[.slice none 0 0] 25)).heap[w.heap.size]? = some (.cells #[.slice ta L.length tc] 25) := ((gr_al ((w.alloc (.cells #[.slice ta L.length tc] 25)).alloc (.cells #[.int .i64 f.root, .string f.pkg, .string f.name, .bool f.init, .int .i64 f.stamp, .slice fa f.body.length fc] 55)) (.cells #[.slice none 0 0] 25)).block w.heap.size (by simp <;> omega)).trans ((Below.heap_alloc (w.alloc (.cells #[.slice ta L.length tc] 25)) (.cells #[.int .i64 f.root, .string f.pkg, .string f.name, .bool f.init, .int .i64 f.stamp, .slice fa f.body.length fc] 55) w.heap.size (by simp)).trans (heap_alloc_new w (.cells #[.slice ta L.length tc] 25)))
  have hct := scopyTree_own (.slice ta L.length tc) L (((w.alloc (.cells #[.slice ta L.length tc] 25)).alloc (.cells #[.int .i64 f.root, .string f.pkg, .string f.name, .bool f.init, .int .i64 f.stamp, .slice fa f.body.length fc] 55)).alloc (.cells #[.slice none 0 0] 25)) (hv.below hg3 hhi) (Nat.le_trans hhi hg3.size) hl hn
  have hcf := fun W (h : Gr w W) => scopyFile_own f (.slice fa f.body.length fc) W (SlR.below hf h hhi2) (Nat.le_trans hhi2 h.size) hfn
  have hvt := fun W (h : Gr w W) => svalidTree_any (.slice ta L.length tc) L W (hok.gr h) (hv.below h hhi) (Nat.le_trans hhi h.size) hsm
  have hvu := fun lo' hi' vv (M : List FR) W (h : Gr w W) (hM : FlR W lo' hi' vv M) (hs : ∀ r ∈ M, SmF r) (hh : hi' ≤ W.heap.size) => svalidTree_any vv M W (hok.gr h) hM hh hs
  have H1 := Lib.hid hct
  have H2 := Lib.hid hcf
  have H4 := Lib.hid hvu
  have HSM := Lib.hid hsm
  obtain ⟨x0, _⟩ := row1 hz0
  have HZ0 := Lib.hid hz0
  have HZ1 := Lib.hid hz1
  have HZ2 := Lib.hid hz2
  obtain ⟨R1, hR1⟩ : ∃ R1, okTree (L.map (·.1)) = R1 := ⟨_, rfl⟩
  obtain ⟨R2, hR2⟩ : ∃ R2, okTree (L.map (·.1) ++ [f]) = R2 := ⟨_, rfl⟩
  rw [hR1, hR2]
  simp only [hR1] at hvt
  have H3 := Lib.hid hvt
  clear hct hcf hvt hvu hz0 hz1 hz2 hv hf hsm hn
  go_enter Tryd.func53, Tryd.ntmps53
  go_wp2_with fail
  refine H1.out.mono ?_
  rintro e w1 ⟨u, M, rfl, hM, hown, hb1⟩
  obtain ⟨ua, uc, rfl, _, _⟩ := hown.1.form
  simp only [World.size_alloc] at hown
  have hobl := hown.block
  have hg1 := hg3.tr hb1
  have hgo := gr_al w1 (.cells #[.slice ua M.length uc] 25)
  have hzo := heap_alloc_new w1 (.cells #[.slice ua M.length uc] 25)
  have hg2 := hg1.tr hgo
  have hgW := hb1.tr hgo
  have hown := hown.gr hgo
  have hMle : M.length ≤ 1048576 := by have := congrArg List.length hM; simp at this; omega
  have hz1 := (hgW.block _ (lt_of_block HZ1.out)).trans HZ1.out
  have hs1 : w.heap.size + 3 ≤ w1.heap.size := by have := hb1.size; simpa using this
  clear x0
  obtain ⟨xo, xfo⟩ := row1 hzo
  obtain ⟨⟨f0, f1, f2, f3, f4, f5⟩, _⟩ := rows6o hz1
  have hlo := lt_of_block hzo
  have HZO := Lib.hid hzo
  have HZ1a := Lib.hid hz1
  have hl2 := lt_of_block hzo
  have HZ2' := Lib.hid hzo
  have HO := Lib.hid hown
  have HOB := Lib.hid hobl
  have HM := Lib.hid hM
  clear hzo hown hobl hM hz1
  have hS : ∀ W, ChgN (fun b => w.heap.size + 3 ≤ b) (w1.alloc (.cells #[.slice ua M.length uc] 25)) W → ChgN (fun b => w.heap.size + 3 ≤ b) (w1.alloc (.cells #[.slice ua M.length uc] 25)) W ∧ (W.cell? ⟨w.heap.size + 1, 0, none⟩ = some (.int .i64 f.root) ∧ W.cell? ⟨w.heap.size + 1, 1, none⟩ = some (.string f.pkg) ∧ W.cell? ⟨w.heap.size + 1, 2, none⟩ = some (.string f.name) ∧ W.cell? ⟨w.heap.size + 1, 3, none⟩ = some (.bool f.init) ∧ W.cell? ⟨w.heap.size + 1, 4, none⟩ = some (.int .i64 f.stamp) ∧ W.cell? ⟨w.heap.size + 1, 5, none⟩ = some (.slice fa f.body.length fc)) := fun W h => ⟨h, (rows6o ((h.block _ (lt_of_block HZ1a.out) (by (try dsimp only); omega)).trans HZ1a.out)).1⟩
  have HS := Lib.hid hS
  clear hS
  go_wp2
  refine wp_region_held_drew (S := (fun W => ChgN (fun b => w.heap.size + 3 ≤ b) (w1.alloc (.cells #[.slice ua M.length uc] 25)) W ∧ (W.cell? ⟨w.heap.size + 1, 0, none⟩ = some (.int .i64 f.root) ∧ W.cell? ⟨w.heap.size + 1, 1, none⟩ = some (.string f.pkg) ∧ W.cell? ⟨w.heap.size + 1, 2, none⟩ = some (.string f.name) ∧ W.cell? ⟨w.heap.size + 1, 3, none⟩ = some (.bool f.init) ∧ W.cell? ⟨w.heap.size + 1, 4, none⟩ = some (.int .i64 f.stamp) ∧ W.cell? ⟨w.heap.size + 1, 5, none⟩ = some (.slice fa f.body.length fc)))) (by kernel_rfl) (HS.out _ (ChgN.of_gr (below_drewN (Gr.rfl' _) 1))) (fun hS0 => ?_)
  refine wpAnyH_take (i := 0) (v := ?_) rfl (by kernel_rfl) (by kernel_rfl) (by kernel_rfl) (fun _ _ _ h => h) (Or.inl ⟨by rfl, ?_⟩) hS0 ?_
  rotate_left
  · (intro W hSw; (try dsimp only at hSw); go_simp; try (with_reducible rfl))
  try simp only [Act.put, List.getElem_toArray, List.getElem_cons_succ, List.getElem_cons_zero, List.setIfInBounds_toArray, List.set_cons_zero, List.set_cons_succ]
  refine wpAnyH_take (i := 2) (v := ?_) rfl (by kernel_rfl) (by kernel_rfl) (by kernel_rfl) (fun _ _ _ h => h) (Or.inl ⟨by rfl, ?_⟩) hS0 ?_
  rotate_left
  · (intro W hSw; (try dsimp only at hSw); go_simp; try (with_reducible rfl))
  try simp only [Act.put, List.getElem_toArray, List.getElem_cons_succ, List.getElem_cons_zero, List.setIfInBounds_toArray, List.set_cons_zero, List.set_cons_succ]
  refine wpAnyH_ready (rs := [1, 3]) (by kernel_rfl) (by simp) ?_
  refine AllReadyH.cons rfl (fun K hK => ?_) (AllReadyH.cons rfl (fun K hK => ?_) (AllReadyH.nil))
  · skip
    go_simp
    refine hK.out _ _ (HS.out _ (ChgN.of_gr (below_drewN (Gr.rfl' _) 1))) (fun _ => ?_)
    clear hK K
    try simp only [Act.put, List.getElem_toArray, List.getElem_cons_succ, List.getElem_cons_zero, List.setIfInBounds_toArray, List.set_cons_zero, List.set_cons_succ]
    refine wpAnyH_ready (rs := [3]) (by kernel_rfl) (by simp) ?_
    refine AllReadyH.cons rfl (fun K hK => ?_) (AllReadyH.nil)
    go_simp
    refine (H2.out _ (below_drewN hg2 1)).mono ?_
    rintro e w5 ⟨u5, rfl, ho5, hb5⟩
    obtain ⟨a5, k5, e5, _, _⟩ := ho5.form
    subst e5
    have hgA : Gr (w1.alloc (.cells #[.slice ua M.length uc] 25)) w5 := (below_drewN (Gr.rfl' _) 1).trans hb5
    obtain ⟨x5, xf5⟩ := row1 ((hgA.block _ hl2).trans HZO.out)
    refine hK.out _ _ (HS.out _ (ChgN.of_gr hgA)) (fun _ => ?_)
    clear hK K
    try simp only [Act.put, List.getElem_toArray, List.getElem_cons_succ, List.getElem_cons_zero, List.setIfInBounds_toArray, List.set_cons_zero, List.set_cons_succ]
    refine wpAnyH_ready (rs := [4]) (by kernel_rfl) (by simp) ?_
    refine AllReadyH.cons rfl (fun K hK => ?_) (AllReadyH.nil)
    go_simp
    have hgB := hgA.tr (gr_al w5 (.cells #[.int .i64 f.root, .string f.pkg, .string f.name, .bool f.init, .int .i64 f.stamp, .slice a5 f.body.length k5] 55))
    obtain ⟨x6, xf6⟩ := row1 ((hgB.block _ hl2).trans HZO.out)
    refine hK.out _ _ (HS.out _ (ChgN.of_gr hgB)) (fun _ => ?_)
    clear hK K
    try simp only [Act.put, List.getElem_toArray, List.getElem_cons_succ, List.getElem_cons_zero, List.setIfInBounds_toArray, List.set_cons_zero, List.set_cons_succ]
    refine wpAnyH_ready (rs := [5]) (by kernel_rfl) (by simp) ?_
    refine AllReadyH.cons rfl (fun K hK => ?_) (AllReadyH.nil)
    have hown5 := HO.out.gr hgB
    have hsrc5 := SlR.oneO w5 w.heap.size w5.heap.size (f, .slice a5 f.body.length k5) 55 (enc := eF) (k := 6) rfl (by have := hgA.size; (try simp at this); omega) rfl
    have hz2a := (hgB.block _ hl2).trans HZO.out
    have hl2b := lt_of_block hz2a
    have hbase5 : w.heap.size + 1 + 1 + 1 + 2 ≤ (w5.alloc (.cells #[.int .i64 f.root, .string f.pkg, .string f.name, .bool f.init, .int .i64 f.stamp, .slice a5 f.body.length k5] 55)).heap.size := by have q1 := hgB.size; have q2 := hgA.size; (try simp only [World.size_alloc] at q1 q2 ⊢); omega
    refine step_app _ rfl (.tmp 10) (.tmp 13) ti_filO rfl (by simp [Act.eval]) hown5.1 (by simp [Act.eval]) hsrc5 (fun _ _ => rfl) (by simp [eF, Value.oneCell']) (by unfold maxLen; simp; omega) (by simp; omega) hbase5 ?_
    intro v9 w9 hown9 hg9 hat9
    obtain ⟨va9, vc9, hv9, _, _⟩ := hown9.form
    have hv9' : v9 = .slice va9 (M.length + 1) vc9 := by rw [hv9, List.length_append]; rfl
    clear hv9
    subst hv9'
    have hz2b := (hg9.block _ hl2b (by intro q; have := (HOB.out _ (Or.inl q.symm)).2; omega)).trans hz2a
    obtain ⟨y2, yf2⟩ := row1 hz2b
    have hch9 := (ChgN.of_gr (p := (fun b => w.heap.size + 3 ≤ b)) hgB).trans (ChgN.of_grown hg9 (fun b hb => by have := HOB.out b (Or.inl hb); (try dsimp only); omega))
    refine hK.out _ _ (HS.out _ hch9) (fun hS9 => ?_)
    clear hK K
    try simp only [Act.put, List.getElem_toArray, List.getElem_cons_succ, List.getElem_cons_zero, List.setIfInBounds_toArray, List.set_cons_zero, List.set_cons_succ]
    refine wpAnyH_take (i := 6) (v := ?_) rfl (by kernel_rfl) (by kernel_rfl) (by kernel_rfl) (fun _ _ _ h => h) (Or.inl ⟨by rfl, ?_⟩) hS9 ?_
    rotate_left
    · (intro W hSw; (try dsimp only at hSw); go_simp; try (with_reducible rfl))
    try simp only [Act.put, List.getElem_toArray, List.getElem_cons_succ, List.getElem_cons_zero, List.setIfInBounds_toArray, List.set_cons_zero, List.set_cons_succ]
    refine wpAnyH_ready (rs := [7]) (by kernel_rfl) (by simp) ?_
    refine AllReadyH.cons rfl (fun K hK => ?_) (AllReadyH.nil)
    go_simp
    refine hK.out _ _ (HS.out _ (hch9.trans (ChgN.set _ (w1.heap.size) 0 _ (by (try dsimp only); omega)))) (fun _ => ?_)
    clear hK K
    try simp only [Act.put, List.getElem_toArray, List.getElem_cons_succ, List.getElem_cons_zero, List.setIfInBounds_toArray, List.set_cons_zero, List.set_cons_succ]
    refine wpAnyH_done (by kernel_rfl) ?_ _
    have hlo5 : ∀ b, Value.ownBlock (.slice a5 f.body.length k5) = some b → w1.heap.size + 1 ≤ b := fun b hb => by
      have := (ho5.block b hb).1
      (try simp at this)
      omega
    have ho5' := (ho5.mono (base' := w.heap.size + 1 + 1 + 1 + 2) (by simp; omega)).alloc (.cells #[.int .i64 f.root, .string f.pkg, .string f.name, .bool f.init, .int .i64 f.stamp, .slice a5 f.body.length k5] 55)
    have o9 := OwnN.app (x := (f, .slice a5 f.body.length k5)) hown5 ho5' (fun b hb q => by have h1 := hlo5 b hb; have h2 := (HOB.out b q).2; omega) hown9 hg9 hat9
    have hne9 : ∀ b, ownsN (.slice va9 (M.length + 1) vc9) (M ++ [(f, .slice a5 f.body.length k5)]) b → b ≠ w1.heap.size := fun b hb q => by
      rcases hb with hb | ⟨r, hr, hb⟩
      · rcases hat9 with e | e
        · rw [e] at hb; have := (HOB.out b (Or.inl hb)).2; omega
        · rw [e] at hb; injection hb with hb; have := hgB.size; (try simp at this hb); omega
      · rw [List.mem_append, List.mem_singleton] at hr
        rcases hr with hr | rfl
        · have := (HOB.out b (Or.inr ⟨r, hr, hb⟩)).2; omega
        · have := hlo5 b hb; omega
    have o10 := o9.chg (ChgN.set w9 w1.heap.size 0 (.slice va9 (M.length + 1) vc9) (p := fun b => b = w1.heap.size) rfl) (fun b hb q => hne9 b hb q)
    have hgw9 : Gr w (w9.setCell ⟨w1.heap.size, 0, none⟩ (.slice va9 (M.length + 1) vc9)) := ((hg2.tr hgB).grown hg9 (hg2.tr hgB).size (fun b hb => by have := (HOB.out b (Or.inl hb)).1; omega)).setCell (p := ⟨w1.heap.size, 0, none⟩) (by show w.heap.size ≤ w1.heap.size; omega) (.slice va9 (M.length + 1) vc9)
    have hzt := heap_set1 (b0 := .slice va9 (M.length + 1) vc9) hz2b
    have hk0 := set_othero (b' := w1.heap.size) (o := 0) (v := .slice va9 (M.length + 1) vc9) ((hg9.block w.heap.size (Nat.lt_of_lt_of_le (by simp <;> omega) (hgW.tr hgB).size) (by intro q; have := (HOB.out _ (Or.inl q.symm)).1; omega)).trans (((hgW.tr hgB).block _ (lt_of_block HZ0.out)).trans HZ0.out)) (by omega)
    have hk2 := set_othero (b' := w1.heap.size) (o := 0) (v := .slice va9 (M.length + 1) vc9) ((hg9.block (w.heap.size + 2) (Nat.lt_of_lt_of_le (by simp <;> omega) (hgW.tr hgB).size) (by intro q; have := (HOB.out _ (Or.inl q.symm)).1; omega)).trans (((hgW.tr hgB).block _ (lt_of_block HZ2.out)).trans HZ2.out)) (by omega)
    have hTs : ∀ r ∈ M ++ [(f, Value.slice a5 f.body.length k5)], SmF r := fun r hr => by
      rw [List.mem_append, List.mem_singleton] at hr
      rcases hr with hr | rfl
      · exact smF_of2 HSM.out HM.out r hr
      · exact hsf
    have hTm : (M ++ [(f, Value.slice a5 f.body.length k5)]).map (·.1) = L.map (·.1) ++ [f] := by rw [List.map_append, HM.out]; rfl
    have O10 := Lib.hid o10
    have HK0 := Lib.hid hk0
    have HK2 := Lib.hid hk2
    have HZT := Lib.hid hzt
    have HTS := Lib.hid hTs
    have HTM := Lib.hid hTm
    obtain ⟨x0, _⟩ := row1 hk0
    clear o9 ho5' hown5 hown9 hsrc5 hz2a hz2b hg9 hat9 hne9 hlo5 ho5 hgA hgB hb5 y2 yf2 x5 xf5 x6 xf6 xo xfo f0 f1 f2 f3 f4 f5 hk0 hk2 hzt hTs hTm o10 HZO HO hch9 hl2b hbase5
    go_wp2_with fail
    refine (H3.out _ hgw9).mono ?_
    rintro e w11 ⟨rfl, hb11⟩
    have hgw11 := hgw9.tr hb11
    obtain ⟨xt, _⟩ := row1 ((hb11.block _ (lt_of_block HZT.out)).trans HZT.out)
    have hk2 := (hb11.block _ (lt_of_block HK2.out)).trans HK2.out
    obtain ⟨z2, zf2⟩ := row1 hk2
    clear x0
    cases R1
    all_goals first
      | (go_wp2
         refine bodyPost_ret (results_row_tmp rfl _ _ (w.heap.size + 2) 25 _ (0, 0) _ _ rfl rfl (heap_set1 hk2) Tryd.underlying25 rfl (by kernel_rfl)) rfl ?_
         exact ⟨_, [], rfl, rfl, OwnN.nil _ (Own.nil _ _ _ _ _), hgw11.setCell (by show w.heap.size ≤ w.heap.size + 2; omega) _⟩)
      | (have hv12 := H4.out _ _ _ _ _ hgw11 ((O10.out.gr hb11).flR2) HTS.out (Nat.le_refl _)
         rw [HTM.out, hR2] at hv12
         have HV12 := Lib.hid hv12
         clear hv12
         go_wp2_with fail
         refine HV12.out.mono ?_
         rintro e w12 ⟨rfl, hb12⟩
         have hgw12 := hgw11.tr hb12
         have hk3 := (hb12.block _ (lt_of_block hk2)).trans hk2
         clear z2 zf2
         obtain ⟨z2, zf2⟩ := row1 hk3
         have ht3 := ((hb11.tr hb12).block _ (lt_of_block HZT.out)).trans HZT.out
         clear xt
         obtain ⟨xt, _⟩ := row1 ht3
         have HK3 := Lib.hid hk3
         clear hk2 hk3 ht3
         cases R2
         · go_wp2
           refine bodyPost_ret (results_row_tmp rfl _ _ (w.heap.size + 2) 25 _ (0, 0) _ _ rfl rfl (heap_set1 HK3.out) Tryd.underlying25 rfl (by kernel_rfl)) rfl ?_
           exact ⟨_, [], rfl, rfl, OwnN.nil _ (Own.nil _ _ _ _ _), hgw12.setCell (by show w.heap.size ≤ w.heap.size + 2; omega) _⟩
         · go_wp2
           refine bodyPost_ret (results_row_tmp rfl _ _ (w.heap.size + 2) 25 _ (0, 0) _ _ rfl rfl (heap_set1 HK3.out) Tryd.underlying25 rfl (by kernel_rfl)) rfl ?_
           exact ⟨_, _, rfl, HTM.out, ((O10.out.gr (hb11.tr hb12)).chg (ChgN.set _ _ _ _ (p := fun b => b = w.heap.size + 2) rfl) (fun b hb q => by have := (O10.out.block b hb).1; omega)).mono (by omega), hgw12.setCell (by show w.heap.size ≤ w.heap.size + 2; omega) _⟩)
  · skip
    go_simp
    refine (H2.out _ (below_drewN hg2 1)).mono ?_
    rintro e w5 ⟨u5, rfl, ho5, hb5⟩
    obtain ⟨a5, k5, e5, _, _⟩ := ho5.form
    subst e5
    have hgA : Gr (w1.alloc (.cells #[.slice ua M.length uc] 25)) w5 := (below_drewN (Gr.rfl' _) 1).trans hb5
    obtain ⟨x5, xf5⟩ := row1 ((hgA.block _ hl2).trans HZO.out)
    refine hK.out _ _ (HS.out _ (ChgN.of_gr hgA)) (fun _ => ?_)
    clear hK K
    try simp only [Act.put, List.getElem_toArray, List.getElem_cons_succ, List.getElem_cons_zero, List.setIfInBounds_toArray, List.set_cons_zero, List.set_cons_succ]
    refine wpAnyH_ready (rs := [1, 4]) (by kernel_rfl) (by simp) ?_
    refine AllReadyH.cons rfl (fun K hK => ?_) (AllReadyH.cons rfl (fun K hK => ?_) (AllReadyH.nil))
    · skip
      go_simp
      refine hK.out _ _ (HS.out _ (ChgN.of_gr hgA)) (fun _ => ?_)
      clear hK K
      try simp only [Act.put, List.getElem_toArray, List.getElem_cons_succ, List.getElem_cons_zero, List.setIfInBounds_toArray, List.set_cons_zero, List.set_cons_succ]
      refine wpAnyH_ready (rs := [4]) (by kernel_rfl) (by simp) ?_
      refine AllReadyH.cons rfl (fun K hK => ?_) (AllReadyH.nil)
      go_simp
      have hgB := hgA.tr (gr_al w5 (.cells #[.int .i64 f.root, .string f.pkg, .string f.name, .bool f.init, .int .i64 f.stamp, .slice a5 f.body.length k5] 55))
      obtain ⟨x6, xf6⟩ := row1 ((hgB.block _ hl2).trans HZO.out)
      refine hK.out _ _ (HS.out _ (ChgN.of_gr hgB)) (fun _ => ?_)
      clear hK K
      try simp only [Act.put, List.getElem_toArray, List.getElem_cons_succ, List.getElem_cons_zero, List.setIfInBounds_toArray, List.set_cons_zero, List.set_cons_succ]
      refine wpAnyH_ready (rs := [5]) (by kernel_rfl) (by simp) ?_
      refine AllReadyH.cons rfl (fun K hK => ?_) (AllReadyH.nil)
      have hown5 := HO.out.gr hgB
      have hsrc5 := SlR.oneO w5 w.heap.size w5.heap.size (f, .slice a5 f.body.length k5) 55 (enc := eF) (k := 6) rfl (by have := hgA.size; (try simp at this); omega) rfl
      have hz2a := (hgB.block _ hl2).trans HZO.out
      have hl2b := lt_of_block hz2a
      have hbase5 : w.heap.size + 1 + 1 + 1 + 2 ≤ (w5.alloc (.cells #[.int .i64 f.root, .string f.pkg, .string f.name, .bool f.init, .int .i64 f.stamp, .slice a5 f.body.length k5] 55)).heap.size := by have q1 := hgB.size; have q2 := hgA.size; (try simp only [World.size_alloc] at q1 q2 ⊢); omega
      refine step_app _ rfl (.tmp 10) (.tmp 13) ti_filO rfl (by simp [Act.eval]) hown5.1 (by simp [Act.eval]) hsrc5 (fun _ _ => rfl) (by simp [eF, Value.oneCell']) (by unfold maxLen; simp; omega) (by simp; omega) hbase5 ?_
      intro v9 w9 hown9 hg9 hat9
      obtain ⟨va9, vc9, hv9, _, _⟩ := hown9.form
      have hv9' : v9 = .slice va9 (M.length + 1) vc9 := by rw [hv9, List.length_append]; rfl
      clear hv9
      subst hv9'
      have hz2b := (hg9.block _ hl2b (by intro q; have := (HOB.out _ (Or.inl q.symm)).2; omega)).trans hz2a
      obtain ⟨y2, yf2⟩ := row1 hz2b
      have hch9 := (ChgN.of_gr (p := (fun b => w.heap.size + 3 ≤ b)) hgB).trans (ChgN.of_grown hg9 (fun b hb => by have := HOB.out b (Or.inl hb); (try dsimp only); omega))
      refine hK.out _ _ (HS.out _ hch9) (fun hS9 => ?_)
      clear hK K
      try simp only [Act.put, List.getElem_toArray, List.getElem_cons_succ, List.getElem_cons_zero, List.setIfInBounds_toArray, List.set_cons_zero, List.set_cons_succ]
      refine wpAnyH_take (i := 6) (v := ?_) rfl (by kernel_rfl) (by kernel_rfl) (by kernel_rfl) (fun _ _ _ h => h) (Or.inl ⟨by rfl, ?_⟩) hS9 ?_
      rotate_left
      · (intro W hSw; (try dsimp only at hSw); go_simp; try (with_reducible rfl))
      try simp only [Act.put, List.getElem_toArray, List.getElem_cons_succ, List.getElem_cons_zero, List.setIfInBounds_toArray, List.set_cons_zero, List.set_cons_succ]
      refine wpAnyH_ready (rs := [7]) (by kernel_rfl) (by simp) ?_
      refine AllReadyH.cons rfl (fun K hK => ?_) (AllReadyH.nil)
      go_simp
      refine hK.out _ _ (HS.out _ (hch9.trans (ChgN.set _ (w1.heap.size) 0 _ (by (try dsimp only); omega)))) (fun _ => ?_)
      clear hK K
      try simp only [Act.put, List.getElem_toArray, List.getElem_cons_succ, List.getElem_cons_zero, List.setIfInBounds_toArray, List.set_cons_zero, List.set_cons_succ]
      refine wpAnyH_done (by kernel_rfl) ?_ _
      have hlo5 : ∀ b, Value.ownBlock (.slice a5 f.body.length k5) = some b → w1.heap.size + 1 ≤ b := fun b hb => by
        have := (ho5.block b hb).1
        (try simp at this)
        omega
      have ho5' := (ho5.mono (base' := w.heap.size + 1 + 1 + 1 + 2) (by simp; omega)).alloc (.cells #[.int .i64 f.root, .string f.pkg, .string f.name, .bool f.init, .int .i64 f.stamp, .slice a5 f.body.length k5] 55)
      have o9 := OwnN.app (x := (f, .slice a5 f.body.length k5)) hown5 ho5' (fun b hb q => by have h1 := hlo5 b hb; have h2 := (HOB.out b q).2; omega) hown9 hg9 hat9
      have hne9 : ∀ b, ownsN (.slice va9 (M.length + 1) vc9) (M ++ [(f, .slice a5 f.body.length k5)]) b → b ≠ w1.heap.size := fun b hb q => by
        rcases hb with hb | ⟨r, hr, hb⟩
        · rcases hat9 with e | e
          · rw [e] at hb; have := (HOB.out b (Or.inl hb)).2; omega
          · rw [e] at hb; injection hb with hb; have := hgB.size; (try simp at this hb); omega
        · rw [List.mem_append, List.mem_singleton] at hr
          rcases hr with hr | rfl
          · have := (HOB.out b (Or.inr ⟨r, hr, hb⟩)).2; omega
          · have := hlo5 b hb; omega
      have o10 := o9.chg (ChgN.set w9 w1.heap.size 0 (.slice va9 (M.length + 1) vc9) (p := fun b => b = w1.heap.size) rfl) (fun b hb q => hne9 b hb q)
      have hgw9 : Gr w (w9.setCell ⟨w1.heap.size, 0, none⟩ (.slice va9 (M.length + 1) vc9)) := ((hg2.tr hgB).grown hg9 (hg2.tr hgB).size (fun b hb => by have := (HOB.out b (Or.inl hb)).1; omega)).setCell (p := ⟨w1.heap.size, 0, none⟩) (by show w.heap.size ≤ w1.heap.size; omega) (.slice va9 (M.length + 1) vc9)
      have hzt := heap_set1 (b0 := .slice va9 (M.length + 1) vc9) hz2b
      have hk0 := set_othero (b' := w1.heap.size) (o := 0) (v := .slice va9 (M.length + 1) vc9) ((hg9.block w.heap.size (Nat.lt_of_lt_of_le (by simp <;> omega) (hgW.tr hgB).size) (by intro q; have := (HOB.out _ (Or.inl q.symm)).1; omega)).trans (((hgW.tr hgB).block _ (lt_of_block HZ0.out)).trans HZ0.out)) (by omega)
      have hk2 := set_othero (b' := w1.heap.size) (o := 0) (v := .slice va9 (M.length + 1) vc9) ((hg9.block (w.heap.size + 2) (Nat.lt_of_lt_of_le (by simp <;> omega) (hgW.tr hgB).size) (by intro q; have := (HOB.out _ (Or.inl q.symm)).1; omega)).trans (((hgW.tr hgB).block _ (lt_of_block HZ2.out)).trans HZ2.out)) (by omega)
      have hTs : ∀ r ∈ M ++ [(f, Value.slice a5 f.body.length k5)], SmF r := fun r hr => by
        rw [List.mem_append, List.mem_singleton] at hr
        rcases hr with hr | rfl
        · exact smF_of2 HSM.out HM.out r hr
        · exact hsf
      have hTm : (M ++ [(f, Value.slice a5 f.body.length k5)]).map (·.1) = L.map (·.1) ++ [f] := by rw [List.map_append, HM.out]; rfl
      have O10 := Lib.hid o10
      have HK0 := Lib.hid hk0
      have HK2 := Lib.hid hk2
      have HZT := Lib.hid hzt
      have HTS := Lib.hid hTs
      have HTM := Lib.hid hTm
      obtain ⟨x0, _⟩ := row1 hk0
      clear o9 ho5' hown5 hown9 hsrc5 hz2a hz2b hg9 hat9 hne9 hlo5 ho5 hgA hgB hb5 y2 yf2 x5 xf5 x6 xf6 xo xfo f0 f1 f2 f3 f4 f5 hk0 hk2 hzt hTs hTm o10 HZO HO hch9 hl2b hbase5
      go_wp2_with fail
      refine (H3.out _ hgw9).mono ?_
      rintro e w11 ⟨rfl, hb11⟩
      have hgw11 := hgw9.tr hb11
      obtain ⟨xt, _⟩ := row1 ((hb11.block _ (lt_of_block HZT.out)).trans HZT.out)
      have hk2 := (hb11.block _ (lt_of_block HK2.out)).trans HK2.out
      obtain ⟨z2, zf2⟩ := row1 hk2
      clear x0
      cases R1
      all_goals first
        | (go_wp2
           refine bodyPost_ret (results_row_tmp rfl _ _ (w.heap.size + 2) 25 _ (0, 0) _ _ rfl rfl (heap_set1 hk2) Tryd.underlying25 rfl (by kernel_rfl)) rfl ?_
           exact ⟨_, [], rfl, rfl, OwnN.nil _ (Own.nil _ _ _ _ _), hgw11.setCell (by show w.heap.size ≤ w.heap.size + 2; omega) _⟩)
        | (have hv12 := H4.out _ _ _ _ _ hgw11 ((O10.out.gr hb11).flR2) HTS.out (Nat.le_refl _)
           rw [HTM.out, hR2] at hv12
           have HV12 := Lib.hid hv12
           clear hv12
           go_wp2_with fail
           refine HV12.out.mono ?_
           rintro e w12 ⟨rfl, hb12⟩
           have hgw12 := hgw11.tr hb12
           have hk3 := (hb12.block _ (lt_of_block hk2)).trans hk2
           clear z2 zf2
           obtain ⟨z2, zf2⟩ := row1 hk3
           have ht3 := ((hb11.tr hb12).block _ (lt_of_block HZT.out)).trans HZT.out
           clear xt
           obtain ⟨xt, _⟩ := row1 ht3
           have HK3 := Lib.hid hk3
           clear hk2 hk3 ht3
           cases R2
           · go_wp2
             refine bodyPost_ret (results_row_tmp rfl _ _ (w.heap.size + 2) 25 _ (0, 0) _ _ rfl rfl (heap_set1 HK3.out) Tryd.underlying25 rfl (by kernel_rfl)) rfl ?_
             exact ⟨_, [], rfl, rfl, OwnN.nil _ (Own.nil _ _ _ _ _), hgw12.setCell (by show w.heap.size ≤ w.heap.size + 2; omega) _⟩
           · go_wp2
             refine bodyPost_ret (results_row_tmp rfl _ _ (w.heap.size + 2) 25 _ (0, 0) _ _ rfl rfl (heap_set1 HK3.out) Tryd.underlying25 rfl (by kernel_rfl)) rfl ?_
             exact ⟨_, _, rfl, HTM.out, ((O10.out.gr (hb11.tr hb12)).chg (ChgN.set _ _ _ _ (p := fun b => b = w.heap.size + 2) rfl) (fun b hb q => by have := (O10.out.block b hb).1; omega)).mono (by omega), hgw12.setCell (by show w.heap.size ≤ w.heap.size + 2; omega) _⟩)
    · skip
      go_simp
      have hgB := hgA.tr (gr_al w5 (.cells #[.int .i64 f.root, .string f.pkg, .string f.name, .bool f.init, .int .i64 f.stamp, .slice a5 f.body.length k5] 55))
      obtain ⟨x6, xf6⟩ := row1 ((hgB.block _ hl2).trans HZO.out)
      refine hK.out _ _ (HS.out _ (ChgN.of_gr hgB)) (fun _ => ?_)
      clear hK K
      try simp only [Act.put, List.getElem_toArray, List.getElem_cons_succ, List.getElem_cons_zero, List.setIfInBounds_toArray, List.set_cons_zero, List.set_cons_succ]
      refine wpAnyH_ready (rs := [1]) (by kernel_rfl) (by simp) ?_
      refine AllReadyH.cons rfl (fun K hK => ?_) (AllReadyH.nil)
      go_simp
      refine hK.out _ _ (HS.out _ (ChgN.of_gr hgB)) (fun _ => ?_)
      clear hK K
      try simp only [Act.put, List.getElem_toArray, List.getElem_cons_succ, List.getElem_cons_zero, List.setIfInBounds_toArray, List.set_cons_zero, List.set_cons_succ]
      refine wpAnyH_ready (rs := [5]) (by kernel_rfl) (by simp) ?_
      refine AllReadyH.cons rfl (fun K hK => ?_) (AllReadyH.nil)
      have hown5 := HO.out.gr hgB
      have hsrc5 := SlR.oneO w5 w.heap.size w5.heap.size (f, .slice a5 f.body.length k5) 55 (enc := eF) (k := 6) rfl (by have := hgA.size; (try simp at this); omega) rfl
      have hz2a := (hgB.block _ hl2).trans HZO.out
      have hl2b := lt_of_block hz2a
      have hbase5 : w.heap.size + 1 + 1 + 1 + 2 ≤ (w5.alloc (.cells #[.int .i64 f.root, .string f.pkg, .string f.name, .bool f.init, .int .i64 f.stamp, .slice a5 f.body.length k5] 55)).heap.size := by have q1 := hgB.size; have q2 := hgA.size; (try simp only [World.size_alloc] at q1 q2 ⊢); omega
      refine step_app _ rfl (.tmp 10) (.tmp 13) ti_filO rfl (by simp [Act.eval]) hown5.1 (by simp [Act.eval]) hsrc5 (fun _ _ => rfl) (by simp [eF, Value.oneCell']) (by unfold maxLen; simp; omega) (by simp; omega) hbase5 ?_
      intro v9 w9 hown9 hg9 hat9
      obtain ⟨va9, vc9, hv9, _, _⟩ := hown9.form
      have hv9' : v9 = .slice va9 (M.length + 1) vc9 := by rw [hv9, List.length_append]; rfl
      clear hv9
      subst hv9'
      have hz2b := (hg9.block _ hl2b (by intro q; have := (HOB.out _ (Or.inl q.symm)).2; omega)).trans hz2a
      obtain ⟨y2, yf2⟩ := row1 hz2b
      have hch9 := (ChgN.of_gr (p := (fun b => w.heap.size + 3 ≤ b)) hgB).trans (ChgN.of_grown hg9 (fun b hb => by have := HOB.out b (Or.inl hb); (try dsimp only); omega))
      refine hK.out _ _ (HS.out _ hch9) (fun hS9 => ?_)
      clear hK K
      try simp only [Act.put, List.getElem_toArray, List.getElem_cons_succ, List.getElem_cons_zero, List.setIfInBounds_toArray, List.set_cons_zero, List.set_cons_succ]
      refine wpAnyH_take (i := 6) (v := ?_) rfl (by kernel_rfl) (by kernel_rfl) (by kernel_rfl) (fun _ _ _ h => h) (Or.inl ⟨by rfl, ?_⟩) hS9 ?_
      rotate_left
      · (intro W hSw; (try dsimp only at hSw); go_simp; try (with_reducible rfl))
      try simp only [Act.put, List.getElem_toArray, List.getElem_cons_succ, List.getElem_cons_zero, List.setIfInBounds_toArray, List.set_cons_zero, List.set_cons_succ]
      refine wpAnyH_ready (rs := [7]) (by kernel_rfl) (by simp) ?_
      refine AllReadyH.cons rfl (fun K hK => ?_) (AllReadyH.nil)
      go_simp
      refine hK.out _ _ (HS.out _ (hch9.trans (ChgN.set _ (w1.heap.size) 0 _ (by (try dsimp only); omega)))) (fun _ => ?_)
      clear hK K
      try simp only [Act.put, List.getElem_toArray, List.getElem_cons_succ, List.getElem_cons_zero, List.setIfInBounds_toArray, List.set_cons_zero, List.set_cons_succ]
      refine wpAnyH_done (by kernel_rfl) ?_ _
      have hlo5 : ∀ b, Value.ownBlock (.slice a5 f.body.length k5) = some b → w1.heap.size + 1 ≤ b := fun b hb => by
        have := (ho5.block b hb).1
        (try simp at this)
        omega
      have ho5' := (ho5.mono (base' := w.heap.size + 1 + 1 + 1 + 2) (by simp; omega)).alloc (.cells #[.int .i64 f.root, .string f.pkg, .string f.name, .bool f.init, .int .i64 f.stamp, .slice a5 f.body.length k5] 55)
      have o9 := OwnN.app (x := (f, .slice a5 f.body.length k5)) hown5 ho5' (fun b hb q => by have h1 := hlo5 b hb; have h2 := (HOB.out b q).2; omega) hown9 hg9 hat9
      have hne9 : ∀ b, ownsN (.slice va9 (M.length + 1) vc9) (M ++ [(f, .slice a5 f.body.length k5)]) b → b ≠ w1.heap.size := fun b hb q => by
        rcases hb with hb | ⟨r, hr, hb⟩
        · rcases hat9 with e | e
          · rw [e] at hb; have := (HOB.out b (Or.inl hb)).2; omega
          · rw [e] at hb; injection hb with hb; have := hgB.size; (try simp at this hb); omega
        · rw [List.mem_append, List.mem_singleton] at hr
          rcases hr with hr | rfl
          · have := (HOB.out b (Or.inr ⟨r, hr, hb⟩)).2; omega
          · have := hlo5 b hb; omega
      have o10 := o9.chg (ChgN.set w9 w1.heap.size 0 (.slice va9 (M.length + 1) vc9) (p := fun b => b = w1.heap.size) rfl) (fun b hb q => hne9 b hb q)
      have hgw9 : Gr w (w9.setCell ⟨w1.heap.size, 0, none⟩ (.slice va9 (M.length + 1) vc9)) := ((hg2.tr hgB).grown hg9 (hg2.tr hgB).size (fun b hb => by have := (HOB.out b (Or.inl hb)).1; omega)).setCell (p := ⟨w1.heap.size, 0, none⟩) (by show w.heap.size ≤ w1.heap.size; omega) (.slice va9 (M.length + 1) vc9)
      have hzt := heap_set1 (b0 := .slice va9 (M.length + 1) vc9) hz2b
      have hk0 := set_othero (b' := w1.heap.size) (o := 0) (v := .slice va9 (M.length + 1) vc9) ((hg9.block w.heap.size (Nat.lt_of_lt_of_le (by simp <;> omega) (hgW.tr hgB).size) (by intro q; have := (HOB.out _ (Or.inl q.symm)).1; omega)).trans (((hgW.tr hgB).block _ (lt_of_block HZ0.out)).trans HZ0.out)) (by omega)
      have hk2 := set_othero (b' := w1.heap.size) (o := 0) (v := .slice va9 (M.length + 1) vc9) ((hg9.block (w.heap.size + 2) (Nat.lt_of_lt_of_le (by simp <;> omega) (hgW.tr hgB).size) (by intro q; have := (HOB.out _ (Or.inl q.symm)).1; omega)).trans (((hgW.tr hgB).block _ (lt_of_block HZ2.out)).trans HZ2.out)) (by omega)
      have hTs : ∀ r ∈ M ++ [(f, Value.slice a5 f.body.length k5)], SmF r := fun r hr => by
        rw [List.mem_append, List.mem_singleton] at hr
        rcases hr with hr | rfl
        · exact smF_of2 HSM.out HM.out r hr
        · exact hsf
      have hTm : (M ++ [(f, Value.slice a5 f.body.length k5)]).map (·.1) = L.map (·.1) ++ [f] := by rw [List.map_append, HM.out]; rfl
      have O10 := Lib.hid o10
      have HK0 := Lib.hid hk0
      have HK2 := Lib.hid hk2
      have HZT := Lib.hid hzt
      have HTS := Lib.hid hTs
      have HTM := Lib.hid hTm
      obtain ⟨x0, _⟩ := row1 hk0
      clear o9 ho5' hown5 hown9 hsrc5 hz2a hz2b hg9 hat9 hne9 hlo5 ho5 hgA hgB hb5 y2 yf2 x5 xf5 x6 xf6 xo xfo f0 f1 f2 f3 f4 f5 hk0 hk2 hzt hTs hTm o10 HZO HO hch9 hl2b hbase5
      go_wp2_with fail
      refine (H3.out _ hgw9).mono ?_
      rintro e w11 ⟨rfl, hb11⟩
      have hgw11 := hgw9.tr hb11
      obtain ⟨xt, _⟩ := row1 ((hb11.block _ (lt_of_block HZT.out)).trans HZT.out)
      have hk2 := (hb11.block _ (lt_of_block HK2.out)).trans HK2.out
      obtain ⟨z2, zf2⟩ := row1 hk2
      clear x0
      cases R1
      all_goals first
        | (go_wp2
           refine bodyPost_ret (results_row_tmp rfl _ _ (w.heap.size + 2) 25 _ (0, 0) _ _ rfl rfl (heap_set1 hk2) Tryd.underlying25 rfl (by kernel_rfl)) rfl ?_
           exact ⟨_, [], rfl, rfl, OwnN.nil _ (Own.nil _ _ _ _ _), hgw11.setCell (by show w.heap.size ≤ w.heap.size + 2; omega) _⟩)
        | (have hv12 := H4.out _ _ _ _ _ hgw11 ((O10.out.gr hb11).flR2) HTS.out (Nat.le_refl _)
           rw [HTM.out, hR2] at hv12
           have HV12 := Lib.hid hv12
           clear hv12
           go_wp2_with fail
           refine HV12.out.mono ?_
           rintro e w12 ⟨rfl, hb12⟩
           have hgw12 := hgw11.tr hb12
           have hk3 := (hb12.block _ (lt_of_block hk2)).trans hk2
           clear z2 zf2
           obtain ⟨z2, zf2⟩ := row1 hk3
           have ht3 := ((hb11.tr hb12).block _ (lt_of_block HZT.out)).trans HZT.out
           clear xt
           obtain ⟨xt, _⟩ := row1 ht3
           have HK3 := Lib.hid hk3
           clear hk2 hk3 ht3
           cases R2
           · go_wp2
             refine bodyPost_ret (results_row_tmp rfl _ _ (w.heap.size + 2) 25 _ (0, 0) _ _ rfl rfl (heap_set1 HK3.out) Tryd.underlying25 rfl (by kernel_rfl)) rfl ?_
             exact ⟨_, [], rfl, rfl, OwnN.nil _ (Own.nil _ _ _ _ _), hgw12.setCell (by show w.heap.size ≤ w.heap.size + 2; omega) _⟩
           · go_wp2
             refine bodyPost_ret (results_row_tmp rfl _ _ (w.heap.size + 2) 25 _ (0, 0) _ _ rfl rfl (heap_set1 HK3.out) Tryd.underlying25 rfl (by kernel_rfl)) rfl ?_
             exact ⟨_, _, rfl, HTM.out, ((O10.out.gr (hb11.tr hb12)).chg (ChgN.set _ _ _ _ (p := fun b => b = w.heap.size + 2) rfl) (fun b hb q => by have := (O10.out.block b hb).1; omega)).mono (by omega), hgw12.setCell (by show w.heap.size ≤ w.heap.size + 2; omega) _⟩)

end Go.Proofs.YtepljjaienpepaaDoor
